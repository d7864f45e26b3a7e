/- Chapter 2: the reference's journal. No condition. -/
import Derived.Test.YtmahmajoelmmeaaGreatJe
namespace Go.VM
open Go.Proofs
set_option maxRecDepth 4000
attribute [-simp] Int.not_lt Int.not_le Nat.not_lt Nat.not_le
theorem ref2_sector {b : List UInt8} {Q : LV → Prop} (h : Q (.d (.sl (byD (sect b))))) : VQ cf 88 [.sl (byD b)] Q := by
 refine V_intro rfl (S_intro Tryz.func88 rfl rfl (Nat.le_of_ble_eq_true rfl) ?_);simp;refine X_loop (fun (i : Nat) e S => (i ≤ 64 ∧ i ≤ b.length) ∧ e 0 = .d (.sl (byD b)) ∧ e 3 = .ar (.arr 0) 1 0 64 ∧ e 4 = .d (.int .i64 i) ∧ S.obj 0 = .arr 1 (byD (sectTo b i)) false) (fun i => 64 - i) 0 ?_ ?_
 ·simp [sectTo]
 ·intro i e S hI;obtain ⟨g1, g2, g3, g4, g5⟩ := hI;have fin : ¬ (i < b.length ∧ i < 64) → Q (.d (.sl (byD (sectTo b i)))) := fun hc => by rw [sectTo_all g1.1 g1.2 hc]; exact h
  simp [g2, g4];intro _;refine f_intro (fun j1 => ?_) (fun j1 => ?_)
  ·simp [g4, j1];refine f_intro (fun j2 => ?_) (fun j2 => ?_)
   ·simp [g2, g3, g4, g5, j1, j2, sectTo_length];have j3 : i < 64 := by omega
    simp [j3];exact ⟨i + 1, ⟨⟨by omega, by omega⟩, wrap_i64 (by omega) (by omega), by rw [sectTo_succ]⟩, by omega⟩
   ·simp [g3, g5, j2, sectTo_length];exact fin (by omega)
  ·simp [g3, g5, j1, sectTo_length];exact fin (by omega)
theorem ref2_Many {S : St} {id : Nat} {d : Dk} {Q : LV → St → Prop} (hI : IsR S id d) (hm : d.lasts.length ≤ 2000) (h : Q (.d (.int .i64 d.many)) S) : SQ cf 49 [.ptr id 0] S Q := by
 obtain ⟨hid, c0, c1, c3, h1, h2, h3⟩ := hI;refine S_intro Tryz.func49 rfl rfl (Nat.le_of_ble_eq_true rfl) ?_;have e : IntKind.i64.wrap ((d.lasts.length : Int) - 157) = (d.lasts.length : Int) - 157 := wrap_i64 (by omega) (by omega)
 have e2 : (if 0 < (d.lasts.length : Int) - 157 then (d.lasts.length : Int) - 157 else 0) = d.many := by unfold Dk.many; split <;> omega
 rcases h2 with ⟨rfl, h2⟩ | ⟨v, rfl⟩
 ·have hz : d.lasts.length = 0 := by rw [← rowD_length (enc := sb), h2]; rfl
  have hd : d.many = 0 := by unfold Dk.many; omega
  rw [hd] at h;simp [h1];exact h
 ·have e3 : (if 157 < (d.lasts.length : Int) then (d.lasts.length : Int) - 157 else 0) = d.many := by unfold Dk.many; split <;> omega
  simp [h1, e, e3];intro _;exact h
theorem ref2_write {S : St} {id n : Nat} {d : Dk} {l : List Wr} {Q : LV → St → Prop} (hI : IsR S id d) (hw : Ok d (n + l.length + 1)) (hl : l.length ≤ 1000000)
  (h : ∀ S', IsR S' id (d.writes l).2 → Mod S S' id → Q (.d (.int .i64 (d.writes l).1)) S') : SQ cf 101 [.ptr id 0, .d (.sl (rowD wrD l))] S Q := by
 refine S_intro Tryz.func101 rfl rfl (Nat.le_of_ble_eq_true rfl) ?_;simp;refine X_loop (fun (k : Nat) e S' => k ≤ l.length ∧ e 0 = .ptr id 0 ∧ e 1 = .d (.sl (rowD wrD l)) ∧ e 5 = .d (.int .i64 k) ∧ ∃ d', IsR S' id d' ∧ Mod S S' id ∧ Ok d' (n + (l.drop k).length + 1) ∧ d.writes l = d'.writes (l.drop k)) (fun k => l.length - k) 0 ?_ ?_
 ·simp;exact ⟨d, hI, Mod.refl _ _, hw, rfl⟩
 ·intro k e S' hJ;obtain ⟨g1, g2, g3, g5, d', hI', hM, hok, heq⟩ := hJ;simp [g3, g5];intro _;refine f_intro (fun j1 => ?_) (fun j1 => ?_)
  ·have hid := hI'.1;rw [drop_cons j1] at heq hok;have hok1 : Ok d' ((n + (l.drop (k + 1)).length + 1) + 1) := by simpa [Nat.add_assoc] using hok
   simp [j1];refine X_draw (by decide) ?_
   simp [g2, g3, g5, j1];refine shR_Write (hI'.of rfl (by simp; omega)) hok1.wf fun S2 hI2 ho2 hn2 hc2 he2 => ?_
   simp at hn2 hc2 he2;simp [hn2, hc2];have hI3 : IsR ⟨S2.obj, S'.next + 1300, S'.clk + 1300, S2.esc⟩ id (d'.write (nth l k).pos (nth l k).data).2 := hI2.of rfl (by show id < S'.next + 1300; omega)
   have hM' : Mod S ⟨S2.obj, S'.next + 1300, S'.clk + 1300, S2.esc⟩ id := hM.of (fun j hj hne => ho2 j hne) (by show S'.next ≤ S'.next + 1300; omega) (by show S'.clk ≤ S'.clk + 1300; omega) he2
   rw [Dk.writes_cons] at heq;refine f_intro (fun j2 => ?_) (fun j2 => ?_)
   ·rw [if_pos j2] at heq;simp [j2, g2, g3, g5];exact ⟨k + 1, ⟨by omega, wrap_i64 (by omega) (by omega), _, hI3, hM', by simpa using hok1.write (i := (nth l k).pos) (b := (nth l k).data), heq⟩, by omega⟩
   ·rw [if_neg j2] at heq;rw [heq] at h;simp [j2];exact h _ hI3 hM'
  ·have e0 : l.drop k = [] := List.drop_of_length_le (by omega)
   rw [e0] at heq hok;have hok1 : Ok d' (n + 1) := hok;simp [g2, j1];refine ref_Flush hI' hok1.wf fun S2 hI2 hM2 => ?_;have e1 : d.writes l = d'.flush := heq;rw [e1] at h;simp;exact h _ hI2 (hM.trans hM2)
def LitSl (S S' : St) (v : LV) (sz : Nat) (xs : List D) : Prop := v = .lit xs ∨ ∃ id, S.next ≤ id ∧ id < S'.next ∧ v = .ar (.arr id) sz 0 xs.length ∧ S'.obj id = .arr sz xs false
theorem LitSl.grow {S0 S : St} {v : LV} {sz b : Nat} {xs ys zs : List D} {Q : LV → St → Prop} (hv : LitSl S0 S v sz xs) (hn : S0.next ≤ S.next) (hz : xs ++ ys = zs) (hs : sized sz xs) (hy : ys ≠ []) (hf : fits zs.length b)
  (h : ∀ i S', S'.obj i = .arr sz zs false → S0.next ≤ i → i < S'.next → (Kept S0 S → Kept S0 S') → Q (.ar (.arr i) sz 0 zs.length) S') : TQ (growT sz b v ys) S Q := by
 rcases hv with rfl | ⟨i0, h1, h2, rfl, h4⟩
 ·subst hz;rw [List.length_append] at hf;rw [grow_lit hs hy hf];have := h S.next (S.alloc (.arr sz (xs ++ ys) false)) (by simp) hn (by simp) (fun hK => hK.alloc)
  rw [List.length_append] at this;exact this
 ·exact NewSl.grow (.inr ⟨i0, h1, h2, rfl, h4⟩) hn hz hf fun i S' a b c d _ _ _ _ _ => h i S' a b c d
theorem LitSl.lend {S0 S : St} {v : LV} {sz : Nat} {xs : List D} {Q : LV → St → Prop} (hv : LitSl S0 S v sz xs)
  (h : ∀ S', (Kept S0 S → Kept S0 S') → S'.next = S.next → (∀ j, (∀ sz xs fz, S.obj j ≠ .arr sz xs fz) → S'.obj j = S.obj j) → Q (.d (.sl xs)) S') : TQ (lend v) S Q := by
 rcases hv with rfl | ⟨i0, h1, h2, rfl, h4⟩
 ·exact h S (fun hK => hK) rfl (fun _ _ => rfl)
 ·simp [h4];exact h _ (fun hK => hK.set h1) (by simp) (fun j hj => by
   have : ¬ j = i0 := fun e => hj _ _ _ (by rw [e]; exact h4)
   simp [this])
theorem NewSl.lit {S S' : St} {v : LV} {sz : Nat} {xs : List D} (h : NewSl S S' v sz xs) : LitSl S S' v sz xs := by
 rcases h with ⟨rfl, rfl⟩ | h
 ·exact .inl rfl
 ·exact .inr h
theorem IsR.noarr {S : St} {id : Nat} {d : Dk} (h : IsR S id d) : ∀ sz xs fz, S.obj id ≠ .arr sz xs fz := by
 obtain ⟨_, _, _, _, h1, _⟩ := h;intro sz xs fz e;rw [h1] at e; cases e
theorem ref2_Format {S : St} {id n : Nat} {d : Dk} {Q : LV → St → Prop} (hI : IsR S id d) (hw : Ok d (n + 3000))
  (h : ∀ S', IsR S' id d.format.2 → Mod S S' id → Q (.d (.int .i64 d.format.1)) S') : SQ cf 62 [.ptr id 0] S Q := by
 refine S_intro Tryz.func62 rfl rfl (Nat.le_of_ble_eq_true rfl) ?_;have hmm : 0 ≤ d.many ∧ d.many ≤ 2000 := by have := hw.wf.many; unfold Dk.many; omega
 simp;refine ref2_Many hI hw.wf.many ?_;simp;refine f_intro (fun j1 => ?_) (fun j1 => ?_)
 ·rw [Dk.format, if_pos j1] at h;simp [j1];exact h _ hI (Mod.refl _ _)
 rw [Dk.format, if_neg j1] at h;simp [j1];refine ref2_sector (b := [97, 112, 115, 116]) ?_;simp;refine ref2_sector (b := []) ?_;simp;have hbig : d.many = (d.lasts.length : Int) - 157 := by unfold Dk.many at j1 ⊢; omega
 refine X_loop (fun (k : Nat) e S' => (k : Int) ≤ d.many ∧ e 0 = .ptr id 0 ∧ e 4 = .d (.int .i64 (157 + k)) ∧ Kept S S' ∧ LitSl S S' (e 3) 2 (rowD wrD (fmt k))) (fun k => d.many.toNat - k) 0 ?_ ?_
 ·simp;exact ⟨by omega, Kept.refl S, .inl (by rfl)⟩
 ·intro k e S' hJ;obtain ⟨g1, g2, g3, g4, g5⟩ := hJ;have hI' := hI.kept g4;obtain ⟨hid, c0, c1, c3, i1, i2, i3⟩ := hI';have hI' := hI.kept g4;obtain ⟨v, rfl⟩ : ∃ v, c0 = .own v 1 (rowD sb d.lasts) false := by
   rcases i2 with ⟨_, i2⟩ | i2
   ·have : d.lasts.length = 0 := by rw [← rowD_length (enc := sb), i2]; rfl
    omega
   ·exact i2
  simp [g2, g3, i1];intro _;refine f_intro (fun j2 => ?_) (fun j2 => ?_)
  ·simp [g3, j2];refine ref2_sector (b := []) ?_;simp;obtain ⟨zs, hzs⟩ : ∃ zs, zs = rowD wrD (fmt (k + 1)) := ⟨_, rfl⟩;have hst : rowD wrD (fmt k) ++ [D.agg [.int .i64 (157 + (k : Int)), .sl (byD (sect []))]] = zs := by rw [hzs]; exact fmt_row
   have hfit : fits zs.length 32 := by
    rw [hzs, rowD_length, fmt_length]; unfold fits; omega
   refine LitSl.grow g5 g4.2.1 hst (by rw [wrD_sized]; trivial) (by simp) hfit ?_
   intro i S5 s1 s2 s3 s4;simp [g2, g3];refine ⟨k + 1, ⟨by omega, ?_, s4 g4, ?_⟩, by omega⟩
   ·rw [wrap_i64 (by omega) (by omega)]; omega
   ·rw [← hzs];exact .inr ⟨i, s2, s3, rfl, s1⟩
  ·have hk : k = d.many.toNat := by omega
   simp [g2, j2];refine LitSl.lend g5 fun S5 s1 s2 s3 => ?_;have hlen : (fmt d.many.toNat).length ≤ 2002 := by rw [fmt_length]; omega
   have hw1 : Ok d (n + (fmt d.many.toNat).length + 1) := hw.less (by omega)
   simp;rw [hk];refine ref2_write (hI'.of (s3 id hI'.noarr) (by rw [s2]; exact hI'.1)) hw1 (by omega) fun S6 hI6 hM6 => ?_
   simp;exact h _ hI6 (((s1 g4).mod id).trans hM6)
end Go.VM
