/- Chapter 2: the reference's journal. No condition. -/
import Derived.Test.YtmahmajoelmmeaaGreatJe
namespace Go.VM
open Go.Proofs
set_option maxRecDepth 4000
attribute [-simp] Int.not_lt Int.not_le Nat.not_lt Nat.not_le
theorem ref2_sector {b : List UInt8} {Q : LV → Prop} (h : Q (.d (.sl (byD (sect b))))) : VQ cf 88 [.sl (byD b)] Q := by
 refine V_intro rfl (S_intro Tryz.func88 rfl rfl (Nat.le_of_ble_eq_true rfl) ?_);simp;refine X_loop (fun (i : Nat) e S => (i ≤ 64 ∧ i ≤ b.length) ∧ e 0 = .d (.sl (byD b)) ∧ e 3 = .ar (.arr 0) 1 0 64 ∧ e 4 = .d (.int .i64 i) ∧ S.obj 0 = .arr 1 (byD (sectTo b i)) false) (fun i => 64 - i) 0 ?_ ?_
 ·simp [sectTo]
 ·intro i e S hI;obtain ⟨g1, g2, g3, g4, g5⟩ := hI;have fin : ¬ (i < b.length ∧ i < 64) → Q (.d (.sl (byD (sectTo b i)))) := fun hc => by rw [sectTo_all g1.1 g1.2 hc]; exact h
  simp [g2, g4];intro _;refine f_intro (fun j1 => ?_) (fun j1 => ?_)
  ·simp [g4, j1];refine f_intro (fun j2 => ?_) (fun j2 => ?_)
   ·simp [g2, g3, g4, g5, j1, j2, sectTo_length];have j3 : i < 64 := by omega
    simp [j3];exact ⟨i + 1, ⟨⟨by omega, by omega⟩, wrap_i64 (by omega) (by omega), by rw [sectTo_succ]⟩, by omega⟩
   ·simp [g3, g5, j2, sectTo_length];exact fin (by omega)
  ·simp [g3, g5, j1, sectTo_length];exact fin (by omega)
theorem ref2_Many {S : St} {id : Nat} {d : Dk} {Q : LV → St → Prop} (hI : IsR S id d) (hm : d.lasts.length ≤ 2000) (h : Q (.d (.int .i64 d.many)) S) : SQ cf 49 [.ptr id 0] S Q := by
 obtain ⟨hid, c0, c1, c3, h1, h2, h3⟩ := hI;refine S_intro Tryz.func49 rfl rfl (Nat.le_of_ble_eq_true rfl) ?_;have e : IntKind.i64.wrap ((d.lasts.length : Int) - 157) = (d.lasts.length : Int) - 157 := wrap_i64 (by omega) (by omega)
 have e2 : (if 0 < (d.lasts.length : Int) - 157 then (d.lasts.length : Int) - 157 else 0) = d.many := by unfold Dk.many; split <;> omega
 rcases h2 with ⟨rfl, h2⟩ | ⟨v, rfl⟩
 ·have hz : d.lasts.length = 0 := by rw [← rowD_length (enc := sb), h2]; rfl
  have hd : d.many = 0 := by unfold Dk.many; omega
  rw [hd] at h;simp [h1];exact h
 ·have e3 : (if 157 < (d.lasts.length : Int) then (d.lasts.length : Int) - 157 else 0) = d.many := by unfold Dk.many; split <;> omega
  simp [h1, e, e3];intro _;exact h
theorem shR_Many {S : St} {id : Nat} {d : Dk} {K : LV → St → List Nat → List Nat → Prop} (hI : IsR S id d) (hm : d.lasts.length ≤ 2000) (hK : ∀ S2, IsR S2 id d → (∀ j, j ≠ id → S2.obj j = S.obj j) → S2.next = S.next → S2.clk = S.clk + 1 → S2.esc = S.esc → K (.d (.int .i64 d.many)) S2 [id] [id]) :
  ShD cf 49 [.ptr id 0] S K := ShD_R (d' := d) (x := .int .i64 d.many) hI rfl (by simp [argTame]) (fun S0 h0 => ref2_Many h0 hm ⟨rfl, h0⟩) hK
theorem ref2_index {n : Nat} {Q : LV → Prop} (hn : n ≤ 1000000) (h : Q (.d (.int .i64 (lists n)))) : VQ cf 100 [.int .i64 n] Q := by
 refine V_intro rfl (S_intro Tryz.func100 rfl rfl (Nat.le_of_ble_eq_true rfl) ?_);have e1 : IntKind.i64.wrap ((n : Int) + 31) = (n : Int) + 31 := wrap_i64 (by omega) (by omega)
 have e3 : IntKind.i64.wrap (((n : Int) + 31).tdiv 32) = (lists n : Int) := by
  have : ((n : Int) + 31).tdiv 32 = (lists n : Int) := by rw [Int.tdiv_eq_ediv_of_nonneg (by omega)]; unfold lists; omega
  rw [this, wrap_i64 (by unfold lists; omega) (by unfold lists; omega)]
 simp [e1, e3];exact h
theorem ref2_mark {n : Nat} {Q : LV → Prop} (hn : n ≤ 1000000) (h : Q (.d (.sl (byD (markB n))))) : VQ cf 102 [.int .i64 n] Q := by
 refine V_intro rfl (S_intro Tryz.func102 rfl rfl (Nat.le_of_ble_eq_true rfl) ?_);have e1 : IntKind.i64.wrap ((n : Int) / 256) = (n : Int) / 256 := wrap_i64 (by omega) (by omega)
 have e2 : ((n : Int).tmod 256) = (n : Int) % 256 := Int.tmod_eq_emod_of_nonneg (by omega)
 simp [e1, e2, u8_mod];refine ref2_sector (b := [109, 97, 114, 107] ++ twoB n) ?_;simp;exact h
theorem ref2_write {S : St} {id n : Nat} {d : Dk} {l : List Wr} {Q : LV → St → Prop} (hI : IsR S id d) (hw : Ok d (n + l.length + 1)) (hl : l.length ≤ 1000000)
  (h : ∀ S', IsR S' id (d.writes l).2 → Mod S S' id → Q (.d (.int .i64 (d.writes l).1)) S') : SQ cf 101 [.ptr id 0, .d (.sl (rowD wrD l))] S Q := by
 refine S_intro Tryz.func101 rfl rfl (Nat.le_of_ble_eq_true rfl) ?_;simp;refine X_loop (fun (k : Nat) e S' => k ≤ l.length ∧ e 0 = .ptr id 0 ∧ e 1 = .d (.sl (rowD wrD l)) ∧ e 5 = .d (.int .i64 k) ∧ ∃ d', IsR S' id d' ∧ Mod S S' id ∧ Ok d' (n + (l.drop k).length + 1) ∧ d.writes l = d'.writes (l.drop k)) (fun k => l.length - k) 0 ?_ ?_
 ·simp;exact ⟨d, hI, Mod.refl _ _, hw, rfl⟩
 ·intro k e S' hJ;obtain ⟨g1, g2, g3, g5, d', hI', hM, hok, heq⟩ := hJ;simp [g3, g5];intro _;refine f_intro (fun j1 => ?_) (fun j1 => ?_)
  ·have hid := hI'.1;rw [drop_cons j1] at heq hok;have hok1 : Ok d' ((n + (l.drop (k + 1)).length + 1) + 1) := by simpa [Nat.add_assoc] using hok
   simp [j1];refine X_draw (by decide) ?_
   simp [g2, g3, g5, j1];refine shR_Write (hI'.of rfl (by simp; omega)) hok1.wf fun S2 hI2 ho2 hn2 hc2 he2 => ?_
   simp at hn2 hc2 he2;simp [hn2, hc2];have hI3 : IsR ⟨S2.obj, S'.next + 1300, S'.clk + 1300, S2.esc⟩ id (d'.write (nth l k).pos (nth l k).data).2 := hI2.of rfl (by show id < S'.next + 1300; omega)
   have hM' : Mod S ⟨S2.obj, S'.next + 1300, S'.clk + 1300, S2.esc⟩ id := hM.of (fun j hj hne => ho2 j hne) (by show S'.next ≤ S'.next + 1300; omega) (by show S'.clk ≤ S'.clk + 1300; omega) he2
   rw [Dk.writes_cons] at heq;refine f_intro (fun j2 => ?_) (fun j2 => ?_)
   ·rw [if_pos j2] at heq;simp [j2, g2, g3, g5];exact ⟨k + 1, ⟨by omega, wrap_i64 (by omega) (by omega), _, hI3, hM', by simpa using hok1.write (i := (nth l k).pos) (b := (nth l k).data), heq⟩, by omega⟩
   ·rw [if_neg j2] at heq;rw [heq] at h;simp [j2];exact h _ hI3 hM'
  ·have e0 : l.drop k = [] := List.drop_of_length_le (by omega)
   rw [e0] at heq hok;have hok1 : Ok d' (n + 1) := hok;simp [g2, j1];refine ref_Flush hI' hok1.wf fun S2 hI2 hM2 => ?_;have e1 : d.writes l = d'.flush := heq;rw [e1] at h;simp;exact h _ hI2 (hM.trans hM2)
theorem ref2_applied {S : St} {id n : Nat} {d : Dk} {l : List Wr} {Q : LV → St → Prop} (hI : IsR S id d) (hw : Ok d (n + l.length + 3)) (hl : l.length ≤ 1000000)
  (h : ∀ S', IsR S' id (d.lands l).2 → Mod S S' id → Q (.d (.int .i64 (d.lands l).1)) S') : SQ cf 91 [.ptr id 0, .d (.sl (rowD wrD l))] S Q := by
 refine S_intro Tryz.func91 rfl rfl (Nat.le_of_ble_eq_true rfl) ?_;simp;have hw1 : Ok d ((n + 2) + l.length + 1) := hw.less (by omega)
 refine ref2_write hI hw1 hl fun S1 hI1 hM1 => ?_;have hw2 : Ok (d.writes l).2 (n + 2) := hw1.writes;simp;refine f_intro (fun j2 => ?_) (fun j2 => ?_)
 ·simp [j2];refine ref2_sector (b := []) ?_;simp;refine ref2_write (l := [⟨1, sect []⟩]) (n := n) (d := (d.writes l).2) hI1 hw2 (by decide) fun S2 hI2 hM2 => ?_
  rw [Dk.lands, if_pos j2] at h;simp;exact h _ hI2 (hM1.trans hM2)
 ·simp [j2];rw [Dk.lands, if_neg j2] at h;exact h _ hI1 hM1
def LitSl (S S' : St) (v : LV) (sz : Nat) (xs : List D) : Prop := v = .lit xs ∨ ∃ id, S.next ≤ id ∧ id < S'.next ∧ v = .ar (.arr id) sz 0 xs.length ∧ S'.obj id = .arr sz xs false
theorem LitSl.grow {S0 S : St} {v : LV} {sz b : Nat} {xs ys zs : List D} {Q : LV → St → Prop} (hv : LitSl S0 S v sz xs) (hn : S0.next ≤ S.next) (hz : xs ++ ys = zs) (hs : sized sz xs) (hy : ys ≠ []) (hf : fits zs.length b)
  (h : ∀ i S', S'.obj i = .arr sz zs false → S0.next ≤ i → i < S'.next → (Kept S0 S → Kept S0 S') → Q (.ar (.arr i) sz 0 zs.length) S') : TQ (growT sz b v ys) S Q := by
 rcases hv with rfl | ⟨i0, h1, h2, rfl, h4⟩
 ·subst hz;rw [List.length_append] at hf;rw [grow_lit hs hy hf];have := h S.next (S.alloc (.arr sz (xs ++ ys) false)) (by simp) hn (by simp) (fun hK => hK.alloc)
  rw [List.length_append] at this;exact this
 ·exact NewSl.grow (.inr ⟨i0, h1, h2, rfl, h4⟩) hn hz hf fun i S' a b c d _ _ _ _ _ => h i S' a b c d
theorem LitSl.lend {S0 S : St} {v : LV} {sz : Nat} {xs : List D} {Q : LV → St → Prop} (hv : LitSl S0 S v sz xs)
  (h : ∀ S', (Kept S0 S → Kept S0 S') → S'.next = S.next → (∀ j, (∀ sz xs fz, S.obj j ≠ .arr sz xs fz) → S'.obj j = S.obj j) → Q (.d (.sl xs)) S') : TQ (lend v) S Q := by
 rcases hv with rfl | ⟨i0, h1, h2, rfl, h4⟩
 ·exact h S (fun hK => hK) rfl (fun _ _ => rfl)
 ·simp [h4];exact h _ (fun hK => hK.set h1) (by simp) (fun j hj => by
   have : ¬ j = i0 := fun e => hj _ _ _ (by rw [e]; exact h4)
   simp [this])
theorem NewSl.lit {S S' : St} {v : LV} {sz : Nat} {xs : List D} (h : NewSl S S' v sz xs) : LitSl S S' v sz xs := by
 rcases h with ⟨rfl, rfl⟩ | h
 ·exact .inl rfl
 ·exact .inr h
theorem IsR.noarr {S : St} {id : Nat} {d : Dk} (h : IsR S id d) : ∀ sz xs fz, S.obj id ≠ .arr sz xs fz := by
 obtain ⟨_, _, _, _, h1, _⟩ := h;intro sz xs fz e;rw [h1] at e; cases e
theorem ref2_Format {S : St} {id n : Nat} {d : Dk} {Q : LV → St → Prop} (hI : IsR S id d) (hw : Ok d (n + 3000))
  (h : ∀ S', IsR S' id d.format.2 → Mod S S' id → Q (.d (.int .i64 d.format.1)) S') : SQ cf 62 [.ptr id 0] S Q := by
 refine S_intro Tryz.func62 rfl rfl (Nat.le_of_ble_eq_true rfl) ?_;have hmm : 0 ≤ d.many ∧ d.many ≤ 2000 := by have := hw.wf.many; unfold Dk.many; omega
 simp;refine ref2_Many hI hw.wf.many ?_;simp;refine f_intro (fun j1 => ?_) (fun j1 => ?_)
 ·rw [Dk.format, if_pos j1] at h;simp [j1];exact h _ hI (Mod.refl _ _)
 rw [Dk.format, if_neg j1] at h;simp [j1];refine ref2_sector (b := [97, 112, 115, 116]) ?_;simp;refine ref2_sector (b := []) ?_;simp;have hbig : d.many = (d.lasts.length : Int) - 157 := by unfold Dk.many at j1 ⊢; omega
 refine X_loop (fun (k : Nat) e S' => (k : Int) ≤ d.many ∧ e 0 = .ptr id 0 ∧ e 4 = .d (.int .i64 (157 + k)) ∧ Kept S S' ∧ LitSl S S' (e 3) 2 (rowD wrD (fmt k))) (fun k => d.many.toNat - k) 0 ?_ ?_
 ·simp;exact ⟨by omega, Kept.refl S, .inl (by rfl)⟩
 ·intro k e S' hJ;obtain ⟨g1, g2, g3, g4, g5⟩ := hJ;have hI' := hI.kept g4;obtain ⟨hid, c0, c1, c3, i1, i2, i3⟩ := hI';have hI' := hI.kept g4;obtain ⟨v, rfl⟩ : ∃ v, c0 = .own v 1 (rowD sb d.lasts) false := by
   rcases i2 with ⟨_, i2⟩ | i2
   ·have : d.lasts.length = 0 := by rw [← rowD_length (enc := sb), i2]; rfl
    omega
   ·exact i2
  simp [g2, g3, i1];intro _;refine f_intro (fun j2 => ?_) (fun j2 => ?_)
  ·simp [g3, j2];refine ref2_sector (b := []) ?_;simp;obtain ⟨zs, hzs⟩ : ∃ zs, zs = rowD wrD (fmt (k + 1)) := ⟨_, rfl⟩;have hst : rowD wrD (fmt k) ++ [D.agg [.int .i64 (157 + (k : Int)), .sl (byD (sect []))]] = zs := by rw [hzs]; exact fmt_row
   have hfit : fits zs.length 32 := by
    rw [hzs, rowD_length, fmt_length]; unfold fits; omega
   refine LitSl.grow g5 g4.2.1 hst (by rw [wrD_sized]; trivial) (by simp) hfit ?_
   intro i S5 s1 s2 s3 s4;simp [g2, g3];refine ⟨k + 1, ⟨by omega, ?_, s4 g4, ?_⟩, by omega⟩
   ·rw [wrap_i64 (by omega) (by omega)]; omega
   ·rw [← hzs];exact .inr ⟨i, s2, s3, rfl, s1⟩
  ·have hk : k = d.many.toNat := by omega
   simp [g2, j2];refine LitSl.lend g5 fun S5 s1 s2 s3 => ?_;have hlen : (fmt d.many.toNat).length ≤ 2002 := by rw [fmt_length]; omega
   have hw1 : Ok d (n + (fmt d.many.toNat).length + 1) := hw.less (by omega)
   simp;rw [hk];refine ref2_write (hI'.of (s3 id hI'.noarr) (by rw [s2]; exact hI'.1)) hw1 (by omega) fun S6 hI6 hM6 => ?_
   simp;exact h _ hI6 (((s1 g4).mod id).trans hM6)
theorem ref_ReadN {S : St} {id n : Nat} {d : Dk} {i : Int} {Q : LV → St → Prop} (hI : IsR S id d) (hw : WfD d n)
  (hn : d.read i = [] → Q (.lit []) S) (hs : (d.read i).length = 64 → Q (.ar (.arr S.next) 1 0 64) (S.alloc (.arr 1 (byD (d.read i)) false))) : SQ cf 87 [.ptr id 0, .d (.int .i64 i)] S Q := by
 have hI0 := hI;obtain ⟨hid, c0, c1, c4, h1, h2, h3, h4⟩ := hI;refine S_intro Tryz.func87 rfl rfl (Nat.le_of_ble_eq_true rfl) ?_;have hbad : d.has i = false → Q (.lit []) S := fun hc => hn (by simp [Dk.read, hc])
 simp;refine f_intro (fun k1 => ?_) (fun k1 => ?_)
 ·simp [k1];exact hbad (by simp [Dk.has]; omega)
 ·simp [k1, h1];rcases h2 with ⟨rfl, h2⟩ | ⟨v0, rfl⟩
  ·have hz : d.lasts.length = 0 := by rw [← rowD_length (enc := sb), h2]; rfl
   simp [show 0 ≤ i from by omega]
   exact hbad (by simp [Dk.has]; omega)
  ·simp;intro _;refine f_intro (fun k2 => ?_) (fun k2 => ?_)
   ·simp [k2];exact hbad (by simp [Dk.has]; omega)
   ·have hi : d.has i = true := by simp [Dk.has]; omega
    have hir : i.toNat < d.lasts.length := by omega
    have hov : ∀ k, (over (d.waits.take k) i (nth d.lasts i.toNat)).length = 64 := by
     intro k;have : ∀ (ws : List Wr) (b : List UInt8), b.length = 64 → (∀ w ∈ ws, w.data.length = 64) → (over ws i b).length = 64 := by
      intro ws
      induction ws with
      | nil => intro b hb _; exact hb
      | cons w ws ih =>
       intro b hb hws;refine ih _ ?_ fun w' hw' => hws w' (by simp [hw'])
       show (if w.pos = i then w.data else b).length = 64;split
       ·exact hws w (by simp)
       ·exact hb
     exact this _ _ (hw.last _ (nth_mem hir)) fun w hw2 => (hw.wait w (List.mem_of_mem_take hw2)).2
    have fin : d.read i = over d.waits i (nth d.lasts i.toNat) := by simp [Dk.read, hi]
    have hfull : (over d.waits i (nth d.lasts i.toNat)).length = 64 := by have := hov d.waits.length; rwa [List.take_length] at this
    have end1 : Q (.ar (.arr S.next) 1 0 64) (S.alloc (.arr 1 (byD (d.read i)) false)) := by
     exact hs (by rw [fin]; exact hfull)
    simp [k2, h1, hir, show 0 ≤ i from by omega]
    refine ⟨by omega, ?_⟩
    have e0 : Env → Prop := fun e => e 0 = .ptr id 0 ∧ e 1 = .d (.int .i64 i);rcases h3 with ⟨rfl, h3⟩ | ⟨v, rfl⟩
    ·have hz : d.waits = [] := by
      cases hd : d.waits with
      | nil => rfl
      | cons b l => rw [hd] at h3; cases h3
     rw [hz] at fin hfull;refine X_loop (fun (k : Nat) e S' => S' = S ∧ e 0 = .ptr id 0 ∧ e 5 = .d (.sl (byD (nth d.lasts i.toNat))) ∧ e 6 = .d (.int .i64 0)) (fun k => k) 0 ?_ ?_
     ·simp
     ·intro k e S' hJ;obtain ⟨rfl, g0, g1, g2⟩ := hJ;have hfull' : (nth d.lasts i.toNat).length = 64 := hfull;simp [g0, g1, g2, h1, hfull'];rw [fin] at end1;exact end1
    ·refine X_loop (fun (k : Nat) e S' => k ≤ d.waits.length ∧ e 0 = .ptr id 0 ∧ e 1 = .d (.int .i64 i) ∧ e 5 = .d (.sl (byD (over (d.waits.take k) i (nth d.lasts i.toNat)))) ∧ e 6 = .d (.int .i64 k) ∧ S' = S) (fun k => d.waits.length - k) 0 ?_ ?_
     ·simp [over]
     ·intro k e S' hJ;obtain ⟨g1, g2, g3, g4, g5, rfl⟩ := hJ;simp [g2, g5, h1];intro _;refine f_intro (fun j1 => ?_) (fun j1 => ?_)
      ·have hsn : over (d.waits.take (k + 1)) i (nth d.lasts i.toNat) = if (nth d.waits k).pos = i then (nth d.waits k).data else over (d.waits.take k) i (nth d.lasts i.toNat) := by
        rw [List.take_add_one, nth_get j1];simp [over]
       have hf := hw.few;simp [g2, g3, g5, h1, j1];refine f_intro (fun j2 => ?_) (fun j2 => ?_)
       ·simp [j2, g2, g3, g5, h1, j1];refine ⟨k + 1, ⟨by omega, ?_, wrap_i64 (by omega) (by omega)⟩, by omega⟩
        rw [hsn, if_pos j2]
       ·simp [j2, g2, g3, g4, g5];refine ⟨k + 1, ⟨by omega, ?_, wrap_i64 (by omega) (by omega)⟩, by omega⟩
        rw [hsn, if_neg j2]
      ·have hk : k = d.waits.length := by omega
       subst hk;rw [List.take_length] at g4;simp [g4, hfull];rw [fin] at end1;exact end1
theorem ref2_Read {S : St} {id n : Nat} {d : Dk} {i : Int} {Q : LV → St → Prop} (hI : IsR S id d) (hw : Ok d n)
  (h : ∀ S' v, IsR S' id d → Kept S S' → NewSl S S' v 1 (byD (d.jread i)) → Q v S') : SQ cf 51 [.ptr id 0, .d (.int .i64 i)] S Q := by
 refine S_intro Tryz.func51 rfl rfl (Nat.le_of_ble_eq_true rfl) ?_;have hmm : 0 ≤ d.many ∧ d.many ≤ 2000 := by have := hw.wf.many; unfold Dk.many; omega
 have hid := hI.1;simp;refine f_intro (fun j1 => ?_) (fun j1 => ?_)
 ·simp [j1];exact h _ _ hI (Kept.refl S) (.inl ⟨rfl, by rw [Dk.jread, if_pos (.inl j1)]; rfl⟩)
 ·simp [j1];refine ref2_Many hI hw.wf.many ?_;simp;refine f_intro (fun j2 => ?_) (fun j2 => ?_)
  ·simp [j2];exact h _ _ hI (Kept.refl S) (.inl ⟨rfl, by rw [Dk.jread, if_pos (.inr j2)]; rfl⟩)
  ·have e1 : IntKind.i64.wrap (157 + i) = 157 + i := wrap_i64 (by omega) (by omega)
   have e2 : d.jread i = d.read (157 + i) := if_neg (by omega)
   simp [j2, e1];rw [e2] at h;refine ref_ReadN hI hw.wf (fun hr => ?_) (fun hr => ?_)
   ·simp;exact h _ _ hI (Kept.refl S) (.inl ⟨rfl, by rw [hr]; rfl⟩)
   ·simp;have q1 : ¬ id = S.next := by omega
    exact h _ _ (hI.of (by simp [q1]) (by simp; omega)) (Kept.refl S).alloc (.inr ⟨S.next, Nat.le_refl _, by simp, by rw [byD_length, hr], by simp⟩)
def refMark (b : List UInt8) : Int := if (marked b).2 then (marked b).1 else -1
set_option maxHeartbeats 1000000 in
theorem ref2_marked {b : List UInt8} {Q : LV → Prop} (hb : b.length = 64) (h : Q (.d (.int .i64 (refMark b)))) : VQ cf 89 [.sl (byD b)] Q := by
 refine V_intro rfl (S_intro Tryz.func89 rfl rfl (Nat.le_of_ble_eq_true rfl) ?_);simp;refine X_draw (by decide) ?_
 simp;refine ref2_sector (b := []) ?_;simp;refine f_intro (fun j1 => ?_) (fun j1 => ?_)
 ·have e : refMark b = 0 := by unfold refMark marked; rw [if_pos j1]; rfl
  rw [e] at h;simp [j1];exact h
 simp [j1];refine X_draw (by decide) ?_
 have a0 := (nth b 4).toNat_lt;have a1 := (nth b 5).toNat_lt;have w1 : IntKind.i64.wrap (IntKind.i64.wrap (((nth b 4).toNat : Int) * 256) + ((nth b 5).toNat : Int)) = numAt b 4 := by
  rw [wrap_i64 (n := ((nth b 4).toNat : Int) * 256) (by omega) (by omega), wrap_i64 (by omega) (by omega)]
  show _ = (((nth b 4).toNat * 256 + (nth b 5).toNat : Nat) : Int);omega
 have hm : marked b = (numAt b 4, decide (1 ≤ numAt b 4) && (decide (numAt b 4 ≤ 150) && decide (b = markB (numAt b 4)))) := by
  unfold marked; rw [if_neg j1, if_neg (fun h => h hb)]
 have hr : refMark b = if 1 ≤ numAt b 4 ∧ numAt b 4 ≤ 150 ∧ b = markB (numAt b 4) then numAt b 4 else -1 := by
  unfold refMark; rw [hm]; simp
 simp [w1];refine ⟨by omega, by omega, ?_⟩
 refine X_draw (by decide) ?_
 simp;refine f_intro (fun k1 => ?_) (fun k1 => ?_)
 ·rw [hr, if_neg (by omega)] at h
  simp [k1];exact h
 ·simp [k1];refine f_intro (fun k2 => ?_) (fun k2 => ?_)
  ·rw [hr, if_neg (by omega)] at h
   simp [k2];exact h
  ·simp [k2];obtain ⟨N, hN⟩ : ∃ N : Nat, numAt b 4 = N := ⟨(numAt b 4).toNat, by omega⟩
   rw [hN] at k1 k2 hr ⊢;refine ref2_mark (n := N) (by omega) ?_
   simp;refine f_intro (fun k3 => ?_) (fun k3 => ?_)
   ·rw [hr, if_pos ⟨by omega, by omega, k3⟩] at h
    simp [← k3];exact h
   ·rw [hr, if_neg (by rintro ⟨_, _, h⟩; exact k3 h)] at h
    simp [k3];exact h
theorem ref2_logged {S : St} {id n m : Nat} {d : Dk} {Q : LV → St → Prop} (hI : IsR S id d) (hw : Ok d m) (hm : 0 < d.many) (hn : n ≤ 150)
  (h1 : logOk d n = true → ∀ S' v, IsR S' id d → Kept S S' → NewSl S S' v 2 (rowD wrD (logW d n n)) → Q (.tup [v, .d (.bool true)]) S')
  (h2 : logOk d n = false → ∀ S', IsR S' id d → Kept S S' → Q (.tup [.lit [], .d (.bool false)]) S') : SQ cf 90 [.ptr id 0, .d (.int .i64 n)] S Q := by
 refine S_intro Tryz.func90 rfl rfl (Nat.le_of_ble_eq_true rfl) ?_;simp;refine X_loop (fun (k : Nat) e S' => k ≤ n ∧ e 0 = .ptr id 0 ∧ e 1 = .d (.int .i64 n) ∧ e 7 = .d (.int .i64 k) ∧ IsR S' id d ∧ Kept S S' ∧ NewSl S S' (e 6) 2 (rowD wrD (logW d n k)) ∧ ∀ i, i < k → logAt d i < d.many) (fun k => n - k) 0 ?_ ?_
 ·simp;exact ⟨hI, Kept.refl S, .inl ⟨rfl, rfl⟩⟩
 ·intro k e S' hJ;obtain ⟨g1, g2, g3, g5, hI', hK, g6, g7⟩ := hJ;simp [g3, g5];refine f_intro (fun j1 => ?_) (fun j1 => ?_)
  ·have e1 : IntKind.i64.wrap (2 + IntKind.i64.wrap ((k : Int) / 32)) = 2 + (k : Int) / 32 := by
    rw [wrap_i64 (n := (k : Int) / 32) (by omega) (by omega), wrap_i64 (by omega) (by omega)]
   have e2 : IntKind.i64.wrap (2 * (k : Int).tmod 32) = 2 * ((k : Int) % 32) := by
    rw [Int.tmod_eq_emod_of_nonneg (by omega), wrap_i64 (by omega) (by omega)]
   have e2' : IntKind.i64.wrap (2 * ((k : Int) % 32) + 1) = 2 * ((k : Int) % 32) + 1 := wrap_i64 (by omega) (by omega)
   have e3 : (2 * ((k : Int) % 32)).toNat = 2 * (k % 32) := by omega
   have e3' : (2 * ((k : Int) % 32) + 1).toNat = 2 * (k % 32) + 1 := by omega
   have hbig : (157 : Int) < d.lasts.length := by unfold Dk.many at hm; omega
   have hlen : ∀ i : Int, 0 ≤ i → i < 157 → (d.read i).length = 64 := fun i a b => hw.wf.read a (by omega)
   have hl1 := hlen (2 + (k : Int) / 32) (by omega) (by omega)
   have hid' := hI'.1;simp [g2, g5, j1, e1];refine ref_ReadN hI' hw.wf (fun hr => by rw [hr] at hl1; cases hl1) (fun _ => ?_)
   have q1 : ¬ id = S'.next := by omega
   have hI2 : IsR (S'.alloc (.arr 1 (byD (d.read (2 + (k : Int) / 32))) false)) id d := hI'.of (by simp [q1]) (by simp; omega)
   have hK2 := hK.alloc (o := .arr 1 (byD (d.read (2 + (k : Int) / 32))) false);have g6' := g6.alloc (o := .arr 1 (byD (d.read (2 + (k : Int) / 32))) false);have o2 : (S'.alloc (.arr 1 (byD (d.read (2 + (k : Int) / 32))) false)).obj S'.next = .arr 1 (byD (d.read (2 + (k : Int) / 32))) false := by simp
   have n2 : (S'.alloc (.arr 1 (byD (d.read (2 + (k : Int) / 32))) false)).next = S'.next + 1 := by simp
   have lt1 : 2 * (k % 32) < 64 := by omega
   have lt2 : 2 * (k % 32) + 1 < 64 := by omega
   generalize S'.alloc (.arr 1 (byD (d.read (2 + (k : Int) / 32))) false) = S2 at hI2 hK2 g6' o2 n2;simp;refine X_drawM [0, 0, 2, 6, 15, 31, 63, 127, 0, 0, 512, 1536, 3584, 7936, 16128, 32512, 65535, 131071] (by decide +kernel) (by decide +kernel) ?_
   have a0 := (nth (d.read (2 + (k : Int) / 32)) (2 * (k % 32))).toNat_lt;have a1 := (nth (d.read (2 + (k : Int) / 32)) (2 * (k % 32) + 1)).toNat_lt;have w1 : IntKind.i64.wrap (IntKind.i64.wrap (((nth (d.read (2 + (k : Int) / 32)) (2 * (k % 32))).toNat : Int) * 256) + ((nth (d.read (2 + (k : Int) / 32)) (2 * (k % 32) + 1)).toNat : Int)) = logAt d k := by
    rw [wrap_i64 (n := ((nth (d.read (2 + (k : Int) / 32)) (2 * (k % 32))).toNat : Int) * 256) (by omega) (by omega), wrap_i64 (by omega) (by omega)]
    show _ = (((nth (d.read (2 + (k : Int) / 32)) (2 * (k % 32))).toNat * 256 + (nth (d.read (2 + (k : Int) / 32)) (2 * (k % 32) + 1)).toNat : Nat) : Int);omega
   have hat0 : 0 ≤ logAt d k := by unfold logAt numAt; omega
   simp [g2, g5, e2, e2', e3, e3', o2, hl1, lt1, lt2, w1];refine ⟨by omega, by omega, ?_⟩
   have hI3 : IsR ⟨S2.obj, S2.next + 1800, S2.clk + 1800, S2.esc⟩ id d := hI2.of rfl (by show id < S2.next + 1800; omega)
   have hK3 : Kept S ⟨S2.obj, S2.next + 1800, S2.clk + 1800, S2.esc⟩ := hK2.of (fun j _ => rfl) (by show S2.next ≤ S2.next + 1800; omega) (by show S2.clk ≤ S2.clk + 1800; omega) rfl
   have g8 : NewSl S ⟨S2.obj, S2.next + 1800, S2.clk + 1800, S2.esc⟩ (e 6) 2 (rowD wrD (logW d n k)) := g6'.kept ⟨fun _ _ => rfl, by show S2.next ≤ S2.next + 1800; omega, by show S2.clk ≤ S2.clk + 1800; omega, rfl⟩
   generalize (⟨S2.obj, S2.next + 1800, S2.clk + 1800, S2.esc⟩ : St) = S3 at hI3 hK3 g8;refine ref2_Many hI3 hw.wf.many ?_;simp;refine f_intro (fun j2 => ?_) (fun j2 => ?_)
   ·simp [j2];refine h2 ?_ _ hI3 hK3
    cases hh : logOk d n with
    | false => rfl
    | true =>
     simp only [logOk, List.all_eq_true, decide_eq_true_eq, List.mem_range] at hh;have := hh k j1;omega
   ·have e4 : IntKind.i64.wrap (157 + logAt d k) = 157 + logAt d k := by
     have := hw.wf.many;unfold Dk.many at j2;exact wrap_i64 (by omega) (by omega)
    simp [j2, g2, g3, e4];refine ref2_index (by omega) ?_
    have hls : lists n ≤ 5 := by unfold lists; omega
    have e5 : IntKind.i64.wrap (IntKind.i64.wrap (2 + (lists n : Int)) + (k : Int)) = 2 + (lists n : Int) + (k : Int) := by
     rw [wrap_i64 (n := 2 + (lists n : Int)) (by omega) (by omega), wrap_i64 (by omega) (by omega)]
    simp [g5, e5];have hl2 := hlen (2 + (lists n : Int) + (k : Int)) (by omega) (by omega)
    refine ref_ReadN hI3 hw.wf (fun hr => by rw [hr] at hl2; cases hl2) (fun _ => ?_)
    have hid3 := hI3.1;have hl2' : 64 ≤ (d.read (2 + (lists n : Int) + (k : Int))).length := by omega
    have ht2 : (d.read (2 + (lists n : Int) + (k : Int))).take 64 = d.read (2 + (lists n : Int) + (k : Int)) := List.take_of_length_le (by omega)
    obtain ⟨zs, hzs⟩ : ∃ zs, zs = rowD wrD (logW d n (k + 1)) := ⟨_, rfl⟩;have hst : rowD wrD (logW d n k) ++ [D.agg [.int .i64 (157 + logAt d k), .sl (byD (d.read (2 + (lists n : Int) + (k : Int))))]] = zs := by
     rw [hzs, logW_succ]; simp [rowD]; rfl
    have hfit : fits zs.length 32 := by
     rw [hzs, rowD_length, logW_length]; unfold fits; omega
    simp [hl2];refine NewSl.grow g8.alloc hK3.alloc.2.1 hst hfit ?_;intro i S5 s1 s2 s3 s4 s5 s6 s7 s8 s9;simp [g2, g3, g5];have hK5 := s4 hK3.alloc;refine ⟨k + 1, ⟨by omega, wrap_i64 (by omega) (by omega), hI.kept hK5, hK5, ?_, fun i hi => ?_⟩, by omega⟩
    ·rw [← hzs];exact .inr ⟨i, s2, s3, rfl, s1⟩
    ·by_cases h : i = k
     ·rw [h]; omega
     ·exact g7 i (by omega)
  ·have : k = n := by omega
   subst this;simp;refine h1 ?_ _ _ hI' hK g6;simp only [logOk, List.all_eq_true, decide_eq_true_eq, List.mem_range];exact g7
end Go.VM
