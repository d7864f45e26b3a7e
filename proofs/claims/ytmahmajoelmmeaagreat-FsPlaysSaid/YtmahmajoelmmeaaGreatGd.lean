/- Chapter 5: the document's files behind operations. No condition. -/
import Derived.Test.YtmahmajoelmmeaaGreatGc
namespace Go.VM
open Go.Proofs
set_option maxRecDepth 4000
attribute [-simp] Int.not_lt Int.not_le Nat.not_lt Nat.not_le
def eraF (l : List Fl) (k : Nat) : List Fl := l.take k ++ l.drop (k + 1)
def putF (o : FOp) : Fl := ⟨-1, o.name, o.data.length, [], o.data, true⟩
def aft1 (l : List Fl) (o : FOp) : Int × List Fl :=
 if o.drop = true then (if findF l o.name < 0 then (7, []) else (0, eraF l (findF l o.name).toNat))
 else if isName o.name = false ∨ 600 < o.data.length then (1, [])
 else (0, insF (if 0 ≤ findF l o.name then eraF l (findF l o.name).toNat else l) (putF o))
def aftF : List Fl → List FOp → Int × List Fl
 | l, [] => (0, l)
 | l, o :: os => if (aft1 l o).1 = 0 then aftF (aft1 l o).2 os else aft1 l o
theorem eraF_length {l : List Fl} {k : Nat} (h : k < l.length) : (eraF l k).length = l.length - 1 := by simp [eraF]; omega
theorem NewSl.peek {S S' : St} {v : LV} {sz : Nat} {xs : List D} {K : D → St → Prop} (hv : NewSl S S' v sz xs) (h : K (.sl xs) S') : TQ (Go.VM.peek v) S' K := by
 rcases hv with ⟨rfl, rfl⟩ | ⟨i, h1, h2, rfl, h4⟩
 ·exact h
 ·simpa [h4] using h
theorem hold3 {α β γ : Type} {R : α → β → γ → Prop} {t : Tag R} {a : α} {b : β} {c : γ} (h : R a b c) : hold R t a b c := h
set_option maxHeartbeats 2000000 in
theorem ref5_after {S : St} {gid id : Nat} {fl : List Fl} {ops : List FOp} {Q : LV → St → Prop} (hF : IsG S gid id fl) (hl : fl.length ≤ 100000) (hops : ops.length ≤ 100000 ∧ ∀ o ∈ ops, o.data.length ≤ 1000000)
  (h : ∀ v S', Kept S S' → NewSl S S' v 5 (rowD rfD (aftF fl ops).2) → ((aftF fl ops).1 = 0 → v ≠ .lit []) → Q (.tup [v, .d (.int .i64 (aftF fl ops).1)]) S') : SQ cf 55 [.ptr gid 0, .d (.sl (rowD fopD ops))] S Q := by
 obtain ⟨⟨hid, hne⟩, c, hc, hs⟩ := hF;refine S_intro Tryz.func55 rfl rfl (Nat.le_of_ble_eq_true rfl) ?_;have hbeg : ∀ (Q : LV → St → Prop), (∀ v S', Kept S S' → NewSl S S' v 5 (rowD rfD fl) → v ≠ .lit [] → Q v S') → TQ (srcT 5 (fetch gid 1 c) fun ys => if ys.length ≤ 70368744177664 ∧ ys.length * 80 ≤ 70368744177664 then T.new (Obj.arr 5 ys false) fun id => T.ret (LV.ar (Loc.arr id) 5 0 ys.length) else T.no) S Q := by
  intro Q hQ;rcases hs with ⟨rfl, hs⟩ | ⟨ver, rfl⟩
  ·have h0 : fl = [] := List.eq_nil_of_length_eq_zero (by rw [← rowD_length (enc := rfD), hs]; rfl)
   subst h0;simp;exact hQ _ _ (Kept.refl S).alloc (.inr ⟨S.next, Nat.le_refl _, by simp, rfl, by simp; rfl⟩) (by simp)
  ·simp [hc];exact ⟨by omega, hQ _ _ (Kept.refl S).alloc (.inr ⟨S.next, Nat.le_refl _, by simp, by rw [rowD_length], by simp⟩) (by simp)⟩
 simp [hc];refine hbeg _ fun v S1 hK1 hN1 hv1 => ?_;simp;refine X_loop (fun (k : Nat) e S' => k ≤ ops.length ∧ e 0 = .ptr gid 0 ∧ e 1 = .d (.sl (rowD fopD ops)) ∧ e 7 = .d (.int .i64 k) ∧ Kept S S' ∧
  e 6 ≠ .lit [] ∧ ∃ l, NewSl S S' (e 6) 5 (rowD rfD l) ∧ l.length ≤ fl.length + k ∧ aftF l (ops.drop k) = aftF fl ops) (fun k => ops.length - k) 0 ?_ ?_
 ·simp;exact ⟨hK1, hv1, fl, hN1, Nat.le_refl _, rfl⟩
 ·intro k e S' hk;obtain ⟨g1, g2, g3, g4, hK, g5, l, hN, hll, haft⟩ := hk;simp [g3, g4];intro _;refine f_intro (fun j1 => ?_) (fun j1 => ?_)
  ·have hk : k < ops.length := by omega
   rw [drop_cons hk] at haft;have haft' : aftF l (nth ops k :: ops.drop (k + 1)) = if (aft1 l (nth ops k)).1 = 0 then aftF (aft1 l (nth ops k)).2 (ops.drop (k + 1)) else aft1 l (nth ops k) := rfl;rw [haft'] at haft;have hod := hops.2 _ (nth_mem hk);have hsz : sized 3 (rowD fopD ops) := rowD_sized fun _ => rfl;have hfc : ∀ x, (fopD x).cells = [.bool x.drop, .str x.name, .sl (byD x.data)] := fun _ => rfl;have okn : (LV.lit []).okb = true := rfl;obtain ⟨o, ho⟩ : ∃ o, nth ops k = o := ⟨_, rfl⟩;rw [ho] at haft haft' hod;simp [g3, g4, hk, hfc, ho];refine hN.alloc.peek ?_;simp;refine ref5_find (by omega) ?_
   refine ⟨rfl, ?_⟩
   cases hd : o.drop with
   | true =>
    simp [g3, g4, hk, hfc, ho, hd];rcases find_cases l o.name with ⟨e1, e2⟩ | ⟨m, e1, e2, e3, e4⟩
    ·rw [e1];have ha : aft1 l o = (7, []) := by unfold aft1; rw [if_pos hd, if_pos (by rw [e1]; decide)]
     rw [ha, if_neg (by decide)] at haft
     rw [← haft] at h;simp;exact h _ _ hK.alloc (.inl ⟨rfl, rfl⟩) (fun h9 => absurd h9 (by decide))
    ·rw [e2];have hm : ¬ (m : Int) < 0 := by omega
     have ha : aft1 l o = (0, eraF l m) := by unfold aft1; rw [if_pos hd, if_neg (by rw [e2]; exact hm), e2]; rfl
     rw [ha, if_pos rfl] at haft;obtain ⟨i, i1, i2, i3, i4⟩ : ∃ i, S.next ≤ i ∧ i < S'.next ∧ e 6 = .ar (.arr i) 5 0 l.length ∧ S'.obj i = .arr 5 (rowD rfD l) false := by
      rcases hN with ⟨_, hN⟩ | ⟨i, i1, i2, i3, i4⟩
      ·have hl0 : l.length = 0 := by rw [← rowD_length (enc := rfD), hN]; rfl
       omega
      ·exact ⟨i, i1, i2, by rw [i3, rowD_length], i4⟩
     simp [g3, g4, hk, hfc, ho, hd, hm];refine X_drawM [0, 0, 0, 6, 15, 0, 0, 64, 224, 511, 1023] (by decide +kernel) (by decide +kernel) ?_
     have n0 : ¬ i = S'.next := by omega
     have n1 : ∀ m, ¬ i = S'.next + m := fun m => by omega
     have n2 : ∀ m k, ¬ i = S'.next + m + k := fun m k => by omega
     have hw : IntKind.i64.wrap ((m : Int) + 1) = ((m + 1 : Nat) : Int) := wrap_i64 (by omega) (by omega)
     have n3 : ¬ S'.next = i := by omega
     have n4 : ∀ a, ¬ S'.next + a = i := fun a => by omega
     have n5 : ∀ a b, ¬ S'.next + a + b = i := fun a b => by omega
     simp [i3, i4, n0, n2, n5, hw, g3, g4, grow_lit0, grow_ar];have hmin : min m l.length = m := by omega
     refine ⟨by omega, by omega, by omega, by omega, by omega, by decide, k + 1, ⟨by omega, g2, wrap_i64 (by omega) (by omega), hK.of (fun j hj => ?_) (by show S'.next ≤ S'.next + 1 + 1100; omega) (by show S'.clk ≤ S'.clk + 1100; omega) rfl, eraF l m, .inr ⟨S'.next + 1 + 900, ?_, ?_, ?_, ?_⟩, by rw [eraF_length e1]; omega, haft⟩, by omega⟩
     ·have hnx := hK.2.1;simp [startD, show ¬ j = S'.next by omega, show ¬ j = S'.next + 1 + 400 by omega, show ¬ j = S'.next + 1 + 900 by omega]
     ·have := hK.2.1; omega
     ·show S'.next + 1 + 900 < S'.next + 1 + 1100; omega
     ·rw [rowD_length, eraF_length e1, hmin]; congr 1; omega
     ·simp [startD, eraF, rowD]
   | false =>
    simp [g3, g4, hk, hfc, ho, hd];refine ref3_Named ?_
    cases hnm : isName o.name with
    | false =>
     have ha : aft1 l o = (1, []) := by unfold aft1; rw [if_neg (by simp [hd]), if_pos (.inl hnm)]
     rw [ha, if_neg (by decide)] at haft
     rw [← haft] at h;simp;exact h _ _ hK.alloc (.inl ⟨rfl, rfl⟩) (fun h9 => absurd h9 (by decide))
    | true =>
     simp;intro _;refine f_intro (fun j2 => ?_) (fun j2 => ?_)
     ·have ha : aft1 l o = (1, []) := by unfold aft1; rw [if_neg (by simp [hd]), if_pos (.inr (by omega))]
      rw [ha, if_neg (by decide)] at haft
      rw [← haft] at h;simp;exact h _ _ hK.alloc (.inl ⟨rfl, rfl⟩) (fun h9 => absurd h9 (by decide))
     have ha : aft1 l o = (0, insF (if 0 ≤ findF l o.name then eraF l (findF l o.name).toNat else l) (putF o)) := by
      unfold aft1;rw [if_neg (by simp [hd]), if_neg (by rintro (h1 | h1); rw [hnm] at h1; cases h1; omega)]
     rw [ha, if_pos rfl] at haft;simp;rcases find_cases l o.name with ⟨e1, e2⟩ | ⟨m, e1, e2, e3, e4⟩
     ·rw [e1, if_neg (by decide)] at haft
      rw [e1];simp;generalize hS5 : S'.alloc (.cells [LV.d (D.str o.name), LV.d (D.sl (byD o.data))]) = S5;obtain ⟨q, hq⟩ : ∃ q, S'.next = q := ⟨_, rfl⟩;have q1 : S5.obj q = .cells [LV.d (D.str o.name), LV.d (D.sl (byD o.data))] := by rw [← hS5, ← hq]; simp
      have q2 : ¬ q = S5.next := by rw [← hS5]; simp; omega
      have q3 : ∀ m, ¬ q = S5.next + m := fun m => by rw [← hS5]; simp; omega
      have q4 : ∀ m, ¬ S5.next + m = q := fun m => by rw [← hS5]; simp; omega
      have hK5 : Kept S S5 := by rw [← hS5]; exact hK.alloc
      rcases hN.alloc (o := .cells [LV.d (D.str o.name), LV.d (D.sl (byD o.data))]) with ⟨z1, z2⟩ | ⟨i, i1, i2, i3, i4⟩
      ·have hl0 : l = [] := List.eq_nil_of_length_eq_zero (by rw [← rowD_length (enc := rfD), z2]; rfl)
       subst hl0;refine X_drawM [0, 0, 2, 0, 0, 16, 56, 126, 255, 511] (by decide +kernel) (by decide +kernel) ?_
       simp [grow_lit0, okn, q1, z1, hq];refine ⟨by omega, ?_⟩
       refine ref5_insert (l := []) (f := putF o) (by first | omega | simp) (hold3 ?_)
       simp [q3, g3, g4];refine ⟨by decide, k + 1, ⟨by omega, g2, wrap_i64 (by omega) (by omega), hK5.of (fun j hj => ?_) (by show S5.next ≤ S5.next + 1000; omega) (by show S5.clk ≤ S5.clk + 1000; omega) rfl, insF [] (putF o), .inr ⟨S5.next + 800, by have := hK5.2.1; omega, by show S5.next + 800 < S5.next + 1000; omega, by rw [rowD_length], by simp [startD]⟩, by rw [insF_length]; simp; omega, haft⟩, by omega⟩
       have hnx5 := hK5.2.1;simp [startD, show ¬ j = S5.next + 600 by omega, show ¬ j = S5.next + 800 by omega]
      ·rw [hS5] at i2 i4;rw [rowD_length] at i3;have n0 : ¬ i = S5.next := by omega
       have n1 : ∀ m, ¬ i = S5.next + m := fun m => by omega
       have n2 : ∀ m, ¬ S5.next + m = i := fun m => by omega
       refine X_drawM [0, 0, 2, 0, 0, 16, 56, 126, 255, 511] (by decide +kernel) (by decide +kernel) ?_
       simp [grow_lit0, okn, q1, i3, i4, n1, n2, hq];refine ⟨by omega, ?_⟩
       refine ref5_insert (l := l) (f := putF o) (by first | omega | simp) (hold3 ?_)
       simp [q3, g3, g4, n2];refine ⟨⟨by decide, .inl (by decide), .inl (by decide)⟩, k + 1, ⟨by omega, g2, wrap_i64 (by omega) (by omega), hK5.of (fun j hj => ?_) (by show S5.next ≤ S5.next + 1000; omega) (by show S5.clk ≤ S5.clk + 1000; omega) rfl, insF l (putF o), .inr ⟨S5.next + 800, by have := hK5.2.1; omega, by show S5.next + 800 < S5.next + 1000; omega, by rw [rowD_length], by simp [startD]⟩, by rw [insF_length]; omega, haft⟩, by omega⟩
       have hnx5 := hK5.2.1;simp [startD, show ¬ j = S5.next + 600 by omega, show ¬ j = S5.next + 800 by omega, show ¬ j = i by omega]
     ·rw [e2, if_pos (by omega), Int.toNat_natCast] at haft
      rw [e2];have hm : ¬ (m : Int) < 0 := by omega
      obtain ⟨i, i1, i2, i3, i4⟩ : ∃ i, S.next ≤ i ∧ i < S'.next ∧ e 6 = .ar (.arr i) 5 0 l.length ∧ S'.obj i = .arr 5 (rowD rfD l) false := by
       rcases hN with ⟨_, hN⟩ | ⟨i, i1, i2, i3, i4⟩
       ·have hl0 : l.length = 0 := by rw [← rowD_length (enc := rfD), hN]; rfl
        omega
       ·exact ⟨i, i1, i2, by rw [i3, rowD_length], i4⟩
      simp;refine X_draw (by decide) ?_
      have n0 : ¬ i = S'.next := by omega
      have n1 : ∀ m, ¬ i = S'.next + m := fun m => by omega
      have n2 : ∀ m k, ¬ i = S'.next + m + k := fun m k => by omega
      have hw : IntKind.i64.wrap ((m : Int) + 1) = ((m + 1 : Nat) : Int) := wrap_i64 (by omega) (by omega)
      have n3 : ¬ S'.next = i := by omega
      have n4 : ∀ a, ¬ S'.next + a = i := fun a => by omega
      have n5 : ∀ a b, ¬ S'.next + a + b = i := fun a b => by omega
      simp [i3, i4, n0, n2, n5, hw, grow_lit0, grow_ar];refine ⟨by omega, by omega, by omega, by omega, by omega, by decide, ?_⟩
      have hmin : min m l.length = m := by omega
      have hnx := hK.2.1;generalize hS5 : ({ obj := _, next := S'.next + 1 + 1100, clk := S'.clk + 1100, esc := _ } : St) = S5;have hz5 : S5.next = S'.next + 1 + 1100 := by rw [← hS5]
      obtain ⟨q, hq⟩ : ∃ q, S'.next = q := ⟨_, rfl⟩;have q1 : S5.obj q = .cells [LV.d (D.str o.name), LV.d (D.sl (byD o.data))] := by rw [← hS5, ← hq]; simp [startD, show ¬ S'.next = S'.next + 1 + 900 by omega, show ¬ S'.next = S'.next + 1 + 400 by omega]
      have q2 : ¬ q = S5.next := by omega
      have q3 : ∀ m, ¬ q = S5.next + m := fun m => by omega
      have q4 : ∀ m, ¬ S5.next + m = q := fun m => by omega
      have hK5 : Kept S S5 := by
       rw [← hS5];refine hK.of (fun j hj => ?_) (by show S'.next ≤ S'.next + 1 + 1100; omega) (by show S'.clk ≤ S'.clk + 1100; omega) rfl
       simp [startD, show ¬ j = S'.next by omega, show ¬ j = S'.next + 1 + 400 by omega, show ¬ j = S'.next + 1 + 900 by omega]
      obtain ⟨i', hi'⟩ : ∃ i', q + 1 + 900 = i' := ⟨_, rfl⟩;have i6 : S5.obj i' = .arr 5 (rowD rfD (eraF l m)) false := by rw [← hS5, ← hi', ← hq]; simp [startD, eraF, rowD]
      have i5 : min m l.length + (l.length - (m + 1)) = (eraF l m).length := by rw [eraF_length e1, hmin]; omega
      have n7 : ∀ m, ¬ i' = S5.next + m := fun m => by omega
      have n8 : ∀ m, ¬ S5.next + m = i' := fun m => by omega
      refine X_drawM [0, 0, 2, 0, 0, 16, 56, 126, 255, 511] (by decide +kernel) (by decide +kernel) ?_
      simp [grow_lit0, okn, q1, i5, i6, hi', n7, n8, hq];refine ⟨by omega, ?_⟩
      refine ref5_insert (l := eraF l m) (f := putF o) (by first | omega | simp) (hold3 ?_)
      simp [q3, g3, g4, n8];refine ⟨⟨by decide, .inl (by decide), .inl (by decide)⟩, k + 1, ⟨by omega, g2, wrap_i64 (by omega) (by omega), hK5.of (fun j hj => ?_) (by show S5.next ≤ S5.next + 1000; omega) (by show S5.clk ≤ S5.clk + 1000; omega) rfl, insF (eraF l m) (putF o), .inr ⟨S5.next + 800, by have := hK5.2.1; omega, by show S5.next + 800 < S5.next + 1000; omega, by rw [rowD_length], by simp [startD]⟩, by rw [insF_length]; rw [eraF_length e1]; omega, haft⟩, by omega⟩
      have hnx5 := hK5.2.1;simp [startD, show ¬ j = S5.next + 600 by omega, show ¬ j = S5.next + 800 by omega, show ¬ j = i' by omega]
  ·have hkl : k = ops.length := by omega
   subst hkl;rw [List.drop_length] at haft;have haft' : aftF l [] = (0, l) := rfl;rw [haft'] at haft;rw [← haft] at h;simp;exact h _ _ hK hN (fun _ => g5)
end Go.VM
