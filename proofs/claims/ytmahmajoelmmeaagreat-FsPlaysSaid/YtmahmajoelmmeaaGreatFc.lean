/- Chapter 5: what the program tells of its files. No condition. -/
import Derived.Test.YtmahmajoelmmeaaGreatFb
namespace Go.VM
open Go.Proofs
set_option maxRecDepth 4000
attribute [-simp] Int.not_lt Int.not_le Nat.not_lt Nat.not_le
structure Fi where
 name : List UInt8
 data : List UInt8
 deriving Inhabited, DecidableEq
def fiD (x : Fi) : D := .agg [.str x.name, .sl (byD x.data)]
theorem fiD_cells (x : Fi) : (fiD x).cells = [.str x.name, .sl (byD x.data)] := rfl
attribute [simp] fiD_cells
def listF (fl : List Fl) : List Fi := fl.map fun x => ⟨x.name, x.data⟩
def getF (fl : List Fl) (name : List UInt8) : Option (List UInt8) := (fl.find? fun x => decide (x.name = name)).map (·.data)
theorem list_next {fl : List Fl} {k : Nat} (h : k < fl.length) : rowD fiD (listF (fl.take k)) ++ [D.agg [.str (nth fl k).name, .sl (byD (nth fl k).data)]] = rowD fiD (listF (fl.take (k + 1))) := by
 rw [takeN h]; simp [listF, rowD, fiD]
theorem fs_List {S : St} {fid id : Nat} {fl : List Fl} {Q : LV → St → Prop} (hF : IsF S fid id fl) (hl : fl.length ≤ 1000000 ∧ ∀ x ∈ fl, x.data.length ≤ 1000000) (h : ∀ v S', Kept S S' → SlN S S' v 2 (rowD fiD (listF fl)) → Q v S') : SQ cf 13 [.ptr fid 0] S Q := by
 obtain ⟨⟨hid, hne⟩, c, hc, hs⟩ := hF;refine S_intro Tryz.func13 rfl rfl (Nat.le_of_ble_eq_true rfl) ?_;have n1 : ¬ fid = S.next := by omega
 have n2 : ¬ fid = S.next + 1 := by omega
 simp;refine fs_all ?_ (by simp; omega)
 simp;obtain ⟨y, hyd⟩ : ∃ y, y = S.next + 1 + 1 := ⟨_, rfl⟩;have a1 : ¬ S.next = y := by omega
 have a2 : ¬ y = S.next := by omega
 refine fs_range (fid := fid) (bx := S.next + 1) (y := y) (fl := fl) (fun k S1 => FillJ S S1 3 S.next 2 (rowD fiD (listF (fl.take k)))) (by simp) (by simp [hyd]) ⟨by simp, by simp⟩ ⟨by simp [n1, n2]; exact hc, by simp; omega⟩ hs hl.1 rfl (fun k S1 o hJ => hJ.set (by omega) a1) (fun o => ⟨by simp, fun j hj => ?_, by simp, rfl, .lit [], by simp [← hyd, a1], .inl ⟨rfl, rfl⟩⟩) (fun k S1 hJ => ?_) (fun k S1 o hk hJ hy => ?_) (fun S' hJ => ?_)
 ·simp [show ¬ j = S.next by omega, show ¬ j = S.next + 1 by omega, show ¬ j = S.next + 1 + 1 by omega]
 ·have := hJ.next;exact ⟨⟨(hJ.obj fid hid).trans hc, by omega⟩, by omega⟩
 ·obtain ⟨g1, g2, g3, g4, c', g5, g6⟩ := hJ;have r0 : ¬ S.next = S1.next := by omega
  have r2 : ∀ m, ¬ S.next = S1.next + m := fun m => by omega
  have r3 : ∀ m, ¬ S1.next + m = S.next := fun m => by omega
  have r6 : ∀ m k n, ¬ S.next = S1.next + m + k + n := fun m k n => by omega
  have r7 : ∀ m k n, ¬ S1.next + m + k + n = S.next := fun m k n => by omega
  have t0 : ¬ y = S1.next := by omega
  have t2 : ∀ m, ¬ y = S1.next + m := fun m => by omega
  have t3 : ∀ m, ¬ S1.next + m = y := fun m => by omega
  have t6 : ∀ m k n, ¬ y = S1.next + m + k + n := fun m k n => by omega
  have hdl : (nth fl k).data.length ≤ 1000000 := hl.2 _ (nth_mem hk);simp [flL, t0, t2, hy];intro o';have hnl : (listF (fl.take k)).length ≤ 1000000 := by simp [listF]; omega
  refine X_draw (by decide) ?_
  rcases g6 with ⟨rfl, g6⟩ | ⟨ver, rfl⟩
  ·simp [r0, r2, r3, r6, r7, t3, t6, a1, a2, g5, grow_lit0];refine ⟨by omega, ⟨⟨by decide, by decide⟩, by decide⟩, rfl, ⟨by simp; omega, fun j hj => ?_, by simp; omega, g4, _, by simp [startD]; rfl, .inr ⟨S1.clk + 1100, ?_⟩⟩⟩
   ·have hjy : ¬ j = y := by omega
    have hjs : ¬ j = S.next := by omega
    have q0 : ¬ j = S1.next := by omega
    have q1 : ¬ S1.next = j := by omega
    have q2 : ∀ m, ¬ j = S1.next + m := fun m => by omega
    have q3 : ∀ m, ¬ S1.next + m = j := fun m => by omega
    have q4 : ∀ m k, ¬ j = S1.next + m + k := fun m k => by omega
    have q5 : ∀ m k, ¬ S1.next + m + k = j := fun m k => by omega
    have q6 : ∀ m k n, ¬ j = S1.next + m + k + n := fun m k n => by omega
    have q7 : ∀ m k n, ¬ S1.next + m + k + n = j := fun m k n => by omega
    have q8 : ∀ m k n l, ¬ j = S1.next + m + k + n + l := fun m k n l => by omega
    have q9 : ∀ m k n l, ¬ S1.next + m + k + n + l = j := fun m k n l => by omega
    simp [startD, q0, q2, q6, hjy, hjs, g2 j hj]
   ·rw [← list_next hk, g6]; rfl
  ·simp [r0, r2, r3, r6, r7, t3, t6, a1, a2, g5, grow_ar];refine ⟨by omega, ⟨by omega, by omega⟩, ⟨⟨by decide, by decide⟩, by decide, by decide⟩, rfl, ⟨by simp; omega, fun j hj => ?_, by simp; omega, g4, _, by simp [startD]; rfl, .inr ⟨S1.clk + 1100, ?_⟩⟩⟩
   ·have hjy : ¬ j = y := by omega
    have hjs : ¬ j = S.next := by omega
    have q0 : ¬ j = S1.next := by omega
    have q1 : ¬ S1.next = j := by omega
    have q2 : ∀ m, ¬ j = S1.next + m := fun m => by omega
    have q3 : ∀ m, ¬ S1.next + m = j := fun m => by omega
    have q4 : ∀ m k, ¬ j = S1.next + m + k := fun m k => by omega
    have q5 : ∀ m k, ¬ S1.next + m + k = j := fun m k => by omega
    have q6 : ∀ m k n, ¬ j = S1.next + m + k + n := fun m k n => by omega
    have q7 : ∀ m k n, ¬ S1.next + m + k + n = j := fun m k n => by omega
    have q8 : ∀ m k n l, ¬ j = S1.next + m + k + n + l := fun m k n l => by omega
    have q9 : ∀ m k n l, ¬ S1.next + m + k + n + l = j := fun m k n l => by omega
    simp [startD, q0, q2, q6, hjy, hjs, g2 j hj]
   ·rw [← list_next hk]
 ·obtain ⟨g1, g2, g3, g4, c', g5, g6⟩ := hJ;have hk : Kept S (S'.set y .dead) := ⟨fun j hj => by simp [show ¬ j = y by omega, g2 j hj], by simp; omega, by simpa using g3, g4⟩
  rw [List.take_length] at g6;rcases g6 with ⟨rfl, g6⟩ | ⟨ver, rfl⟩
  ·simp [g5, a1];exact h _ _ hk (.inl ⟨rfl, g6⟩)
  ·simp [g5, a1];refine h _ _ hk (.inr ⟨S.next, ver, Nat.le_refl _, by simp; omega, ?_, by simp [a1, g5]⟩)
   simp
structure GetJ (S S1 : St) (name : List UInt8) : Prop where
 next : S.next + 5 ≤ S1.next
 obj : ∀ j, j < S.next → S1.obj j = S.obj j
 clk : S.clk ≤ S1.clk
 esc : S1.esc = S.esc
 c0 : S1.obj S.next = .cells [.d (.str name)]
 c1 : S1.obj (S.next + 1) = .cells [.lit []]
 c2 : S1.obj (S.next + 1 + 1) = .cells [.d (.bool false)]
theorem GetJ.set {S S1 : St} {name : List UInt8} {y : Nat} {o : Obj} (h : GetJ S S1 name) (hy : y = S.next + 4) : GetJ S (S1.set y o) name :=
 ⟨h.next, fun j hj => by simp [show ¬ j = y by omega, h.obj j hj], h.clk, h.esc, by simp [show ¬ S.next = y by omega, h.c0], by simp [show ¬ S.next + 1 = y by omega, h.c1], by simp [show ¬ S.next + 1 + 1 = y by omega, h.c2]⟩
def GotSl (S S' : St) (r : Option (List UInt8)) (v : LV) : Prop := match r with
 | none => v = .tup [.lit [], .d (.bool false)]
 | some b => ∃ v1, v = .tup [v1, .d (.bool true)] ∧ SlN S S' v1 1 (byD b)
theorem get_none {fl : List Fl} {name : List UInt8} (h : ∀ k, k < fl.length → (nth fl k).name ≠ name) : getF fl name = none := by
 unfold getF;rw [List.find?_eq_none.2 fun x hx => ?_]
 ·rfl
 ·obtain ⟨i, hi, rfl⟩ := List.getElem_of_mem hx;have := h i hi;simpa [nth, hi] using this
theorem get_some {fl : List Fl} {name : List UInt8} {k : Nat} (hk : k < fl.length) (h : ∀ j, j < k → (nth fl j).name ≠ name) (he : (nth fl k).name = name) : getF fl name = some (nth fl k).data := by
 have e : fl = fl.take k ++ nth fl k :: fl.drop (k + 1) := by rw [← drop_cons hk, List.take_append_drop]
 unfold getF;rw [e, List.find?_append, List.find?_eq_none.2 fun x hx => ?_]
 ·simp [he, ← e]
 ·obtain ⟨i, hi, rfl⟩ := List.getElem_of_mem hx;have hi' : i < k := by simp at hi; omega
  have := h i hi';simpa [nth, show i < fl.length by omega] using this
theorem fs_Get {S : St} {fid id : Nat} {fl : List Fl} {name : List UInt8} {Q : LV → St → Prop} (hF : IsF S fid id fl) (hl : fl.length ≤ 1000000 ∧ ∀ x ∈ fl, x.data.length ≤ 1000000) (h : ∀ v S', Kept S S' → GotSl S S' (getF fl name) v → Q v S') : SQ cf 17 [.ptr fid 0, .d (.str name)] S Q := by
 obtain ⟨⟨hid, hne⟩, c, hc, hs⟩ := hF;refine S_intro Tryz.func17 rfl rfl (Nat.le_of_ble_eq_true rfl) ?_;have n1 : ¬ fid = S.next := by omega
 have n2 : ¬ fid = S.next + 1 := by omega
 have n3 : ¬ fid = S.next + 1 + 1 := by omega
 have n4 : ¬ fid = S.next + 1 + 1 + 1 := by omega
 simp;refine fs_all ?_ (by simp; omega)
 simp;obtain ⟨y, hyd⟩ : ∃ y, y = S.next + 1 + 1 + 1 + 1 := ⟨_, rfl⟩;have hy4 : y = S.next + 4 := hyd;refine fs_range (fid := fid) (bx := S.next + 1 + 1 + 1) (y := y) (fl := fl) (fun k S1 => GetJ S S1 name ∧ ∀ j, j < k → (nth fl j).name ≠ name) (by simp) (by simp [hyd]) ⟨by simp, by simp⟩ ⟨by simp [n1, n2, n3, n4]; exact hc, by simp; omega⟩ hs hl.1 rfl (fun k S1 o hJ => ⟨hJ.1.set hy4, hJ.2⟩) (fun o => ⟨⟨by simp, fun j hj => ?_, by simp, rfl, by simp [show ¬ S.next = S.next + 1 + 1 + 1 + 1 by omega, show ¬ S.next = S.next + 1 + 1 + 1 by omega, show ¬ S.next = S.next + 1 + 1 by omega], by simp [show ¬ S.next = S.next + 1 + 1 by omega, show ¬ S.next = S.next + 1 + 1 + 1 by omega], by simp [show ¬ S.next = S.next + 1 by omega]⟩, fun j hj => absurd hj (Nat.not_lt_zero _)⟩) (fun k S1 hJ => ?_) (fun k S1 o hk hJ hy => ?_) (fun S' hJ => ?_)
 ·simp [show ¬ j = S.next by omega, show ¬ j = S.next + 1 by omega, show ¬ j = S.next + 1 + 1 by omega, show ¬ j = S.next + 1 + 1 + 1 by omega, show ¬ j = S.next + 1 + 1 + 1 + 1 by omega]
 ·have := hJ.1.next;exact ⟨⟨(hJ.1.obj fid hid).trans hc, by omega⟩, by omega⟩
 ·obtain ⟨⟨g1, g2, g3, g4, g5, g6, g7⟩, g8⟩ := hJ;obtain ⟨b1, hb1⟩ : ∃ b1, b1 = S.next + 1 := ⟨_, rfl⟩;rw [← hb1] at g6 g7;obtain ⟨b2, hb2⟩ : ∃ b2, b2 = b1 + 1 := ⟨_, rfl⟩;rw [← hb2] at g7;have r0 : ¬ S.next = S1.next := by omega
  have r2 : ∀ m, ¬ S.next = S1.next + m := fun m => by omega
  have s0 : ¬ b1 = S1.next := by omega
  have s2 : ∀ m, ¬ b1 = S1.next + m := fun m => by omega
  have s4 : ∀ m k, ¬ b1 = S1.next + m + k := fun m k => by omega
  have t0 : ¬ b2 = S1.next := by omega
  have t2 : ∀ m, ¬ b2 = S1.next + m := fun m => by omega
  have t4 : ∀ m k, ¬ b2 = S1.next + m + k := fun m k => by omega
  have u0 : ¬ y = S1.next := by omega
  have u2 : ∀ m, ¬ y = S1.next + m := fun m => by omega
  have u3 : ∀ m, ¬ S1.next + m = y := fun m => by omega
  have u4 : ∀ m k, ¬ y = S1.next + m + k := fun m k => by omega
  have d1 : ¬ S.next = y := by omega
  have d2 : ¬ b1 = y := by omega
  have d3 : ¬ b2 = y := by omega
  have d4 : ¬ b2 = b1 := by omega
  have d5 : ¬ b1 = b2 := by omega
  have d6 : ¬ y = b1 := by omega
  have d7 : ¬ y = b2 := by omega
  have hdl : (nth fl k).data.length ≤ 1000000 := hl.2 _ (nth_mem hk);simp only [← hb1];simp only [← hb2];simp [flL, r0, r2, u0, u2, u3, hy];intro o';simp [g5, d1];refine f_intro (fun j1 => ?_) (fun j1 => ?_)
  ·simp [r0, r2, s0, s2, s4, t0, t2, t4, u3, u4, g6, g7, d2, d3, d4, d6, d7, grow_lit0];refine ⟨by omega, .inr ?_⟩
   simp only [← hb1]
   try simp only [← hb2]
   simp [r0, d2, d5];simp only [← hb1];simp only [← hb2];simp [d3];rw [get_some hk g8 j1] at h;refine h _ _ ?_ ?_
   case' refine_2 => exact ⟨_, rfl, .inr ⟨b1, S1.clk, by omega, by simp; omega, by simp, by simp [d2, d5]⟩⟩
   refine ⟨fun j hj => ?_, by simp; omega, by simp; omega, g4⟩
   have hj1 : ¬ j = y := by omega
   have hj2 : ¬ j = b1 := by omega
   have hj3 : ¬ j = b2 := by omega
   have q0 : ¬ j = S1.next := by omega
   have q1 : ¬ S1.next = j := by omega
   have q2 : ∀ m, ¬ j = S1.next + m := fun m => by omega
   have q3 : ∀ m, ¬ S1.next + m = j := fun m => by omega
   have q4 : ∀ m k, ¬ j = S1.next + m + k := fun m k => by omega
   have q5 : ∀ m k, ¬ S1.next + m + k = j := fun m k => by omega
   have q6 : ∀ m k n, ¬ j = S1.next + m + k + n := fun m k n => by omega
   have q7 : ∀ m k n, ¬ S1.next + m + k + n = j := fun m k n => by omega
   have q8 : ∀ m k n l, ¬ j = S1.next + m + k + n + l := fun m k n l => by omega
   have q9 : ∀ m k n l, ¬ S1.next + m + k + n + l = j := fun m k n l => by omega
   simp [q0, q2, q4, hj1, hj2, hj3, g2 j hj]
  ·simp [r0];refine ⟨rfl, ⟨by simp; omega, fun j hj => ?_, by simp; omega, g4, by simp [r0, r2, d1, g5], ?_, ?_⟩, fun j hj => ?_⟩
   ·have hj1 : ¬ j = y := by omega
    have q0 : ¬ j = S1.next := by omega
    have q1 : ¬ S1.next = j := by omega
    have q2 : ∀ m, ¬ j = S1.next + m := fun m => by omega
    have q3 : ∀ m, ¬ S1.next + m = j := fun m => by omega
    have q4 : ∀ m k, ¬ j = S1.next + m + k := fun m k => by omega
    have q5 : ∀ m k, ¬ S1.next + m + k = j := fun m k => by omega
    have q6 : ∀ m k n, ¬ j = S1.next + m + k + n := fun m k n => by omega
    have q7 : ∀ m k n, ¬ S1.next + m + k + n = j := fun m k n => by omega
    have q8 : ∀ m k n l, ¬ j = S1.next + m + k + n + l := fun m k n l => by omega
    have q9 : ∀ m k n l, ¬ S1.next + m + k + n + l = j := fun m k n l => by omega
    simp [q0, q2, hj1, g2 j hj]
   ·rw [← hb1]; simp [s0, s2, d2, g6]
   ·rw [← hb1, ← hb2]; simp [t0, t2, d3, g7]
   ·by_cases hjk : j = k
    ·rw [hjk]; exact j1
    ·exact g8 j (by omega)
 ·obtain ⟨⟨g1, g2, g3, g4, g5, g6, g7⟩, g8⟩ := hJ;have hk : Kept S (S'.set y .dead) := ⟨fun j hj => by simp [show ¬ j = y by omega, g2 j hj], by simp; omega, by simpa using g3, g4⟩
  have e1 : ¬ S.next + 1 = y := by omega
  have e2 : ¬ S.next + 1 + 1 = y := by omega
  simp [g6, g7, e1, e2];refine h _ _ ⟨fun j hj => ?_, by simp; omega, by simpa using g3, g4⟩ ?_
  ·simp [show ¬ j = y by omega, show ¬ j = S.next + 1 by omega, show ¬ j = S.next + 1 + 1 by omega, g2 j hj]
  ·rw [get_none g8];rfl
end Go.VM
