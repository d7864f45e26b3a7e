/- Chapter 5: a change of the program's files: all that were put stand somewhere. No condition. -/
import Derived.Test.YtmahmajoelmmeaaGreatFh
namespace Go.VM
open Go.Proofs
set_option maxRecDepth 4000
attribute [-simp] Int.not_lt Int.not_le Nat.not_lt Nat.not_le
def inE (i : Int) : D := .int .i64 i
def wasOf (fl : List Fl) : List (List UInt8 × Int) := fl.foldl (fun l x => updK l x.name x.slot) []
theorem was_next {fl : List Fl} {k : Nat} (h : k < fl.length) : wasOf (fl.take (k + 1)) = updK (wasOf (fl.take k)) (nth fl k).name (nth fl k).slot := by
 rw [takeN h]; simp [wasOf]
def Ch.give (C : Ch) (was : List (List UInt8 × Int)) (n : List UInt8) : Int × Ch := match lookK was n with
 | some s => (s, C)
 | none => C.slot
def layNames (was : List (List UInt8 × Int)) : Ch → List (List UInt8) → Bool × Ch
 | C, [] => (true, C)
 | C, n :: ns => if ((C.give was n).2.lays n (C.give was n).1).1 then layNames was ((C.give was n).2.lays n (C.give was n).1).2 ns else (false, ((C.give was n).2.lays n (C.give was n).1).2)
def goneW (files : List (List UInt8 × Fl)) (fl : List Fl) : List Wr := (fl.filter fun x => (lookK files x.name).isNone).map fun x => ⟨x.slot, zeros 64⟩
theorem gone_next {files : List (List UInt8 × Fl)} {fl : List Fl} {k : Nat} (h : k < fl.length) : goneW files (fl.take (k + 1)) = goneW files (fl.take k) ++ if (lookK files (nth fl k).name).isNone then [⟨(nth fl k).slot, zeros 64⟩] else [] := by
 rw [takeN h];simp only [goneW, List.filter_append, List.map_append];congr 1;by_cases hc : (lookK files (nth fl k).name).isNone = true <;> simp [hc]
def putKeys (C : Ch) : List (List UInt8) := C.put.map Prod.fst
def putNames (C : Ch) : List (List UInt8) := (putKeys C).mergeSort leS
theorem lay_mac : layAlt.mac = layMac := rfl
def Ch.lay (C : Ch) (fl : List Fl) : Bool × Ch :=
 if (layNames (wasOf fl) C (putNames C)).1 then
  (decide (((layNames (wasOf fl) C (putNames C)).2.l ++ goneW (layNames (wasOf fl) C (putNames C)).2.files fl).length ≤ 150), { (layNames (wasOf fl) C (putNames C)).2 with l := (layNames (wasOf fl) C (putNames C)).2.l ++ goneW (layNames (wasOf fl) C (putNames C)).2.files fl })
 else (false, (layNames (wasOf fl) C (putNames C)).2)
theorem layMac_some {e : Env} {S : St} {id : Nat} {ks : Option IntKind} {es : List (D × D)} {ss : List (List UInt8)} (h1 : e 29 = .mp id) (h2 : S.obj id = .mp ks es) (h3 : strsOf (es.map (·.1)) = some ss) (h4 : id < S.next ∧ es.length ≤ 1000000 ∧ e 7 = .lit []) : layMac e S = some (layEnv e S.next ss, laySt S ss) := by
 unfold layMac;simp only [h1, h2, h3, if_pos h4]
structure Fine (C : Ch) (k : Nat) : Prop where
 data : ∀ n, (C.file n).data.length ≤ 600
 free : C.free.length ≤ 1000000
 l : C.l.length ≤ 11 * k
theorem lookK_upd {α : Type} {l : List (List UInt8 × α)} {n m : List UInt8} {x : α} : lookK (updK l n x) m = if m = n then some x else lookK l m := by
 induction l with
 | nil => simp [updK, lookK]
 | cons p l ih =>
  rw [updK];by_cases h : n = p.1
  ·rw [if_pos h];by_cases h2 : m = n
   ·simp [lookK, h2]
   ·have : ¬ m = p.1 := fun e => h2 (e.trans h.symm);simp [lookK, h2, this]
  ·rw [if_neg h];by_cases h2 : m = p.1
   ·have : ¬ m = n := fun e => h (e.symm.trans h2);simp [lookK, h2];intro e; exact absurd e.symm h
   ·simp [lookK, h2, ih]
theorem need_600 {n : Nat} (h : n ≤ 600) : needN n ≤ 10 := by
 have h1 : (0 : Int) ≤ (n : Int) := Int.natCast_nonneg n;have h2 : (n : Int) ≤ 600 := by omega
 have := need_le h1 h2;unfold needN;omega
theorem give_same {C : Ch} {was : List (List UInt8 × Int)} {n : List UInt8} : (C.give was n).2.files = C.files ∧ (C.give was n).2.free = C.free ∧ (C.give was n).2.l = C.l ∧ (C.give was n).2.put = C.put := by
 unfold Ch.give
 cases lookK was n with
 | some s => exact ⟨rfl, rfl, rfl, rfl⟩
 | none =>
  show C.slot.2.files = _ ∧ C.slot.2.free = _ ∧ C.slot.2.l = _ ∧ C.slot.2.put = _;unfold Ch.slot;split <;> exact ⟨rfl, rfl, rfl, rfl⟩
theorem Fine.give {C : Ch} {k : Nat} {was : List (List UInt8 × Int)} {n : List UInt8} (h : Fine C k) : Fine (C.give was n).2 k := by
 obtain ⟨e1, e2, e3, _⟩ := give_same (C := C) (was := was) (n := n);exact ⟨fun m => by unfold Ch.file; rw [e1]; exact h.data m, by rw [e2]; exact h.free, by rw [e3]; exact h.l⟩
theorem Fine.lays {C : Ch} {k : Nat} {n : List UInt8} {s : Int} (h : Fine C k) : Fine (C.lays n s).2 (k + 1) := by
 unfold Ch.lays;split
 ·exact ⟨h.data, h.free, Nat.le_trans h.l (by omega)⟩
 ·refine ⟨fun m => ?_, by have := h.free; show (C.free.drop _).length ≤ 1000000; rw [List.length_drop]; omega, ?_⟩
  ·show ((lookK (updK C.files n _) m).getD .nil).data.length ≤ 600;rw [lookK_upd];split
   ·exact h.data n
   ·exact h.data m
  ·have h1 := h.l;have h2 := need_600 (h.data n);simp [sectW_length];omega
structure GoneJ (S S1 : St) (B cid m1 m2 m3 : Nat) (C : Ch) : Prop where
 next : S.next + 2 ≤ S1.next
 ch : ChAt S1 B cid m1 m2 m3 C
 up : Up cid m1 m2 m3 S S1
theorem GoneJ.set {S S1 : St} {B cid m1 m2 m3 y : Nat} {C : Ch} {o : Obj} (h : GoneJ S S1 B cid m1 m2 m3 C) (h0 : S.next ≤ y) (hl : (B ≤ cid ∧ cid < S.next) ∧ (B ≤ m1 ∧ m1 < S.next) ∧ (B ≤ m2 ∧ m2 < S.next) ∧ (B ≤ m3 ∧ m3 < S.next)) : GoneJ S (S1.set y o) B cid m1 m2 m3 C :=
 ⟨h.next, h.ch.at (by simp [show ¬ cid = y by omega]) (by simp [show ¬ m1 = y by omega]) (by simp [show ¬ m2 = y by omega]) (by simp [show ¬ m3 = y by omega]) (Nat.le_refl _),
  ⟨fun j hj h1 h2 h3 h4 => by simp [show ¬ j = y by omega, h.up.1 j hj h1 h2 h3 h4], h.up.2⟩⟩
structure WasJ (S S1 : St) (bv wm wv cid : Nat) (was : List (List UInt8 × Int)) : Prop where
 next : S.next + 5 ≤ S1.next
 obj : ∀ j, j < S.next → S1.obj j = S.obj j
 clk : S.clk ≤ S1.clk
 esc : S1.esc = S.esc
 c0 : S1.obj bv = .cells [.ptr cid 0]
 c1 : S1.obj wv = .cells [.mp wm]
 c2 : S1.obj wm = .mp none (mapK inE was)
theorem WasJ.set {S S1 : St} {bv wm wv cid y : Nat} {was : List (List UInt8 × Int)} {o : Obj} (h : WasJ S S1 bv wm wv cid was) (h0 : S.next ≤ y) (h1 : bv ≠ y) (h2 : wm ≠ y) (h3 : wv ≠ y) : WasJ S (S1.set y o) bv wm wv cid was :=
 ⟨h.next, fun j hj => by simp [show ¬ j = y by omega, h.obj j hj], h.clk, h.esc, by simp [h1, h.c0], by simp [h3, h.c1], by simp [h2, h.c2]⟩
set_option maxHeartbeats 4000000 in
theorem fs_lay {S : St} {B cid m1 m2 m3 fid id : Nat} {C : Ch} {fl : List Fl} {Q : LV → St → Prop} (hF : IsF S fid id fl) (hB : fid < B) (hC : ChAt S B cid m1 m2 m3 C) (hl : fl.length ≤ 1000000)
  (hput : C.put.length ≤ 1000) (hfine : Fine C 0)
  (h : ∀ S', ChAt S' B cid m1 m2 m3 (C.lay fl).2 → Up cid m1 m2 m3 S S' → Q (.d (.bool (C.lay fl).1)) S') : SQ cf 44 [.ptr fid 0, .ptr cid 0] S Q := by
 have hF0 := hF;obtain ⟨⟨hid, hne⟩, c, hc, hs⟩ := hF;have hC0 := hC;obtain ⟨⟨⟨l0, l1⟩, ⟨l2, l3⟩, ⟨l4, l5⟩, l6, l7⟩, ⟨⟨n1, n2, n3⟩, n4, n5, n6⟩, ⟨c4, hcc, hs4⟩, hf, hp, ht⟩ := hC;refine S_alt Tryz.func44 rfl rfl (Nat.le_of_ble_eq_true rfl) (q := layAlt) rfl (c' := .seq _ (.seq _ (.seq (.seq _ (.block _ _)) (.seq _ (.region _ (List.toArray [_, _, _, _]) false))))) rfl (p := .seq _ (.seq _ _)) rfl ?_;simp [show cid ≤ S.next by omega]
 refine fs_all ?_ (by simp; omega)
 simp;generalize hwm : S.next + 1 = wm;generalize hwv : wm + 1 = wv;generalize hbx : wv + 1 = bx;generalize hyy : bx + 1 = y;refine fs_range (fid := fid) (bx := bx) (y := y) (c0 := .ptr id 0) (c := c) (fl := fl) (fun k S1 => WasJ S S1 S.next wm wv cid (wasOf (fl.take k))) (by simp) (by simp <;> omega) ⟨?_, by simp <;> omega⟩ ⟨?_, by simp <;> omega⟩ hs hl rfl (fun k S1 o hJ => hJ.set (by omega) (by omega) (by omega) (by omega)) (fun o => ⟨by simp <;> omega, fun j hj => ?_, by simp, rfl, ?_, ?_, ?_⟩) (fun k S1 hJ => ?_) (fun k S1 o hk hJ hy => ?_) (fun S' hJ => ?_)
 ·simp [hwm, hwv, hbx]
 ·simp [show ¬ fid = bx by omega, show ¬ fid = wv by omega, show ¬ fid = wm by omega, show ¬ fid = S.next by omega, hwm, hwv, hbx]
  exact hc
 ·simp [hwm, hwv, hbx, hyy, show ¬ j = bx by omega, show ¬ j = wv by omega, show ¬ j = wm by omega, show ¬ j = S.next by omega, show ¬ j = y by omega]
 ·simp [hwm, hwv, hbx, hyy, show ¬ S.next = bx by omega, show ¬ S.next = wv by omega, show ¬ S.next = wm by omega, show ¬ S.next = y by omega]
 ·simp [hwm, hwv, hbx, hyy, show ¬ wv = bx by omega, show ¬ wv = y by omega]
 ·simp [hwm, hwv, hbx, hyy, show ¬ wm = bx by omega, show ¬ wm = wv by omega, show ¬ wm = y by omega]
  rfl
 ·have := hJ.next;exact ⟨⟨(hJ.obj fid hid).trans hc, by omega⟩, by omega⟩
 ·obtain ⟨g1, g2, g3, g4, g5, g6, g7⟩ := hJ;have aa0 : ¬ fid = S1.next := by omega
  have aa1 : ¬ S1.next = fid := by omega
  have aa2 : ∀ m, ¬ fid = S1.next + m := fun m => by omega
  have aa3 : ∀ m, ¬ S1.next + m = fid := fun m => by omega
  have aa4 : ∀ m k, ¬ fid = S1.next + m + k := fun m k => by omega
  have aa5 : ∀ m k, ¬ S1.next + m + k = fid := fun m k => by omega
  have aa6 : ∀ m k n, ¬ fid = S1.next + m + k + n := fun m k n => by omega
  have aa7 : ∀ m k n, ¬ S1.next + m + k + n = fid := fun m k n => by omega
  have aa8 : ∀ m k n l, ¬ fid = S1.next + m + k + n + l := fun m k n l => by omega
  have aa9 : ∀ m k n l, ¬ S1.next + m + k + n + l = fid := fun m k n l => by omega
  have ab0 : ¬ cid = S1.next := by omega
  have ab1 : ¬ S1.next = cid := by omega
  have ab2 : ∀ m, ¬ cid = S1.next + m := fun m => by omega
  have ab3 : ∀ m, ¬ S1.next + m = cid := fun m => by omega
  have ab4 : ∀ m k, ¬ cid = S1.next + m + k := fun m k => by omega
  have ab5 : ∀ m k, ¬ S1.next + m + k = cid := fun m k => by omega
  have ab6 : ∀ m k n, ¬ cid = S1.next + m + k + n := fun m k n => by omega
  have ab7 : ∀ m k n, ¬ S1.next + m + k + n = cid := fun m k n => by omega
  have ab8 : ∀ m k n l, ¬ cid = S1.next + m + k + n + l := fun m k n l => by omega
  have ab9 : ∀ m k n l, ¬ S1.next + m + k + n + l = cid := fun m k n l => by omega
  have ac0 : ¬ m1 = S1.next := by omega
  have ac1 : ¬ S1.next = m1 := by omega
  have ac2 : ∀ m, ¬ m1 = S1.next + m := fun m => by omega
  have ac3 : ∀ m, ¬ S1.next + m = m1 := fun m => by omega
  have ac4 : ∀ m k, ¬ m1 = S1.next + m + k := fun m k => by omega
  have ac5 : ∀ m k, ¬ S1.next + m + k = m1 := fun m k => by omega
  have ac6 : ∀ m k n, ¬ m1 = S1.next + m + k + n := fun m k n => by omega
  have ac7 : ∀ m k n, ¬ S1.next + m + k + n = m1 := fun m k n => by omega
  have ac8 : ∀ m k n l, ¬ m1 = S1.next + m + k + n + l := fun m k n l => by omega
  have ac9 : ∀ m k n l, ¬ S1.next + m + k + n + l = m1 := fun m k n l => by omega
  have ad0 : ¬ m2 = S1.next := by omega
  have ad1 : ¬ S1.next = m2 := by omega
  have ad2 : ∀ m, ¬ m2 = S1.next + m := fun m => by omega
  have ad3 : ∀ m, ¬ S1.next + m = m2 := fun m => by omega
  have ad4 : ∀ m k, ¬ m2 = S1.next + m + k := fun m k => by omega
  have ad5 : ∀ m k, ¬ S1.next + m + k = m2 := fun m k => by omega
  have ad6 : ∀ m k n, ¬ m2 = S1.next + m + k + n := fun m k n => by omega
  have ad7 : ∀ m k n, ¬ S1.next + m + k + n = m2 := fun m k n => by omega
  have ad8 : ∀ m k n l, ¬ m2 = S1.next + m + k + n + l := fun m k n l => by omega
  have ad9 : ∀ m k n l, ¬ S1.next + m + k + n + l = m2 := fun m k n l => by omega
  have ae0 : ¬ m3 = S1.next := by omega
  have ae1 : ¬ S1.next = m3 := by omega
  have ae2 : ∀ m, ¬ m3 = S1.next + m := fun m => by omega
  have ae3 : ∀ m, ¬ S1.next + m = m3 := fun m => by omega
  have ae4 : ∀ m k, ¬ m3 = S1.next + m + k := fun m k => by omega
  have ae5 : ∀ m k, ¬ S1.next + m + k = m3 := fun m k => by omega
  have ae6 : ∀ m k n, ¬ m3 = S1.next + m + k + n := fun m k n => by omega
  have ae7 : ∀ m k n, ¬ S1.next + m + k + n = m3 := fun m k n => by omega
  have ae8 : ∀ m k n l, ¬ m3 = S1.next + m + k + n + l := fun m k n l => by omega
  have ae9 : ∀ m k n l, ¬ S1.next + m + k + n + l = m3 := fun m k n l => by omega
  have af0 : ¬ S.next = S1.next := by omega
  have af1 : ¬ S1.next = S.next := by omega
  have af2 : ∀ m, ¬ S.next = S1.next + m := fun m => by omega
  have af3 : ∀ m, ¬ S1.next + m = S.next := fun m => by omega
  have af4 : ∀ m k, ¬ S.next = S1.next + m + k := fun m k => by omega
  have af5 : ∀ m k, ¬ S1.next + m + k = S.next := fun m k => by omega
  have af6 : ∀ m k n, ¬ S.next = S1.next + m + k + n := fun m k n => by omega
  have af7 : ∀ m k n, ¬ S1.next + m + k + n = S.next := fun m k n => by omega
  have af8 : ∀ m k n l, ¬ S.next = S1.next + m + k + n + l := fun m k n l => by omega
  have af9 : ∀ m k n l, ¬ S1.next + m + k + n + l = S.next := fun m k n l => by omega
  have ag0 : ¬ wm = S1.next := by omega
  have ag1 : ¬ S1.next = wm := by omega
  have ag2 : ∀ m, ¬ wm = S1.next + m := fun m => by omega
  have ag3 : ∀ m, ¬ S1.next + m = wm := fun m => by omega
  have ag4 : ∀ m k, ¬ wm = S1.next + m + k := fun m k => by omega
  have ag5 : ∀ m k, ¬ S1.next + m + k = wm := fun m k => by omega
  have ag6 : ∀ m k n, ¬ wm = S1.next + m + k + n := fun m k n => by omega
  have ag7 : ∀ m k n, ¬ S1.next + m + k + n = wm := fun m k n => by omega
  have ag8 : ∀ m k n l, ¬ wm = S1.next + m + k + n + l := fun m k n l => by omega
  have ag9 : ∀ m k n l, ¬ S1.next + m + k + n + l = wm := fun m k n l => by omega
  have ah0 : ¬ wv = S1.next := by omega
  have ah1 : ¬ S1.next = wv := by omega
  have ah2 : ∀ m, ¬ wv = S1.next + m := fun m => by omega
  have ah3 : ∀ m, ¬ S1.next + m = wv := fun m => by omega
  have ah4 : ∀ m k, ¬ wv = S1.next + m + k := fun m k => by omega
  have ah5 : ∀ m k, ¬ S1.next + m + k = wv := fun m k => by omega
  have ah6 : ∀ m k n, ¬ wv = S1.next + m + k + n := fun m k n => by omega
  have ah7 : ∀ m k n, ¬ S1.next + m + k + n = wv := fun m k n => by omega
  have ah8 : ∀ m k n l, ¬ wv = S1.next + m + k + n + l := fun m k n l => by omega
  have ah9 : ∀ m k n l, ¬ S1.next + m + k + n + l = wv := fun m k n l => by omega
  have ai0 : ¬ y = S1.next := by omega
  have ai1 : ¬ S1.next = y := by omega
  have ai2 : ∀ m, ¬ y = S1.next + m := fun m => by omega
  have ai3 : ∀ m, ¬ S1.next + m = y := fun m => by omega
  have ai4 : ∀ m k, ¬ y = S1.next + m + k := fun m k => by omega
  have ai5 : ∀ m k, ¬ S1.next + m + k = y := fun m k => by omega
  have ai6 : ∀ m k n, ¬ y = S1.next + m + k + n := fun m k n => by omega
  have ai7 : ∀ m k n, ¬ S1.next + m + k + n = y := fun m k n => by omega
  have ai8 : ∀ m k n l, ¬ y = S1.next + m + k + n + l := fun m k n l => by omega
  have ai9 : ∀ m k n l, ¬ S1.next + m + k + n + l = y := fun m k n l => by omega
  have z0 : ¬ S.next = wm := by omega
  have z1 : ¬ S.next = wv := by omega
  have z2 : ¬ S.next = y := by omega
  have z3 : ¬ wm = S.next := by omega
  have z4 : ¬ wm = wv := by omega
  have z5 : ¬ wm = y := by omega
  have z6 : ¬ wv = S.next := by omega
  have z7 : ¬ wv = wm := by omega
  have z8 : ¬ wv = y := by omega
  have z9 : ¬ y = S.next := by omega
  have z10 : ¬ y = wm := by omega
  have z11 : ¬ y = wv := by omega
  simp [flL, ah0, ah2, ai0, ai2, hy];intro o';simp [ag0, ag2, ai3, z5, z8, z10, g6, g7];refine ⟨rfl, ⟨by simp; omega, fun j hj => ?_, by simp; omega, g4, by simp [af0, af2, z0, z2, g5], by simp [ah0, ah2, z7, z8, g6], ?_⟩⟩
  ·have hj1 : ¬ j = wm := by omega
   have hj2 : ¬ j = y := by omega
   have w0 : ¬ j = S1.next := by omega
   have w1 : ¬ S1.next = j := by omega
   have w2 : ∀ m, ¬ j = S1.next + m := fun m => by omega
   have w3 : ∀ m, ¬ S1.next + m = j := fun m => by omega
   have w4 : ∀ m k, ¬ j = S1.next + m + k := fun m k => by omega
   have w5 : ∀ m k, ¬ S1.next + m + k = j := fun m k => by omega
   have w6 : ∀ m k n, ¬ j = S1.next + m + k + n := fun m k n => by omega
   have w7 : ∀ m k n, ¬ S1.next + m + k + n = j := fun m k n => by omega
   have w8 : ∀ m k n l, ¬ j = S1.next + m + k + n + l := fun m k n l => by omega
   have w9 : ∀ m k n l, ¬ S1.next + m + k + n + l = j := fun m k n l => by omega
   simp [hj1, hj2, w0, w2, g2 j hj]
  ·simp;rw [was_next hk];exact upd_K (enc := inE) (x := (nth fl k).slot)
 ·have hJ := hJ.set (y := y) (o := .dead) (by omega) (by omega) (by omega) (by omega)
  rw [List.take_length] at hJ;generalize S'.set y .dead = S1 at *;obtain ⟨g1, g2, g3, g4, g5, g6, g7⟩ := hJ;have hcc1 : S1.obj cid = .cells [.mp m1, .mp m2, .mp m3, .d (.sl (inD C.free)), c4] := (g2 cid l1).trans hcc;have hp1 : S1.obj m2 = .mp none (mapK boU C.put) := (g2 m2 l5).trans hp;simp [g5, hcc1];have hss : strsOf ((mapK boU C.put).map (·.1)) = some (putKeys C) := by
   have : (mapK boU C.put).map (·.1) = (putKeys C).map D.str := by simp [mapK, putKeys]
   rw [this, strsOf_map]
  rw [lay_mac];have hkl : (putKeys C).length = C.put.length := by simp [putKeys]
  refine ⟨_, _, layMac_some (id := m2) (ks := none) (es := mapK boU C.put) (ss := putKeys C) (by simp) hp1 hss ⟨by omega, by simp [mapK]; omega, by simp⟩, ?_⟩
  generalize hS2 : laySt S1 (putKeys C) = S2;have hnm : (putNames C).length = C.put.length := by unfold putNames; rw [List.length_mergeSort, hkl]
  have hn2 : S2.next = S1.next + 1 + C.put.length := by rw [← hS2]; simp [laySt, hkl]
  have hc2 : S2.clk = S1.clk := by rw [← hS2]; rfl
  have he2 : S2.esc = S1.esc := by rw [← hS2]; rfl
  have ho2 : ∀ j, j < S1.next → S2.obj j = S1.obj j := fun j hj => by rw [← hS2]; simp [laySt, hj]
  have hrow : (putKeys C = [] ∧ putNames C = []) ∨ (putKeys C ≠ [] ∧ S2.obj (S1.next + C.put.length) = .arr 1 ((putNames C).map .str) false) := by
   by_cases h0 : putKeys C = []
   ·exact .inl ⟨h0, by unfold putNames; rw [h0]; simp⟩
   ·refine .inr ⟨h0, ?_⟩;rw [← hS2];simp [laySt, h0, hkl, putNames];intro hh;omega
  simp [layEnv];generalize hrv : (if putKeys C = [] then LV.lit [] else LV.ar (Loc.arr (S1.next + (putKeys C).length)) 1 0 (putKeys C).length) = rv;have hrw : (rv = .lit [] ∧ putNames C = []) ∨ ∃ i, S1.next ≤ i ∧ i < S2.next ∧ rv = .ar (.arr i) 1 0 (putNames C).length ∧ S2.obj i = .arr 1 ((putNames C).map .str) false := by
   rcases hrow with ⟨q1, q2⟩ | ⟨q1, q2⟩
   ·exact .inl ⟨by rw [← hrv, if_pos q1], q2⟩
   ·exact .inr ⟨_, by omega, by omega, by rw [← hrv, if_neg q1, hkl, hnm], q2⟩
  have hlen : ∀ (Q : LV → St → Prop), Q (.d (.int .i64 (putNames C).length)) S2 → TQ (lenT Tryz.prog 144 rv) S2 Q := by
   intro Q hQ;rcases hrw with ⟨rfl, q2⟩ | ⟨i, q0, q1, rfl, q2⟩
   ·rw [q2] at hQ;simpa using hQ
   ·simp;exact fun _ => hQ
  refine hlen _ ?_;simp;have hC2 : ChAt S2 B cid m1 m2 m3 C := hC0.of (fun j hj => by rw [ho2 j (by omega), g2 j hj]) (by omega)
  have hd0 : ∀ j, j < S.next → S2.obj j = S.obj j := fun j hj => by rw [ho2 j (by omega), g2 j hj]
  refine X_loop (fun (k : Nat) e S' => k ≤ (putNames C).length ∧ e 0 = .ptr fid 0 ∧ e 3 = .ptr S.next 0 ∧ e 5 = .ptr wv 0 ∧ e 41 = rv ∧ e 42 = .d (.int .i64 (putNames C).length) ∧ e 43 = .d (.int .i64 k) ∧
   (∃ C', ChAt S' B cid m1 m2 m3 C' ∧ Fine C' k ∧ layNames (wasOf fl) C' ((putNames C).drop k) = layNames (wasOf fl) C (putNames C)) ∧ Up cid m1 m2 m3 S2 S') (fun k => (putNames C).length - k) 0 ?_ ?_
  ·simp [layEnv];exact ⟨⟨C, hC2, hfine, rfl⟩, Up.refl _ _ _ _ _⟩
  ·intro k e S' hk;obtain ⟨i1, i2, i3, i4, i5, i6, i7, ⟨C', i8, i9, i10⟩, i11⟩ := hk;simp [i6, i7];refine f_intro (fun j1 => ?_) (fun j1 => ?_)
   ·have hk : k < (putNames C).length := by omega
    rcases hrw with ⟨_, q2⟩ | ⟨i, q0, q1, rfl, q2⟩
    ·rw [q2] at hk; cases hk
    have hC9 := i8;obtain ⟨⟨⟨_, p1⟩, ⟨_, p2⟩, ⟨_, p3⟩, _, p4⟩, _, ⟨c', v1, v2⟩, v3, v4, v5⟩ := i8;have u1 : S'.obj S.next = .cells [.ptr cid 0] := (i11.1 S.next (by omega) (by omega) (by omega) (by omega) (by omega)).trans ((ho2 _ (by omega)).trans g5)
    have u2 : S'.obj wv = .cells [.mp wm] := (i11.1 wv (by omega) (by omega) (by omega) (by omega) (by omega)).trans ((ho2 _ (by omega)).trans g6)
    have u3 : S'.obj wm = .mp none (mapK inE (wasOf fl)) := (i11.1 wm (by omega) (by omega) (by omega) (by omega) (by omega)).trans ((ho2 _ (by omega)).trans g7)
    have u4 : S'.obj i = .arr 1 ((putNames C).map .str) false := (i11.1 i q1 (by omega) (by omega) (by omega) (by omega)).trans q2
    have u5 : ((putNames C).map D.str)[k]? = some (.str (nth (putNames C) k)) := by simp [nth, hk]
    simp [i4, i5, i7, u2, u3, u4, look_K, hk];have hdrop := List.drop_eq_getElem_cons hk;generalize (putNames C)[k] = nm at *;rw [hdrop] at i10;have step : ∀ (Cg : Ch) (sl : Int) (S3 : St) (Q : LV → St → Prop), (C'.give (wasOf fl) nm) = (sl, Cg) → ChAt S3 B cid m1 m2 m3 Cg →
      (∀ S4, ChAt S4 B cid m1 m2 m3 (Cg.lays nm sl).2 → Up cid m1 m2 m3 S3 S4 → Q (.d (.bool (Cg.lays nm sl).1)) S4) → SQ cf 81 [.ptr cid 0, .d (.str nm), .d (.int .i64 sl)] S3 Q := by
     intro Cg sl S3 Q hg hc3 hq;have hfg : Fine Cg k := by
      have := i9.give (was := wasOf fl) (n := nm);rw [hg] at this;exact this
     have hf1 := hfg.data nm;have hf2 := hfg.l;exact fs_lays hc3 (by omega) ⟨by omega, hfg.free⟩ hq
    have hcid : cid < S2.next := hC2.lt.1.2
    cases hw : lookK (wasOf fl) nm with
    | some sl =>
     have hgv : C'.give (wasOf fl) nm = (sl, C') := by unfold Ch.give; rw [hw]
     simp [found, inE];simp [i3, u1];refine step C' sl S' _ hgv hC9 fun S4 w1 w2 => ?_;have i10' : layNames (wasOf fl) C' (nm :: (putNames C).drop (k + 1)) = if (C'.lays nm sl).1 then layNames (wasOf fl) (C'.lays nm sl).2 ((putNames C).drop (k + 1)) else (false, (C'.lays nm sl).2) := by
      show (if ((C'.give (wasOf fl) nm).2.lays nm (C'.give (wasOf fl) nm).1).1 then _ else _) = _;rw [hgv]
     have hfn : Fine (C'.lays nm sl).2 (k + 1) := by
      have := (i9.give (was := wasOf fl) (n := nm)).lays (n := nm) (s := sl);rw [hgv] at this;exact this
     have hup := w2;rw [i10'] at i10
     cases hb : (C'.lays nm sl).1 with
     | true =>
      rw [hb] at i10;simp [i2, i3, i4, i5, i6, i7];exact ⟨k + 1, ⟨by omega, wrap_i64 (by omega) (by omega), ⟨_, w1, hfn, i10⟩, i11.trans hup⟩, by omega⟩
     | false =>
      rw [hb] at i10;simp;have hlay : C.lay fl = (false, (C'.lays nm sl).2) := by
       unfold Ch.lay;rw [← i10];rfl
      rw [hlay] at h;have hfu := i11.trans hup;refine h _ w1 ⟨fun j hj hj1 hj2 hj3 hj4 => (hfu.1 j (by omega) hj1 hj2 hj3 hj4).trans (hd0 j hj), by have := hfu.2.1; omega, by have := hfu.2.2.1; omega, by rw [hfu.2.2.2, he2, g4]⟩
    | none =>
     have hgv : C'.give (wasOf fl) nm = (C'.slot.1, C'.slot.2) := by unfold Ch.give; rw [hw]
     simp [found];simp [i3, u1];refine fs_slot hC9 fun S3 w3 w4 => ?_;simp;have u1' : S3.obj S.next = .cells [.ptr cid 0] := (w4.1 S.next (by have := i11.2.1; omega) (by omega) (by omega) (by omega) (by omega)).trans u1
     simp [i3, u1'];refine step C'.slot.2 C'.slot.1 S3 _ hgv w3 fun S4 w1 w2 => ?_;have i10' : layNames (wasOf fl) C' (nm :: (putNames C).drop (k + 1)) = if (C'.slot.2.lays nm C'.slot.1).1 then layNames (wasOf fl) (C'.slot.2.lays nm C'.slot.1).2 ((putNames C).drop (k + 1)) else (false, (C'.slot.2.lays nm C'.slot.1).2) := by
      show (if ((C'.give (wasOf fl) nm).2.lays nm (C'.give (wasOf fl) nm).1).1 then _ else _) = _;rw [hgv]
     have hfn : Fine (C'.slot.2.lays nm C'.slot.1).2 (k + 1) := by
      have := (i9.give (was := wasOf fl) (n := nm)).lays (n := nm) (s := C'.slot.1);rw [hgv] at this;exact this
     have hup := w4.trans w2;rw [i10'] at i10
     cases hb : (C'.slot.2.lays nm C'.slot.1).1 with
     | true =>
      rw [hb] at i10;simp [i2, i3, i4, i5, i6, i7];exact ⟨k + 1, ⟨by omega, wrap_i64 (by omega) (by omega), ⟨_, w1, hfn, i10⟩, i11.trans hup⟩, by omega⟩
     | false =>
      rw [hb] at i10;simp;have hlay : C.lay fl = (false, (C'.slot.2.lays nm C'.slot.1).2) := by
       unfold Ch.lay;rw [← i10];rfl
      rw [hlay] at h;have hfu := i11.trans hup;refine h _ w1 ⟨fun j hj hj1 hj2 hj3 hj4 => (hfu.1 j (by omega) hj1 hj2 hj3 hj4).trans (hd0 j hj), by have := hfu.2.1; omega, by have := hfu.2.2.1; omega, by rw [hfu.2.2.2, he2, g4]⟩
   ·have : k = (putNames C).length := by omega
    subst this;rw [List.drop_length] at i10;have i10' : layNames (wasOf fl) C (putNames C) = (true, C') := i10.symm;have hlay : C.lay fl = (decide ((C'.l ++ goneW C'.files fl).length ≤ 150), { C' with l := C'.l ++ goneW C'.files fl }) := by
     unfold Ch.lay;rw [i10'];rfl
    rw [hlay] at h;have hfu := i11;have u1 : S'.obj S.next = .cells [.ptr cid 0] := (i11.1 S.next (by omega) (by omega) (by omega) (by omega) (by omega)).trans ((ho2 _ (by omega)).trans g5)
    have hnx := i11.2.1;have hb1 := hC2.lt;have ufid : S'.obj fid = .cells [.ptr id 0, c] := (i11.1 fid (by omega) (by omega) (by omega) (by omega) (by omega)).trans ((hd0 fid hid).trans hc)
    simp [i2];refine fs_all ?_ (by omega)
    simp;generalize hax : S'.next = ax;generalize hy2 : ax + 1 = y2;have hC' := i8;refine fs_range (fid := fid) (bx := ax) (y := y2) (c0 := .ptr id 0) (c := c) (fl := fl) (fun j S3 => GoneJ S' S3 B cid m1 m2 m3 { C' with l := C'.l ++ goneW C'.files (fl.take j) }) (by simp) (by simp; omega) ⟨by simp [hax], by simp; omega⟩ ⟨by simp [show ¬ fid = S'.next by omega]; exact ufid, by simp; omega⟩ hs hl rfl (fun j S3 o hJ => hJ.set (by omega) hC'.lt) (fun o => ?_) (fun j S3 hJ => ?_) (fun j S3 o hj hJ hy => ?_) (fun S9 hJ => ?_)
    ·refine ⟨by simp <;> omega, ?_, ⟨fun q hq _ _ _ _ => by simp [show ¬ q = S'.next by omega, show ¬ q = S'.next + 1 by omega], by simp <;> omega, by simp, rfl⟩⟩
     have hz : C'.l ++ goneW C'.files (fl.take 0) = C'.l := by simp [goneW]
     rw [hz];exact hC'.of (fun q hq => by simp [show ¬ q = S'.next by omega, show ¬ q = S'.next + 1 by omega]) (by simp; omega)
    ·have := hJ.next;exact ⟨⟨(hJ.up.1 fid (by omega) (by omega) (by omega) (by omega) (by omega)).trans ufid, by omega⟩, by omega⟩
    ·obtain ⟨g1, ⟨⟨⟨_, p1⟩, ⟨_, p2⟩, ⟨_, p3⟩, _, p4⟩, hnn, ⟨c', v1, v2⟩, v3, v4, v5⟩, gu⟩ := hJ;have v3 : S3.obj m1 = .mp none (mapK flD C'.files) := v3;have v1 : S3.obj cid = .cells [.mp m1, .mp m2, .mp m3, .d (.sl (inD C'.free)), c'] := v1;have u5 : S3.obj S.next = .cells [.ptr cid 0] := (gu.1 S.next (by omega) (by omega) (by omega) (by omega) (by omega)).trans u1
     have hfl : ∀ x, (LV.d (flD x)).cells = flL x := fun _ => rfl;have ca0 : ¬ fid = S3.next := by omega
     have ca1 : ¬ S3.next = fid := by omega
     have ca2 : ∀ m, ¬ fid = S3.next + m := fun m => by omega
     have ca3 : ∀ m, ¬ S3.next + m = fid := fun m => by omega
     have ca4 : ∀ m k, ¬ fid = S3.next + m + k := fun m k => by omega
     have ca5 : ∀ m k, ¬ S3.next + m + k = fid := fun m k => by omega
     have ca6 : ∀ m k n, ¬ fid = S3.next + m + k + n := fun m k n => by omega
     have ca7 : ∀ m k n, ¬ S3.next + m + k + n = fid := fun m k n => by omega
     have ca8 : ∀ m k n l, ¬ fid = S3.next + m + k + n + l := fun m k n l => by omega
     have ca9 : ∀ m k n l, ¬ S3.next + m + k + n + l = fid := fun m k n l => by omega
     have cb0 : ¬ cid = S3.next := by omega
     have cb1 : ¬ S3.next = cid := by omega
     have cb2 : ∀ m, ¬ cid = S3.next + m := fun m => by omega
     have cb3 : ∀ m, ¬ S3.next + m = cid := fun m => by omega
     have cb4 : ∀ m k, ¬ cid = S3.next + m + k := fun m k => by omega
     have cb5 : ∀ m k, ¬ S3.next + m + k = cid := fun m k => by omega
     have cb6 : ∀ m k n, ¬ cid = S3.next + m + k + n := fun m k n => by omega
     have cb7 : ∀ m k n, ¬ S3.next + m + k + n = cid := fun m k n => by omega
     have cb8 : ∀ m k n l, ¬ cid = S3.next + m + k + n + l := fun m k n l => by omega
     have cb9 : ∀ m k n l, ¬ S3.next + m + k + n + l = cid := fun m k n l => by omega
     have cc0 : ¬ m1 = S3.next := by omega
     have cc1 : ¬ S3.next = m1 := by omega
     have cc2 : ∀ m, ¬ m1 = S3.next + m := fun m => by omega
     have cc3 : ∀ m, ¬ S3.next + m = m1 := fun m => by omega
     have cc4 : ∀ m k, ¬ m1 = S3.next + m + k := fun m k => by omega
     have cc5 : ∀ m k, ¬ S3.next + m + k = m1 := fun m k => by omega
     have cc6 : ∀ m k n, ¬ m1 = S3.next + m + k + n := fun m k n => by omega
     have cc7 : ∀ m k n, ¬ S3.next + m + k + n = m1 := fun m k n => by omega
     have cc8 : ∀ m k n l, ¬ m1 = S3.next + m + k + n + l := fun m k n l => by omega
     have cc9 : ∀ m k n l, ¬ S3.next + m + k + n + l = m1 := fun m k n l => by omega
     have cd0 : ¬ m2 = S3.next := by omega
     have cd1 : ¬ S3.next = m2 := by omega
     have cd2 : ∀ m, ¬ m2 = S3.next + m := fun m => by omega
     have cd3 : ∀ m, ¬ S3.next + m = m2 := fun m => by omega
     have cd4 : ∀ m k, ¬ m2 = S3.next + m + k := fun m k => by omega
     have cd5 : ∀ m k, ¬ S3.next + m + k = m2 := fun m k => by omega
     have cd6 : ∀ m k n, ¬ m2 = S3.next + m + k + n := fun m k n => by omega
     have cd7 : ∀ m k n, ¬ S3.next + m + k + n = m2 := fun m k n => by omega
     have cd8 : ∀ m k n l, ¬ m2 = S3.next + m + k + n + l := fun m k n l => by omega
     have cd9 : ∀ m k n l, ¬ S3.next + m + k + n + l = m2 := fun m k n l => by omega
     have ce0 : ¬ m3 = S3.next := by omega
     have ce1 : ¬ S3.next = m3 := by omega
     have ce2 : ∀ m, ¬ m3 = S3.next + m := fun m => by omega
     have ce3 : ∀ m, ¬ S3.next + m = m3 := fun m => by omega
     have ce4 : ∀ m k, ¬ m3 = S3.next + m + k := fun m k => by omega
     have ce5 : ∀ m k, ¬ S3.next + m + k = m3 := fun m k => by omega
     have ce6 : ∀ m k n, ¬ m3 = S3.next + m + k + n := fun m k n => by omega
     have ce7 : ∀ m k n, ¬ S3.next + m + k + n = m3 := fun m k n => by omega
     have ce8 : ∀ m k n l, ¬ m3 = S3.next + m + k + n + l := fun m k n l => by omega
     have ce9 : ∀ m k n l, ¬ S3.next + m + k + n + l = m3 := fun m k n l => by omega
     have cf90 : ¬ S.next = S3.next := by omega
     have cf91 : ¬ S3.next = S.next := by omega
     have cf92 : ∀ m, ¬ S.next = S3.next + m := fun m => by omega
     have cf93 : ∀ m, ¬ S3.next + m = S.next := fun m => by omega
     have cf94 : ∀ m k, ¬ S.next = S3.next + m + k := fun m k => by omega
     have cf95 : ∀ m k, ¬ S3.next + m + k = S.next := fun m k => by omega
     have cf96 : ∀ m k n, ¬ S.next = S3.next + m + k + n := fun m k n => by omega
     have cf97 : ∀ m k n, ¬ S3.next + m + k + n = S.next := fun m k n => by omega
     have cf98 : ∀ m k n l, ¬ S.next = S3.next + m + k + n + l := fun m k n l => by omega
     have cf99 : ∀ m k n l, ¬ S3.next + m + k + n + l = S.next := fun m k n l => by omega
     have cg0 : ¬ y2 = S3.next := by omega
     have cg1 : ¬ S3.next = y2 := by omega
     have cg2 : ∀ m, ¬ y2 = S3.next + m := fun m => by omega
     have cg3 : ∀ m, ¬ S3.next + m = y2 := fun m => by omega
     have cg4 : ∀ m k, ¬ y2 = S3.next + m + k := fun m k => by omega
     have cg5 : ∀ m k, ¬ S3.next + m + k = y2 := fun m k => by omega
     have cg6 : ∀ m k n, ¬ y2 = S3.next + m + k + n := fun m k n => by omega
     have cg7 : ∀ m k n, ¬ S3.next + m + k + n = y2 := fun m k n => by omega
     have cg8 : ∀ m k n l, ¬ y2 = S3.next + m + k + n + l := fun m k n l => by omega
     have cg9 : ∀ m k n l, ¬ S3.next + m + k + n + l = y2 := fun m k n l => by omega
     have z0 : ¬ S.next = cid := by omega
     have z1 : ¬ S.next = m1 := by omega
     have z2 : ¬ S.next = m2 := by omega
     have z3 : ¬ S.next = m3 := by omega
     have z4 : ¬ S.next = y2 := by omega
     have z5 : ¬ cid = S.next := by omega
     have z6 : ¬ cid = m1 := by omega
     have z7 : ¬ cid = m2 := by omega
     have z8 : ¬ cid = m3 := by omega
     have z9 : ¬ cid = y2 := by omega
     have z10 : ¬ m1 = S.next := by omega
     have z11 : ¬ m1 = cid := by omega
     have z14 : ¬ m1 = y2 := by omega
     have z16 : ¬ m2 = cid := by omega
     have z19 : ¬ m2 = y2 := by omega
     have z21 : ¬ m3 = cid := by omega
     have z24 : ¬ m3 = y2 := by omega
     have z26 : ¬ y2 = cid := by omega
     simp [flL, cg0, cg2, hy];intro o';refine X_draw (by decide) ?_
     simp [cb0, cb2, cc0, cc2, cf90, cf92, cg3, z4, z9, z14, i3, u5, v1, v3, look_K];have hgn := gone_next (files := C'.files) hj;have hgl : (goneW C'.files (fl.take j)).length ≤ 1000000 := by
      have : (goneW C'.files (fl.take j)).length ≤ (fl.take j).length := by unfold goneW; rw [List.length_map]; exact List.length_filter_le _ _
      rw [List.length_take] at this;omega
     have hfl9 := i9.l;have guc := gu.2.2.1
     cases hlk : lookK C'.files (nth fl j).name with
     | some x =>
      rw [hlk] at hgn;have hgn : goneW C'.files (fl.take (j + 1)) = goneW C'.files (fl.take j) := by rw [hgn]; simp
      simp [found, hfl, flL, cb6, cc6, cf96, cg6];rw [hgn];refine ⟨by decide, rfl, by simp; omega, ⟨⟨⟨by omega, by simp; omega⟩, ⟨by omega, by simp; omega⟩, ⟨by omega, by simp; omega⟩, by omega, by simp; omega⟩, hnn, ⟨c', by simp [startD, cb0, cb2, cb6, z9, v1], v2⟩, by simp [startD, cc0, cc2, cc6, z14, v3], by simp [startD, cd0, cd2, cd6, z19, v4], by simp [startD, ce0, ce2, ce6, z24, v5]⟩, ⟨fun q hq h1 h2 h3 h4 => ?_, by simp; omega, by simp; omega, gu.2.2.2⟩⟩
      ·have hqy : ¬ q = y2 := by omega
       have w0 : ¬ q = S3.next := by omega
       have w1 : ¬ S3.next = q := by omega
       have w2 : ∀ m, ¬ q = S3.next + m := fun m => by omega
       have w3 : ∀ m, ¬ S3.next + m = q := fun m => by omega
       have w4 : ∀ m k, ¬ q = S3.next + m + k := fun m k => by omega
       have w5 : ∀ m k, ¬ S3.next + m + k = q := fun m k => by omega
       have w6 : ∀ m k n, ¬ q = S3.next + m + k + n := fun m k n => by omega
       have w7 : ∀ m k n, ¬ S3.next + m + k + n = q := fun m k n => by omega
       have w8 : ∀ m k n l, ¬ q = S3.next + m + k + n + l := fun m k n l => by omega
       have w9 : ∀ m k n l, ¬ S3.next + m + k + n + l = q := fun m k n l => by omega
       simp [startD, hqy, w0, w2, w6, gu.1 q hq h1 h2 h3 h4]
     | none =>
      rw [hlk] at hgn;have hgn : goneW C'.files (fl.take (j + 1)) = goneW C'.files (fl.take j) ++ [⟨(nth fl j).slot, zeros 64⟩] := by rw [hgn]; simp
      simp [found, cb6, cc6, cf96];refine ⟨by decide, ?_⟩
      refine X_draw (by decide) ?_
      rcases v2 with ⟨rfl, v2⟩ | ⟨ver, rfl⟩
      ·simp [cb0, cb2, cb3, cb6, cb8, cb9, cf90, cf92, cf96, cf98, cg3, cg6, cg8, z0, z4, z9, z26, i3, u5, v1, grow_lit0];refine ⟨⟨⟨by decide, by decide⟩, by decide⟩, rfl, by simp; omega, ⟨⟨⟨by omega, by simp; omega⟩, ⟨by omega, by simp; omega⟩, ⟨by omega, by simp; omega⟩, by omega, by simp; omega⟩, hnn, ⟨_, by simp [startD]; rfl, .inr ⟨S3.clk + 1400 + 1300, ?_⟩⟩, by simp [startD, cc0, cc2, cc6, cc8, z11, z14, v3], by simp [startD, cd0, cd2, cd6, cd8, z16, z19, v4], by simp [startD, ce0, ce2, ce6, ce8, z21, z24, v5]⟩, ⟨fun q hq h1 h2 h3 h4 => ?_, by simp; omega, by simp; omega, gu.2.2.2⟩⟩
       ·have hr2 : rowD wrD (C'.l ++ goneW C'.files (fl.take (j + 1))) = rowD wrD (C'.l ++ goneW C'.files (fl.take j)) ++ [D.agg [.int .i64 (nth fl j).slot, .sl (byD (zeros 64))]] := by rw [hgn]; simp [rowD, wrD]
        rw [hr2, show rowD wrD (C'.l ++ goneW C'.files (fl.take j)) = [] from v2]; rfl
       ·have hqy : ¬ q = y2 := by omega
        have w0 : ¬ q = S3.next := by omega
        have w1 : ¬ S3.next = q := by omega
        have w2 : ∀ m, ¬ q = S3.next + m := fun m => by omega
        have w3 : ∀ m, ¬ S3.next + m = q := fun m => by omega
        have w4 : ∀ m k, ¬ q = S3.next + m + k := fun m k => by omega
        have w5 : ∀ m k, ¬ S3.next + m + k = q := fun m k => by omega
        have w6 : ∀ m k n, ¬ q = S3.next + m + k + n := fun m k n => by omega
        have w7 : ∀ m k n, ¬ S3.next + m + k + n = q := fun m k n => by omega
        have w8 : ∀ m k n l, ¬ q = S3.next + m + k + n + l := fun m k n l => by omega
        have w9 : ∀ m k n l, ¬ S3.next + m + k + n + l = q := fun m k n l => by omega
        simp [startD, hqy, h1, w0, w2, w6, w8, gu.1 q hq h1 h2 h3 h4]
      ·simp [cb0, cb2, cb3, cb6, cb8, cb9, cf90, cf92, cf96, cf98, cg3, cg6, cg8, z0, z4, z9, z26, i3, u5, v1, grow_ar];refine ⟨⟨by omega, by omega⟩, ⟨⟨by decide, by decide⟩, by decide, by decide⟩, rfl, by simp; omega, ⟨⟨⟨by omega, by simp; omega⟩, ⟨by omega, by simp; omega⟩, ⟨by omega, by simp; omega⟩, by omega, by simp; omega⟩, hnn, ⟨_, by simp [startD]; rfl, .inr ⟨S3.clk + 1400 + 1300, ?_⟩⟩, by simp [startD, cc0, cc2, cc6, cc8, z11, z14, v3], by simp [startD, cd0, cd2, cd6, cd8, z16, z19, v4], by simp [startD, ce0, ce2, ce6, ce8, z21, z24, v5]⟩, ⟨fun q hq h1 h2 h3 h4 => ?_, by simp; omega, by simp; omega, gu.2.2.2⟩⟩
       ·have hr2 : rowD wrD (C'.l ++ goneW C'.files (fl.take (j + 1))) = rowD wrD (C'.l ++ goneW C'.files (fl.take j)) ++ [D.agg [.int .i64 (nth fl j).slot, .sl (byD (zeros 64))]] := by rw [hgn]; simp [rowD, wrD]
        rw [hr2]
       ·have hqy : ¬ q = y2 := by omega
        have w0 : ¬ q = S3.next := by omega
        have w1 : ¬ S3.next = q := by omega
        have w2 : ∀ m, ¬ q = S3.next + m := fun m => by omega
        have w3 : ∀ m, ¬ S3.next + m = q := fun m => by omega
        have w4 : ∀ m k, ¬ q = S3.next + m + k := fun m k => by omega
        have w5 : ∀ m k, ¬ S3.next + m + k = q := fun m k => by omega
        have w6 : ∀ m k n, ¬ q = S3.next + m + k + n := fun m k n => by omega
        have w7 : ∀ m k n, ¬ S3.next + m + k + n = q := fun m k n => by omega
        have w8 : ∀ m k n l, ¬ q = S3.next + m + k + n + l := fun m k n l => by omega
        have w9 : ∀ m k n l, ¬ S3.next + m + k + n + l = q := fun m k n l => by omega
        simp [startD, hqy, h1, w0, w2, w6, w8, gu.1 q hq h1 h2 h3 h4]
    ·have hJ := hJ.set (y := y2) (o := .dead) (by omega) hC'.lt
     rw [List.take_length] at hJ;generalize S9.set y2 .dead = S5 at *;obtain ⟨g1, hch, gu⟩ := hJ;have hch0 := hch;obtain ⟨_, _, ⟨c', v1, v2⟩, v3, v4, v5⟩ := hch;have v1 : S5.obj cid = .cells [.mp m1, .mp m2, .mp m3, .d (.sl (inD C'.free)), c'] := v1;have u5 : S5.obj S.next = .cells [.ptr cid 0] := (gu.1 S.next (by omega) (by omega) (by omega) (by omega) (by omega)).trans u1
     have hlen : (rowD wrD (C'.l ++ goneW C'.files fl)).length = (C'.l ++ goneW C'.files fl).length := rowD_length;have hfin : ∀ b, b = decide ((C'.l ++ goneW C'.files fl).length ≤ 150) → Q (.d (.bool b)) S5 := by
      rintro b rfl;refine h _ hch0 ⟨fun q hq h1 h2 h3 h4 => ?_, by have := gu.2.1; omega, by have := gu.2.2.1; have := hfu.2.2.1; omega, by rw [gu.2.2.2, hfu.2.2.2, he2, g4]⟩
      rw [gu.1 q (by omega) h1 h2 h3 h4, hfu.1 q (by omega) h1 h2 h3 h4, hd0 q hq]
     simp [i3, u5, v1];rcases v2 with ⟨rfl, v2⟩ | ⟨ver, rfl⟩
     ·have hz : (C'.l ++ goneW C'.files fl).length = 0 := by rw [← hlen]; rw [show rowD wrD (C'.l ++ goneW C'.files fl) = [] from v2]; rfl
      simp;exact hfin true (by rw [hz]; rfl)
     ·simp;intro _;refine hfin _ ?_;rw [List.length_append];exact decide_eq_decide.mpr (by omega)
end Go.VM
