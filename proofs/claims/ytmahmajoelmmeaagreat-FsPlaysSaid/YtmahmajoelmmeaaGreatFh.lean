/- Chapter 5: a change of the program's files: its beginning. No condition. -/
import Derived.Test.YtmahmajoelmmeaaGreatFf
namespace Go.VM
open Go.Proofs
set_option maxRecDepth 4000
attribute [-simp] Int.not_lt Int.not_le Nat.not_lt Nat.not_le
def addT (l : List Int) (i : Int) : List Int := if i ∈ l then l else l ++ [i]
theorem upd_in {l : List Int} {i : Int} (h : i ∈ l) : upd (taE l) (.int .i64 i) (.bool true) = taE l := by
 induction l with
 | nil => cases h
 | cons m l ih =>
  have : upd (taE (m :: l)) (.int .i64 i) (.bool true) = if i = m then (.int .i64 i, .bool true) :: taE l else (.int .i64 m, .bool true) :: upd (taE l) (.int .i64 i) (.bool true) := by
   simp only [taE, List.map_cons, upd, same_int];by_cases h : i = m <;> simp [h]
  rw [this];split
  ·rename_i e; subst e; rfl
  ·rename_i e;rw [ih (by simpa [e] using h)]; rfl
theorem upd_T {l : List Int} {i : Int} : upd (taE l) (.int .i64 i) (.bool true) = taE (addT l i) := by
 unfold addT;split
 ·rename_i h; exact upd_in h
 ·rename_i h; exact upd_ta h
def filesOf (fl : List Fl) : List (List UInt8 × Fl) := fl.foldl (fun l x => updK l x.name x) []
def takenOf (fl : List Fl) : List Int := fl.foldl (fun l x => addT l x.slot) []
theorem files_next {fl : List Fl} {k : Nat} (h : k < fl.length) : filesOf (fl.take (k + 1)) = updK (filesOf (fl.take k)) (nth fl k).name (nth fl k) := by
 rw [takeN h]; simp [filesOf]
theorem taken_next {fl : List Fl} {k : Nat} (h : k < fl.length) : takenOf (fl.take (k + 1)) = addT (takenOf (fl.take k)) (nth fl k).slot := by
 rw [takeN h]; simp [takenOf]
def beginC (fl : List Fl) (many : Int) : Ch := ⟨filesOf fl, [], takenOf fl, leftOf' fl many, []⟩
structure BegJ (S S1 : St) (id : Nat) (d : Dk) (cid m2 m3 vb : Nat) (C : Ch) : Prop where
 next : S.next + 1502 ≤ S1.next
 disk : IsD S1 id d
 obj : ∀ j, j < S.next → j ≠ id → S1.obj j = S.obj j
 clk : S.clk ≤ S1.clk
 esc : S1.esc = S.esc
 var : S1.obj vb = .cells [.ptr cid 0]
 ch : ChAt S1 S.next cid S.next m2 m3 C
theorem ChAt.at {S S' : St} {B cid m1 m2 m3 : Nat} {C : Ch} (h : ChAt S B cid m1 m2 m3 C) (k1 : S'.obj cid = S.obj cid) (k2 : S'.obj m1 = S.obj m1) (k3 : S'.obj m2 = S.obj m2) (k4 : S'.obj m3 = S.obj m3) (hn : S.next ≤ S'.next) : ChAt S' B cid m1 m2 m3 C := by
 obtain ⟨⟨⟨l0, l1⟩, ⟨l2, l3⟩, ⟨l4, l5⟩, l6, l7⟩, hne, ⟨c, hc, hs⟩, hf, hp, ht⟩ := h;exact ⟨⟨⟨l0, by omega⟩, ⟨l2, by omega⟩, ⟨l4, by omega⟩, l6, by omega⟩, hne, ⟨c, k1.trans hc, hs⟩, k2.trans hf, k3.trans hp, k4.trans ht⟩
theorem BegJ.set {S S1 : St} {id cid m2 m3 vb y : Nat} {d : Dk} {C : Ch} {o : Obj} (h : BegJ S S1 id d cid m2 m3 vb C) (h0 : S.next < y) (h1 : id ≠ y) (h2 : cid ≠ y) (h3 : m2 ≠ y) (h4 : m3 ≠ y) (h5 : vb ≠ y) : BegJ S (S1.set y o) id d cid m2 m3 vb C := by
 obtain ⟨g1, g2, g3, g4, g5, g6, g7⟩ := h;have h6 : ¬ S.next = y := by omega
 refine ⟨g1, g2.of (by simp [h1]) g2.1, fun j hj hji => ?_, g4, g5, by simp [h5, g6], g7.at (by simp [h2]) (by simp [h6]) (by simp [h3]) (by simp [h4]) (Nat.le_refl _)⟩
 simp [show ¬ j = y by omega, g3 j hj hji]
set_option maxHeartbeats 4000000 in
theorem fs_begin {S : St} {fid id n : Nat} {fl : List Fl} {d : Dk} {Q : LV → St → Prop} (hI : IsD S id d) (hF : IsF S fid id fl) (hl : fl.length ≤ 1000000 ∧ ∀ x ∈ fl, x.size ≤ 1000000) (hw : Ok d n)
  (h : ∀ S' cid m1 m2 m3, IsD S' id d → ChAt S' S.next cid m1 m2 m3 (beginC fl d.many) → (∀ j, j < S.next → j ≠ id → S'.obj j = S.obj j) → S.next ≤ S'.next → S.clk ≤ S'.clk → S'.esc = S.esc → Q (.ptr cid 0) S') : SQ cf 42 [.ptr fid 0] S Q := by
 refine S_intro Tryz.func42 rfl rfl (Nat.le_of_ble_eq_true rfl) ?_;have hid := hI.1;have hlt := hF.lt;have hne : ¬ fid = id := Ne.symm hF.lt.2;have r0 : ¬ fid = S.next := by omega
 have r1 : ¬ S.next = fid := by omega
 have r2 : ∀ m, ¬ fid = S.next + m := fun m => by omega
 have r3 : ∀ m, ¬ S.next + m = fid := fun m => by omega
 have s0 : ¬ id = S.next := by omega
 have s1 : ¬ S.next = id := by omega
 have s2 : ∀ m, ¬ id = S.next + m := fun m => by omega
 have s3 : ∀ m, ¬ S.next + m = id := fun m => by omega
 simp;refine X_drawM (ms := [0, 0, 0, 0, 8, 0, 32, 96, 224, 504, 1016, 2047, 4095, 0, 16383]) (by decide +kernel) (by decide +kernel) ?_
 simp;refine ro_nodes (d := d) (fl := fl) (id := id) (hI.of ?_ ?_) (hF.of ?_ ?_) hl.1 ?_
 ·simp [startD, s0, s2]
 ·simp [startD]; omega
 ·simp [startD, r0, r2]
 ·simp [startD]; omega
 have hF0 := hF;obtain ⟨_, c2, e1, e2⟩ := hF;simp [e1, r0, r2];refine sh_Many (d := d) (hI.of ?_ ?_) hw.wf.many fun S3 k1 k2 k3 k4 k5 => ?_
 ·simp [startD, s0, s2]
 ·simp [startD]; omega
 simp [startD] at k2 k3 k4 k5;simp [k3, k4];refine room_Free (nodes_size hl.2) ?_;have okm : ∀ i, (LV.mp i).okb = true := fun _ => rfl;simp [okm, r1, r2, r3, s1, s2, s3];refine ⟨⟨by decide, .inr hne, by decide⟩, ?_⟩
 generalize hS4 : ({ obj := _, next := S.next + 1500, clk := S.clk + 1500, esc := _ } : St) = S4;have hn4 : S4.next = S.next + 1500 := by rw [← hS4]
 have hc4 : S4.clk = S.clk + 1500 := by rw [← hS4]
 have he4 : S4.esc = S.esc := by rw [← hS4]; exact k5
 have hI4 : IsD S4 id d := k1.of (by rw [← hS4]; simp [startD, s2]) (by omega)
 have hj4 : ∀ j, j < S.next → j ≠ id → S4.obj j = S.obj j := by
  intro j hj hji;have q0 : ¬ j = S.next := by omega
  have q1 : ¬ S.next = j := by omega
  have q2 : ∀ m, ¬ j = S.next + m := fun m => by omega
  have q3 : ∀ m, ¬ S.next + m = j := fun m => by omega
  have q4 : ∀ m k, ¬ j = S.next + m + k := fun m k => by omega
  have q5 : ∀ m k, ¬ S.next + m + k = j := fun m k => by omega
  rw [← hS4];simp [startD, q0, q2, k2 j hji]
 generalize hcid' : S.next + 1200 = cid;generalize hm2' : S.next + 100 = m2;generalize hm3' : S.next + 200 = m3;generalize hvb' : S.next + 1300 = vb;have hcid := hcid'.symm;have hm2 := hm2'.symm;have hm3 := hm3'.symm;have hvb := hvb'.symm;have hv4 : S4.obj vb = .cells [.ptr cid 0] := by rw [← hS4, hvb, hcid]; simp [startD]
 have hC4 : ChAt S4 S.next cid S.next m2 m3 { beginC fl d.many with files := filesOf (fl.take 0), taken := takenOf (fl.take 0) } := by
  refine ⟨⟨⟨by omega, by omega⟩, ⟨by omega, by omega⟩, ⟨by omega, by omega⟩, by omega, by omega⟩, ⟨⟨by omega, by omega, by omega⟩, by omega, by omega, by omega⟩, ⟨.lit [], ?_, .inl ⟨rfl, rfl⟩⟩, ?_, ?_, ?_⟩
  ·rw [← hS4, hcid, hm2, hm3]; simp [startD]; rfl
  ·rw [← hS4]; simp [startD, k2 S.next (by omega), filesOf, mapK]
  ·rw [← hS4, hm2]; simp [startD, k2 (S.next + 100) (by omega), beginC, mapK]
  ·rw [← hS4, hm3]; simp [startD, k2 (S.next + 200) (by omega), takenOf, taE]
 clear hS4;refine fs_all ?_ (by omega)
 simp;generalize hax : S4.next = ax;generalize hyy : ax + 1 = y;refine fs_range (fid := fid) (bx := ax) (y := y) (fl := fl) (fun k S1 => BegJ S S1 id d cid m2 m3 vb { beginC fl d.many with files := filesOf (fl.take k), taken := takenOf (fl.take k) }) (by simp) (by simp; omega) ⟨by simp [hax], by simp; omega⟩ ⟨by simp [hj4 fid hlt.1 hne, show ¬ fid = S4.next by omega]; exact e1, by simp; omega⟩ e2 hl.1 rfl (fun k S1 o hJ => ?_) (fun o => ?_) (fun k S1 hJ => ?_) (fun k S1 o hk hJ hy => ?_) (fun S' hJ => ?_)
 ·exact hJ.set (by omega) (by omega) (by omega) (by omega) (by omega) (by omega)
 ·have hBJ : BegJ S ((S4.alloc (.cells [.ptr fid 0])).alloc o) id d cid m2 m3 vb { beginC fl d.many with files := filesOf (fl.take 0), taken := takenOf (fl.take 0) } := by
   refine ⟨by simp; omega, hI4.of (by simp [show ¬ id = S4.next by omega, show ¬ id = S4.next + 1 by omega]) (by simp; omega), fun j hj hji => ?_, by simp; omega, he4, by simp [show ¬ vb = S4.next by omega, show ¬ vb = S4.next + 1 by omega, hv4], hC4.of (fun j hj => ?_) (by simp; omega)⟩
   ·simp [show ¬ j = S4.next by omega, show ¬ j = S4.next + 1 by omega, hj4 j hj hji]
   ·simp [show ¬ j = S4.next by omega, show ¬ j = S4.next + 1 by omega]
  exact hBJ
 ·have := hJ.next;exact ⟨⟨(hJ.obj fid hlt.1 hne).trans e1, by omega⟩, by omega⟩
 ·obtain ⟨g1, g2, g3, g4, g5, g6, g7⟩ := hJ;obtain ⟨⟨⟨_, p1⟩, ⟨_, p2⟩, ⟨_, p3⟩, _, p4⟩, hnn, ⟨c', q1, q2⟩, q3, q4, q5⟩ := g7;have q3 : S1.obj S.next = .mp none (mapK flD (filesOf (fl.take k))) := q3;have q5 : S1.obj m3 = .mp (some .i64) (taE (takenOf (fl.take k))) := q5;have aa0 : ¬ fid = S1.next := by omega
  have aa1 : ¬ S1.next = fid := by omega
  have aa2 : ∀ m, ¬ fid = S1.next + m := fun m => by omega
  have aa3 : ∀ m, ¬ S1.next + m = fid := fun m => by omega
  have aa4 : ∀ m k, ¬ fid = S1.next + m + k := fun m k => by omega
  have aa5 : ∀ m k, ¬ S1.next + m + k = fid := fun m k => by omega
  have aa6 : ∀ m k n, ¬ fid = S1.next + m + k + n := fun m k n => by omega
  have aa7 : ∀ m k n, ¬ S1.next + m + k + n = fid := fun m k n => by omega
  have aa8 : ∀ m k n l, ¬ fid = S1.next + m + k + n + l := fun m k n l => by omega
  have aa9 : ∀ m k n l, ¬ S1.next + m + k + n + l = fid := fun m k n l => by omega
  have ab0 : ¬ id = S1.next := by omega
  have ab1 : ¬ S1.next = id := by omega
  have ab2 : ∀ m, ¬ id = S1.next + m := fun m => by omega
  have ab3 : ∀ m, ¬ S1.next + m = id := fun m => by omega
  have ab4 : ∀ m k, ¬ id = S1.next + m + k := fun m k => by omega
  have ab5 : ∀ m k, ¬ S1.next + m + k = id := fun m k => by omega
  have ab6 : ∀ m k n, ¬ id = S1.next + m + k + n := fun m k n => by omega
  have ab7 : ∀ m k n, ¬ S1.next + m + k + n = id := fun m k n => by omega
  have ab8 : ∀ m k n l, ¬ id = S1.next + m + k + n + l := fun m k n l => by omega
  have ab9 : ∀ m k n l, ¬ S1.next + m + k + n + l = id := fun m k n l => by omega
  have ac0 : ¬ S.next = S1.next := by omega
  have ac1 : ¬ S1.next = S.next := by omega
  have ac2 : ∀ m, ¬ S.next = S1.next + m := fun m => by omega
  have ac3 : ∀ m, ¬ S1.next + m = S.next := fun m => by omega
  have ac4 : ∀ m k, ¬ S.next = S1.next + m + k := fun m k => by omega
  have ac5 : ∀ m k, ¬ S1.next + m + k = S.next := fun m k => by omega
  have ac6 : ∀ m k n, ¬ S.next = S1.next + m + k + n := fun m k n => by omega
  have ac7 : ∀ m k n, ¬ S1.next + m + k + n = S.next := fun m k n => by omega
  have ac8 : ∀ m k n l, ¬ S.next = S1.next + m + k + n + l := fun m k n l => by omega
  have ac9 : ∀ m k n l, ¬ S1.next + m + k + n + l = S.next := fun m k n l => by omega
  have ad0 : ¬ cid = S1.next := by omega
  have ad1 : ¬ S1.next = cid := by omega
  have ad2 : ∀ m, ¬ cid = S1.next + m := fun m => by omega
  have ad3 : ∀ m, ¬ S1.next + m = cid := fun m => by omega
  have ad4 : ∀ m k, ¬ cid = S1.next + m + k := fun m k => by omega
  have ad5 : ∀ m k, ¬ S1.next + m + k = cid := fun m k => by omega
  have ad6 : ∀ m k n, ¬ cid = S1.next + m + k + n := fun m k n => by omega
  have ad7 : ∀ m k n, ¬ S1.next + m + k + n = cid := fun m k n => by omega
  have ad8 : ∀ m k n l, ¬ cid = S1.next + m + k + n + l := fun m k n l => by omega
  have ad9 : ∀ m k n l, ¬ S1.next + m + k + n + l = cid := fun m k n l => by omega
  have ae0 : ¬ m2 = S1.next := by omega
  have ae1 : ¬ S1.next = m2 := by omega
  have ae2 : ∀ m, ¬ m2 = S1.next + m := fun m => by omega
  have ae3 : ∀ m, ¬ S1.next + m = m2 := fun m => by omega
  have ae4 : ∀ m k, ¬ m2 = S1.next + m + k := fun m k => by omega
  have ae5 : ∀ m k, ¬ S1.next + m + k = m2 := fun m k => by omega
  have ae6 : ∀ m k n, ¬ m2 = S1.next + m + k + n := fun m k n => by omega
  have ae7 : ∀ m k n, ¬ S1.next + m + k + n = m2 := fun m k n => by omega
  have ae8 : ∀ m k n l, ¬ m2 = S1.next + m + k + n + l := fun m k n l => by omega
  have ae9 : ∀ m k n l, ¬ S1.next + m + k + n + l = m2 := fun m k n l => by omega
  have af0 : ¬ m3 = S1.next := by omega
  have af1 : ¬ S1.next = m3 := by omega
  have af2 : ∀ m, ¬ m3 = S1.next + m := fun m => by omega
  have af3 : ∀ m, ¬ S1.next + m = m3 := fun m => by omega
  have af4 : ∀ m k, ¬ m3 = S1.next + m + k := fun m k => by omega
  have af5 : ∀ m k, ¬ S1.next + m + k = m3 := fun m k => by omega
  have af6 : ∀ m k n, ¬ m3 = S1.next + m + k + n := fun m k n => by omega
  have af7 : ∀ m k n, ¬ S1.next + m + k + n = m3 := fun m k n => by omega
  have af8 : ∀ m k n l, ¬ m3 = S1.next + m + k + n + l := fun m k n l => by omega
  have af9 : ∀ m k n l, ¬ S1.next + m + k + n + l = m3 := fun m k n l => by omega
  have ag0 : ¬ vb = S1.next := by omega
  have ag1 : ¬ S1.next = vb := by omega
  have ag2 : ∀ m, ¬ vb = S1.next + m := fun m => by omega
  have ag3 : ∀ m, ¬ S1.next + m = vb := fun m => by omega
  have ag4 : ∀ m k, ¬ vb = S1.next + m + k := fun m k => by omega
  have ag5 : ∀ m k, ¬ S1.next + m + k = vb := fun m k => by omega
  have ag6 : ∀ m k n, ¬ vb = S1.next + m + k + n := fun m k n => by omega
  have ag7 : ∀ m k n, ¬ S1.next + m + k + n = vb := fun m k n => by omega
  have ag8 : ∀ m k n l, ¬ vb = S1.next + m + k + n + l := fun m k n l => by omega
  have ag9 : ∀ m k n l, ¬ S1.next + m + k + n + l = vb := fun m k n l => by omega
  have ah0 : ¬ y = S1.next := by omega
  have ah1 : ¬ S1.next = y := by omega
  have ah2 : ∀ m, ¬ y = S1.next + m := fun m => by omega
  have ah3 : ∀ m, ¬ S1.next + m = y := fun m => by omega
  have ah4 : ∀ m k, ¬ y = S1.next + m + k := fun m k => by omega
  have ah5 : ∀ m k, ¬ S1.next + m + k = y := fun m k => by omega
  have ah6 : ∀ m k n, ¬ y = S1.next + m + k + n := fun m k n => by omega
  have ah7 : ∀ m k n, ¬ S1.next + m + k + n = y := fun m k n => by omega
  have ah8 : ∀ m k n l, ¬ y = S1.next + m + k + n + l := fun m k n l => by omega
  have ah9 : ∀ m k n l, ¬ S1.next + m + k + n + l = y := fun m k n l => by omega
  have z2 : ¬ S.next = m3 := by omega
  have z4 : ¬ S.next = y := by omega
  have z5 : ¬ cid = S.next := by omega
  have z7 : ¬ cid = m3 := by omega
  have z9 : ¬ cid = y := by omega
  have z10 : ¬ m2 = S.next := by omega
  have z12 : ¬ m2 = m3 := by omega
  have z14 : ¬ m2 = y := by omega
  have z15 : ¬ m3 = S.next := by omega
  have z19 : ¬ m3 = y := by omega
  have z20 : ¬ vb = S.next := by omega
  have z23 : ¬ vb = m3 := by omega
  have z24 : ¬ vb = y := by omega
  have z25 : ¬ y = S.next := by omega
  have z28 : ¬ y = m3 := by omega
  simp [flL, ah0, ah2, hy];intro o';refine X_draw (by decide) ?_
  simp [ac0, ac2, ac3, ad0, ad2, ag0, ag2, ah3, z4, z5, z9, z20, z24, g6, q1, q3];refine X_draw (by decide) ?_
  simp [ac3, ad0, ad2, af0, af2, af3, ag0, ag2, ah3, z5, z7, z9, z15, z19, z20, z23, z24, z25, z28, g6, q1, q5];refine ⟨rfl, ⟨by simp; omega, g2.of (by simp [startD, ab0, ab2, show ¬ id = S.next by omega, show ¬ id = y by omega, show ¬ id = m3 by omega]) (by simp; omega), fun j hj hji => ?_, by simp; omega, g5, by simp [startD, ag0, ag2, z20, z23, z24, g6], ⟨⟨⟨by omega, by simp; omega⟩, ⟨by omega, by simp; omega⟩, ⟨by omega, by simp; omega⟩, by omega, by simp; omega⟩, hnn, ⟨c', by simp [startD, ad0, ad2, z5, z7, z9, q1], q2⟩, ?_, by simp [startD, ae0, ae2, z10, z12, z14, q4], ?_⟩⟩⟩
  ·have hj1 : ¬ j = S.next := by omega
   have hj2 : ¬ j = m3 := by omega
   have hj3 : ¬ j = y := by omega
   have w0 : ¬ j = S1.next := by omega
   have w2 : ∀ m, ¬ j = S1.next + m := fun m => by omega
   simp [startD, hj1, hj2, hj3, w0, w2, g3 j hj hji]
  ·simp [startD, z2];rw [files_next hk];exact upd_K (enc := flD) (x := nth fl k)
  ·simp [startD];rw [taken_next hk];exact upd_T
 ·obtain ⟨g1, g2, g3, g4, g5, g6, g7⟩ := hJ.set (y := y) (o := .dead) (by omega) (by omega) (by omega) (by omega) (by omega) (by omega)
  rw [List.take_length] at g7;have hvy : ¬ vb = y := by omega
  have g6' : S'.obj vb = .cells [.ptr cid 0] := by simpa [hvy] using g6
  simp [hvy, g6'];exact h _ _ _ _ _ g2 g7 g3 (by simp at g1 ⊢; omega) g4 g5
end Go.VM
