/- Chapter 5: a change of the program's files: a file that was put stands in a slot. No condition. -/
import Derived.Test.YtmahmajoelmmeaaGreatFd
namespace Go.VM
open Go.Proofs
set_option maxRecDepth 4000
attribute [-simp] Int.not_lt Int.not_le Nat.not_lt Nat.not_le
def sectW (b : List UInt8) (l : List Int) (n : Nat) : List Wr := (List.range n).map fun k => ⟨nth l k, sect (b.drop (64 * k))⟩
theorem sectW_succ {b : List UInt8} {l : List Int} {n : Nat} : sectW b l (n + 1) = sectW b l n ++ [⟨nth l n, sect (b.drop (64 * n))⟩] := by simp [sectW, List.range_succ]
theorem sectW_length {b : List UInt8} {l : List Int} {n : Nat} : (sectW b l n).length = n := by simp [sectW]
def Fl.nil : Fl := ⟨0, [], 0, [], [], false⟩
def Ch.file (C : Ch) (name : List UInt8) : Fl := (lookK C.files name).getD .nil
def Fl.laid (x : Fl) (name : List UInt8) (slot : Int) (l : List Int) : Fl := ⟨slot, name, x.data.length, l, x.data, false⟩
def needN (n : Nat) : Nat := (need n).toNat
def Ch.lays (C : Ch) (name : List UInt8) (slot : Int) : Bool × Ch :=
 if slot < 0 ∨ C.free.length < needN (C.file name).data.length then (false, C)
 else (true, { C with
  free := C.free.drop (needN (C.file name).data.length)
  l := C.l ++ sectW (C.file name).data (C.free.take (needN (C.file name).data.length)) (needN (C.file name).data.length) ++ [⟨slot, ndBytes ((C.file name).laid name slot (C.free.take (needN (C.file name).data.length))).nd⟩]
  files := updK C.files name ((C.file name).laid name slot (C.free.take (needN (C.file name).data.length))) })
theorem ChAt.of {S S' : St} {B cid m1 m2 m3 : Nat} {C : Ch} (h : ChAt S B cid m1 m2 m3 C) (k : ∀ j, j < S.next → S'.obj j = S.obj j) (hn : S.next ≤ S'.next) : ChAt S' B cid m1 m2 m3 C := by
 obtain ⟨⟨⟨l0, l1⟩, ⟨l2, l3⟩, ⟨l4, l5⟩, l6, l7⟩, hne, ⟨c, hc, hs⟩, hf, hp, ht⟩ := h;exact ⟨⟨⟨l0, by omega⟩, ⟨l2, by omega⟩, ⟨l4, by omega⟩, l6, by omega⟩, hne, ⟨c, (k _ l1).trans hc, hs⟩, (k _ l3).trans hf, (k _ l5).trans hp, (k _ l7).trans ht⟩
theorem sect_copy {b : List UInt8} : (b.take 64 ++ (zeros 64).drop (min b.length 64)).take 64 = sect b := by
 have hz : (zeros 64).drop (min b.length 64) = zeros (64 - b.length) := by
  simp only [zeros, List.drop_replicate];congr 1;omega
 rw [hz];refine List.take_of_length_le ?_;simp [zeros];omega
set_option maxHeartbeats 4000000 in
theorem fs_lays {S : St} {B cid m1 m2 m3 : Nat} {C : Ch} {name : List UInt8} {slot : Int} {Q : LV → St → Prop} (hC : ChAt S B cid m1 m2 m3 C) (ho : (C.file name).data.length ≤ 1000000) (hl : C.l.length ≤ 100000 ∧ C.free.length ≤ 1000000)
  (h : ∀ S', ChAt S' B cid m1 m2 m3 (C.lays name slot).2 → Up cid m1 m2 m3 S S' → Q (.d (.bool (C.lays name slot).1)) S') : SQ cf 81 [.ptr cid 0, .d (.str name), .d (.int .i64 slot)] S Q := by
 have hC0 := hC;obtain ⟨⟨⟨l0, l1⟩, ⟨l2, l3⟩, ⟨l4, l5⟩, l6, l7⟩, ⟨⟨n1, n2, n3⟩, n4, n5, n6⟩, ⟨c, hc, hs⟩, hf, hp, ht⟩ := hC;refine S_intro Tryz.func81 rfl rfl (Nat.le_of_ble_eq_true rfl) ?_;have d1 := Ne.symm n1;have d2 := Ne.symm n2;have d3 := Ne.symm n3;have d4 := Ne.symm n4;have d5 := Ne.symm n5;have d6 := Ne.symm n6;have r0 : ¬ cid = S.next := by omega
 have r1 : ¬ S.next = cid := by omega
 have s0 : ¬ m1 = S.next := by omega
 have t0 : ¬ m2 = S.next := by omega
 have u0 : ¬ m3 = S.next := by omega
 have hfl : ∀ x, (LV.d (flD x)).cells = flL x := fun _ => rfl;have hfd : found (Option.map flD (lookK C.files name)) (D.agg [D.int IntKind.i64 0, D.str [], D.int IntKind.i64 0, D.sl [], D.sl []]) false = .d (flD (C.file name)) := by
  unfold Ch.file
  cases lookK C.files name <;> rfl
 simp [hc, hf, look_K, hfd, hfl];generalize hx : C.file name = x at *;simp [flL];intro _;refine node_Need (by omega) ?_
 have hnd : 0 ≤ need x.data.length ∧ need x.data.length ≤ 20000 := by
  unfold need;split
  ·omega
  ·rw [Int.tdiv_eq_ediv_of_nonneg (by omega)]; omega
 obtain ⟨N, hN⟩ : ∃ N : Nat, need x.data.length = N := ⟨(need x.data.length).toNat, by omega⟩
 have hz0 : needN x.data.length = N := by unfold needN; omega
 rw [hN] at hnd;rw [hN];simp;refine f_intro (fun j1 => ?_) (fun j1 => ?_)
 ·have e1 : C.lays name slot = (false, C) := by unfold Ch.lays; rw [if_pos (.inl j1)]
  rw [e1] at h;simp [j1];exact h _ (hC0.of (fun j hj => by simp [show ¬ j = S.next by omega]) (by simp)) ⟨fun j hj _ _ _ _ => by simp [show ¬ j = S.next by omega], by simp, by simp, rfl⟩
 ·simp [j1, r0, hc];intro _;refine f_intro (fun j2 => ?_) (fun j2 => ?_)
  ·have e1 : C.lays name slot = (false, C) := by unfold Ch.lays; rw [hx, hz0, if_pos (.inr j2)]
   rw [e1] at h;simp;exact h _ (hC0.of (fun j hj => by simp [show ¬ j = S.next by omega]) (by simp)) ⟨fun j hj _ _ _ _ => by simp [show ¬ j = S.next by omega], by simp, by simp, rfl⟩
  ·have hlay : (C.lays name slot) = (true, { C with free := C.free.drop N, l := C.l ++ sectW x.data (C.free.take N) N ++ [⟨slot, ndBytes (x.laid name slot (C.free.take N)).nd⟩], files := updK C.files name (x.laid name slot (C.free.take N)) }) := by
    unfold Ch.lays; rw [hx, hz0, if_neg (by rintro (h1 | h1); exact j1 h1; exact j2 h1)]
   rw [hlay] at h;simp;refine X_draw (by decide) ?_
   simp [r0, hc];intro _;refine ⟨by omega, ?_⟩
   refine cf_clone (.inr ⟨?_, ?_⟩) ?_
   ·simp
   ·simp [inD];omega
   simp [r0, r1, hc];have hmn : min N C.free.length = N := by omega
   refine ⟨⟨⟨by decide, by decide⟩, by decide⟩, by omega, fun _ => ?_⟩
   let C1 : Nat → Ch := fun k => { C with free := C.free.drop N, l := C.l ++ sectW x.data (C.free.take N) k }
   refine X_loop (fun (k : Nat) e S' => k ≤ N ∧ e 0 = .ptr cid 0 ∧ e 1 = .d (.str name) ∧ e 2 = .d (.int .i64 slot) ∧ e 7 = .ptr S.next 0 ∧ e 59 = .d (.sl (inD (C.free.take N))) ∧ e 60 = .d (.int .i64 N) ∧ e 61 = .d (.int .i64 k) ∧
    ChAt S' B cid m1 m2 m3 (C1 k) ∧ Up cid m1 m2 m3 S S' ∧ S.next < S'.next ∧ S'.obj S.next = .cells (flL (x.laid name slot (C.free.take N)))) (fun k => N - k) 0 ?_ ?_
   ·simp [hmn];refine ⟨⟨⟨⟨l0, by simp; omega⟩, ⟨l2, by simp; omega⟩, ⟨l4, by simp; omega⟩, l6, by simp; omega⟩, ⟨⟨n1, n2, n3⟩, n4, n5, n6⟩, ⟨c, by simp [startD]; rfl, ?_⟩, by simp [startD, s0, d1, hf]; rfl, by simp [startD, t0, d2, hp]; rfl, by simp [startD, u0, d3, ht]; rfl⟩, ⟨fun j hj hj1 hj2 hj3 hj4 => ?_, by simp; omega, by simp, rfl⟩, ?_⟩
    ·simpa [C1, sectW] using hs
    ·have hj0 := hj1;have q0 : ¬ j = S.next := by omega
     have q1 : ¬ S.next = j := by omega
     have q2 : ∀ m, ¬ j = S.next + m := fun m => by omega
     have q3 : ∀ m, ¬ S.next + m = j := fun m => by omega
     have q4 : ∀ m k, ¬ j = S.next + m + k := fun m k => by omega
     have q5 : ∀ m k, ¬ S.next + m + k = j := fun m k => by omega
     simp [startD, hj1, q0]
    ·simp [r1, Fl.laid, flL];omega
   ·intro k e S' hk;obtain ⟨g1, g2, g3, g4, g5, g6, g7, g8, g9, g10, g11, g12⟩ := hk;obtain ⟨⟨⟨_, p1⟩, ⟨_, p2⟩, ⟨_, p3⟩, _, p4⟩, _, ⟨c', q1, q2⟩, q3, q4, q5⟩ := g9;simp [g7, g8];refine f_intro (fun j3 => ?_) (fun j3 => ?_)
    ·have hk : k < N := by omega
     have va0 : ¬ cid = S'.next := by omega
     have va1 : ¬ S'.next = cid := by omega
     have va2 : ∀ m, ¬ cid = S'.next + m := fun m => by omega
     have va3 : ∀ m, ¬ S'.next + m = cid := fun m => by omega
     have va4 : ∀ m k, ¬ cid = S'.next + m + k := fun m k => by omega
     have va5 : ∀ m k, ¬ S'.next + m + k = cid := fun m k => by omega
     have va6 : ∀ m k n, ¬ cid = S'.next + m + k + n := fun m k n => by omega
     have va7 : ∀ m k n, ¬ S'.next + m + k + n = cid := fun m k n => by omega
     have va8 : ∀ m k n l, ¬ cid = S'.next + m + k + n + l := fun m k n l => by omega
     have va9 : ∀ m k n l, ¬ S'.next + m + k + n + l = cid := fun m k n l => by omega
     have vb0 : ¬ m1 = S'.next := by omega
     have vb1 : ¬ S'.next = m1 := by omega
     have vb2 : ∀ m, ¬ m1 = S'.next + m := fun m => by omega
     have vb3 : ∀ m, ¬ S'.next + m = m1 := fun m => by omega
     have vb4 : ∀ m k, ¬ m1 = S'.next + m + k := fun m k => by omega
     have vb5 : ∀ m k, ¬ S'.next + m + k = m1 := fun m k => by omega
     have vb6 : ∀ m k n, ¬ m1 = S'.next + m + k + n := fun m k n => by omega
     have vb7 : ∀ m k n, ¬ S'.next + m + k + n = m1 := fun m k n => by omega
     have vb8 : ∀ m k n l, ¬ m1 = S'.next + m + k + n + l := fun m k n l => by omega
     have vb9 : ∀ m k n l, ¬ S'.next + m + k + n + l = m1 := fun m k n l => by omega
     have vc0 : ¬ m2 = S'.next := by omega
     have vc1 : ¬ S'.next = m2 := by omega
     have vc2 : ∀ m, ¬ m2 = S'.next + m := fun m => by omega
     have vc3 : ∀ m, ¬ S'.next + m = m2 := fun m => by omega
     have vc4 : ∀ m k, ¬ m2 = S'.next + m + k := fun m k => by omega
     have vc5 : ∀ m k, ¬ S'.next + m + k = m2 := fun m k => by omega
     have vc6 : ∀ m k n, ¬ m2 = S'.next + m + k + n := fun m k n => by omega
     have vc7 : ∀ m k n, ¬ S'.next + m + k + n = m2 := fun m k n => by omega
     have vc8 : ∀ m k n l, ¬ m2 = S'.next + m + k + n + l := fun m k n l => by omega
     have vc9 : ∀ m k n l, ¬ S'.next + m + k + n + l = m2 := fun m k n l => by omega
     have vd0 : ¬ m3 = S'.next := by omega
     have vd1 : ¬ S'.next = m3 := by omega
     have vd2 : ∀ m, ¬ m3 = S'.next + m := fun m => by omega
     have vd3 : ∀ m, ¬ S'.next + m = m3 := fun m => by omega
     have vd4 : ∀ m k, ¬ m3 = S'.next + m + k := fun m k => by omega
     have vd5 : ∀ m k, ¬ S'.next + m + k = m3 := fun m k => by omega
     have vd6 : ∀ m k n, ¬ m3 = S'.next + m + k + n := fun m k n => by omega
     have vd7 : ∀ m k n, ¬ S'.next + m + k + n = m3 := fun m k n => by omega
     have vd8 : ∀ m k n l, ¬ m3 = S'.next + m + k + n + l := fun m k n l => by omega
     have vd9 : ∀ m k n l, ¬ S'.next + m + k + n + l = m3 := fun m k n l => by omega
     have ve0 : ¬ S.next = S'.next := by omega
     have ve1 : ¬ S'.next = S.next := by omega
     have ve2 : ∀ m, ¬ S.next = S'.next + m := fun m => by omega
     have ve3 : ∀ m, ¬ S'.next + m = S.next := fun m => by omega
     have ve4 : ∀ m k, ¬ S.next = S'.next + m + k := fun m k => by omega
     have ve5 : ∀ m k, ¬ S'.next + m + k = S.next := fun m k => by omega
     have ve6 : ∀ m k n, ¬ S.next = S'.next + m + k + n := fun m k n => by omega
     have ve7 : ∀ m k n, ¬ S'.next + m + k + n = S.next := fun m k n => by omega
     have ve8 : ∀ m k n l, ¬ S.next = S'.next + m + k + n + l := fun m k n l => by omega
     have ve9 : ∀ m k n l, ¬ S'.next + m + k + n + l = S.next := fun m k n l => by omega
     have hxb1 : ¬ S.next = cid := by omega
     have hxb2 : ¬ cid = S.next := by omega
     have hkd : 64 * k < x.data.length := by
      have := hN;unfold need at this;split at this
      ·omega
      ·rw [Int.tdiv_eq_ediv_of_nonneg (by omega)] at this; omega
     have ew : IntKind.i64.wrap ((k : Int) * 64) = (64 * k : Nat) := by rw [wrap_i64 (by omega) (by omega)]; omega
     simp [g6, g8, hk];refine ⟨by omega, ?_⟩
     simp [g2, g5, g12, Fl.laid, flL, ew, va0, ve0, q1];have ek : (64 * (k : Int)).toNat = 64 * k := by omega
     have hbl : x.data.length - 64 * k = (x.data.drop (64 * k)).length := List.length_drop.symm;rw [ek, hbl, sect_copy];refine ⟨by omega, by omega, ?_⟩
     have hck := g10.2.2.1;have hnn := g10.2.1;have hll : (C.l ++ sectW x.data (C.free.take N) k).length ≤ 200000 := by rw [List.length_append, sectW_length]; omega
     have hrow : rowD wrD (C1 k).l ++ [D.agg [.int .i64 (nth (C.free.take N) k), .sl (byD (sect (x.data.drop (64 * k))))]] = rowD wrD (C1 (k + 1)).l := by
      simp only [C1];rw [sectW_succ];simp [rowD, wrD]
     rcases q2 with ⟨rfl, q2⟩ | ⟨ver, rfl⟩
     ·simp [g2, g5, g6, g7, g8, g12, va0, va2, ve0, ve2, hxb1, q1, grow_lit0, Fl.laid, flL];refine ⟨k + 1, ⟨by omega, g3, g4, wrap_i64 (by omega) (by omega), ⟨⟨⟨l0, by simp; omega⟩, ⟨l2, by simp; omega⟩, ⟨l4, by simp; omega⟩, l6, by simp; omega⟩, ⟨⟨n1, n2, n3⟩, n4, n5, n6⟩, ⟨_, by simp; exact ⟨rfl, rfl⟩, .inr ⟨S'.clk, ?_⟩⟩, by simp [vb0, vb2, d1, q3]; rfl, by simp [vc0, vc2, d2, q4]; rfl, by simp [vd0, vd2, d3, q5]; rfl⟩, ⟨fun j hj hj1 hj2 hj3 hj4 => ?_, by simp; omega, by simp; omega, g10.2.2.2⟩, by omega⟩, by omega⟩
      ·rw [← hrow, q2]; rfl
      ·have hj0 := hj1;have hjn : ¬ j = S.next := by omega
       have w0 : ¬ j = S'.next := by omega
       have w1 : ¬ S'.next = j := by omega
       have w2 : ∀ m, ¬ j = S'.next + m := fun m => by omega
       have w3 : ∀ m, ¬ S'.next + m = j := fun m => by omega
       have w4 : ∀ m k, ¬ j = S'.next + m + k := fun m k => by omega
       have w5 : ∀ m k, ¬ S'.next + m + k = j := fun m k => by omega
       have w6 : ∀ m k n, ¬ j = S'.next + m + k + n := fun m k n => by omega
       have w7 : ∀ m k n, ¬ S'.next + m + k + n = j := fun m k n => by omega
       have w8 : ∀ m k n l, ¬ j = S'.next + m + k + n + l := fun m k n l => by omega
       have w9 : ∀ m k n l, ¬ S'.next + m + k + n + l = j := fun m k n l => by omega
       simp [hj1, w0, w2, g10.1 j hj hj1 hj2 hj3 hj4]
     ·simp [g2, g5, g6, g7, g8, g12, va0, va2, ve0, ve2, hxb1, q1, grow_ar, Fl.laid, flL];have hc1l : (C1 k).l.length ≤ 200000 := hll;refine ⟨⟨by omega, by omega⟩, ?_⟩
      refine ⟨k + 1, ⟨by omega, g3, g4, wrap_i64 (by omega) (by omega), ⟨⟨⟨l0, by simp; omega⟩, ⟨l2, by simp; omega⟩, ⟨l4, by simp; omega⟩, l6, by simp; omega⟩, ⟨⟨n1, n2, n3⟩, n4, n5, n6⟩, ⟨_, by simp; exact ⟨rfl, rfl⟩, .inr ⟨S'.clk, ?_⟩⟩, by simp [vb0, vb2, d1, q3]; rfl, by simp [vc0, vc2, d2, q4]; rfl, by simp [vd0, vd2, d3, q5]; rfl⟩, ⟨fun j hj hj1 hj2 hj3 hj4 => ?_, by simp; omega, by simp; omega, g10.2.2.2⟩, by omega⟩, by omega⟩
      ·rw [← hrow]
      ·have hj0 := hj1;have hjn : ¬ j = S.next := by omega
       have w0 : ¬ j = S'.next := by omega
       have w1 : ¬ S'.next = j := by omega
       have w2 : ∀ m, ¬ j = S'.next + m := fun m => by omega
       have w3 : ∀ m, ¬ S'.next + m = j := fun m => by omega
       have w4 : ∀ m k, ¬ j = S'.next + m + k := fun m k => by omega
       have w5 : ∀ m k, ¬ S'.next + m + k = j := fun m k => by omega
       have w6 : ∀ m k n, ¬ j = S'.next + m + k + n := fun m k n => by omega
       have w7 : ∀ m k n, ¬ S'.next + m + k + n = j := fun m k n => by omega
       have w8 : ∀ m k n l, ¬ j = S'.next + m + k + n + l := fun m k n l => by omega
       have w9 : ∀ m k n l, ¬ S'.next + m + k + n + l = j := fun m k n l => by omega
       simp [hj1, w0, w2, g10.1 j hj hj1 hj2 hj3 hj4]
    ·have : k = N := by omega
     subst this;have va0 : ¬ cid = S'.next := by omega
     have va1 : ¬ S'.next = cid := by omega
     have va2 : ∀ m, ¬ cid = S'.next + m := fun m => by omega
     have va3 : ∀ m, ¬ S'.next + m = cid := fun m => by omega
     have va4 : ∀ m k, ¬ cid = S'.next + m + k := fun m k => by omega
     have va5 : ∀ m k, ¬ S'.next + m + k = cid := fun m k => by omega
     have va6 : ∀ m k n, ¬ cid = S'.next + m + k + n := fun m k n => by omega
     have va7 : ∀ m k n, ¬ S'.next + m + k + n = cid := fun m k n => by omega
     have va8 : ∀ m k n l, ¬ cid = S'.next + m + k + n + l := fun m k n l => by omega
     have va9 : ∀ m k n l, ¬ S'.next + m + k + n + l = cid := fun m k n l => by omega
     have vb0 : ¬ m1 = S'.next := by omega
     have vb1 : ¬ S'.next = m1 := by omega
     have vb2 : ∀ m, ¬ m1 = S'.next + m := fun m => by omega
     have vb3 : ∀ m, ¬ S'.next + m = m1 := fun m => by omega
     have vb4 : ∀ m k, ¬ m1 = S'.next + m + k := fun m k => by omega
     have vb5 : ∀ m k, ¬ S'.next + m + k = m1 := fun m k => by omega
     have vb6 : ∀ m k n, ¬ m1 = S'.next + m + k + n := fun m k n => by omega
     have vb7 : ∀ m k n, ¬ S'.next + m + k + n = m1 := fun m k n => by omega
     have vb8 : ∀ m k n l, ¬ m1 = S'.next + m + k + n + l := fun m k n l => by omega
     have vb9 : ∀ m k n l, ¬ S'.next + m + k + n + l = m1 := fun m k n l => by omega
     have vc0 : ¬ m2 = S'.next := by omega
     have vc1 : ¬ S'.next = m2 := by omega
     have vc2 : ∀ m, ¬ m2 = S'.next + m := fun m => by omega
     have vc3 : ∀ m, ¬ S'.next + m = m2 := fun m => by omega
     have vc4 : ∀ m k, ¬ m2 = S'.next + m + k := fun m k => by omega
     have vc5 : ∀ m k, ¬ S'.next + m + k = m2 := fun m k => by omega
     have vc6 : ∀ m k n, ¬ m2 = S'.next + m + k + n := fun m k n => by omega
     have vc7 : ∀ m k n, ¬ S'.next + m + k + n = m2 := fun m k n => by omega
     have vc8 : ∀ m k n l, ¬ m2 = S'.next + m + k + n + l := fun m k n l => by omega
     have vc9 : ∀ m k n l, ¬ S'.next + m + k + n + l = m2 := fun m k n l => by omega
     have vd0 : ¬ m3 = S'.next := by omega
     have vd1 : ¬ S'.next = m3 := by omega
     have vd2 : ∀ m, ¬ m3 = S'.next + m := fun m => by omega
     have vd3 : ∀ m, ¬ S'.next + m = m3 := fun m => by omega
     have vd4 : ∀ m k, ¬ m3 = S'.next + m + k := fun m k => by omega
     have vd5 : ∀ m k, ¬ S'.next + m + k = m3 := fun m k => by omega
     have vd6 : ∀ m k n, ¬ m3 = S'.next + m + k + n := fun m k n => by omega
     have vd7 : ∀ m k n, ¬ S'.next + m + k + n = m3 := fun m k n => by omega
     have vd8 : ∀ m k n l, ¬ m3 = S'.next + m + k + n + l := fun m k n l => by omega
     have vd9 : ∀ m k n l, ¬ S'.next + m + k + n + l = m3 := fun m k n l => by omega
     have ve0 : ¬ S.next = S'.next := by omega
     have ve1 : ¬ S'.next = S.next := by omega
     have ve2 : ∀ m, ¬ S.next = S'.next + m := fun m => by omega
     have ve3 : ∀ m, ¬ S'.next + m = S.next := fun m => by omega
     have ve4 : ∀ m k, ¬ S.next = S'.next + m + k := fun m k => by omega
     have ve5 : ∀ m k, ¬ S'.next + m + k = S.next := fun m k => by omega
     have ve6 : ∀ m k n, ¬ S.next = S'.next + m + k + n := fun m k n => by omega
     have ve7 : ∀ m k n, ¬ S'.next + m + k + n = S.next := fun m k n => by omega
     have ve8 : ∀ m k n l, ¬ S.next = S'.next + m + k + n + l := fun m k n l => by omega
     have ve9 : ∀ m k n l, ¬ S'.next + m + k + n + l = S.next := fun m k n l => by omega
     have hxb1 : ¬ S.next = cid := by omega
     have hxb2 : ¬ cid = S.next := by omega
     have hxb3 : ¬ S.next = m1 := by omega
     have hxb4 : ¬ m1 = S.next := by omega
     have q1 : S'.obj cid = .cells [.mp m1, .mp m2, .mp m3, .d (.sl (inD (C.free.drop k))), c'] := q1;have q3 : S'.obj m1 = .mp none (mapK flD C.files) := q3;have hck := g10.2.2.1;have hnn := g10.2.1;have hll : (C1 k).l.length ≤ 200000 := by simp only [C1]; rw [List.length_append, sectW_length]; omega
     have hbn : ∀ (Q : LV → Prop), Q (.d (.sl (byD (ndBytes (x.laid name slot (C.free.take k)).nd)))) → VQ cf 73 [.agg [.str name, .int .i64 x.data.length, .sl (inD (C.free.take k))]] Q := fun Q hQ => node_BytesN (x := (x.laid name slot (C.free.take k)).nd) (by show (x.data.length : Int) ≤ _; omega) hQ
     simp;refine X_draw (by decide) ?_
     rcases q2 with ⟨rfl, q2⟩ | ⟨ver, rfl⟩
     ·simp [g2, g4, g5, g12, q1, Fl.laid, flL];refine hbn _ ?_;simp [va2, va3, ve2, hxb1, q1, grow_lit0, Fl.laid];refine ⟨⟨by decide, by decide⟩, ?_⟩
      refine X_draw (by decide) ?_
      simp [g2, g3, g5, g12, vb2, ve2, n1, d1, hxb1, hxb3, q3, Fl.laid, flL];refine h _ ⟨⟨⟨l0, by simp; omega⟩, ⟨l2, by simp; omega⟩, ⟨l4, by simp; omega⟩, l6, by simp; omega⟩, ⟨⟨n1, n2, n3⟩, n4, n5, n6⟩, ⟨_, by simp [startD, n1]; rfl, .inr ⟨S'.clk + 1400, ?_⟩⟩, ?_, by simp [startD, vc2, d2, d4, q4]; rfl, by simp [startD, vd2, d3, d5, q5]; rfl⟩ ⟨fun j hj hj1 hj2 hj3 hj4 => ?_, by simp; omega, by simp; omega, g10.2.2.2⟩
      ·have hr2 : rowD wrD (C.l ++ sectW x.data (C.free.take k) k ++ [⟨slot, ndBytes (x.laid name slot (C.free.take k)).nd⟩]) = rowD wrD (C1 k).l ++ [D.agg [.int .i64 slot, .sl (byD (ndBytes (x.laid name slot (C.free.take k)).nd))]] := by simp [C1, rowD, wrD]
       rw [hr2, q2]; rfl
      ·simp [startD];exact upd_K (enc := flD) (x := x.laid name slot (C.free.take k))
      ·have hj0 := hj1;have hjn : ¬ j = S.next := by omega
       have w0 : ¬ j = S'.next := by omega
       have w1 : ¬ S'.next = j := by omega
       have w2 : ∀ m, ¬ j = S'.next + m := fun m => by omega
       have w3 : ∀ m, ¬ S'.next + m = j := fun m => by omega
       have w4 : ∀ m k, ¬ j = S'.next + m + k := fun m k => by omega
       have w5 : ∀ m k, ¬ S'.next + m + k = j := fun m k => by omega
       have w6 : ∀ m k n, ¬ j = S'.next + m + k + n := fun m k n => by omega
       have w7 : ∀ m k n, ¬ S'.next + m + k + n = j := fun m k n => by omega
       have w8 : ∀ m k n l, ¬ j = S'.next + m + k + n + l := fun m k n l => by omega
       have w9 : ∀ m k n l, ¬ S'.next + m + k + n + l = j := fun m k n l => by omega
       simp [startD, hj1, hj2, w2, g10.1 j hj hj1 hj2 hj3 hj4]
     ·simp [g2, g4, g5, g12, q1, Fl.laid, flL];refine hbn _ ?_;simp [va2, va3, ve2, hxb1, q1, grow_ar, Fl.laid];have hc1l : (C1 k).l.length ≤ 200000 := hll;refine ⟨⟨by omega, by omega⟩, ⟨⟨by decide, by decide⟩, by decide⟩, ?_⟩
      refine X_draw (by decide) ?_
      simp [g2, g3, g5, g12, vb2, ve2, n1, d1, hxb1, hxb3, q3, Fl.laid, flL];refine h _ ⟨⟨⟨l0, by simp; omega⟩, ⟨l2, by simp; omega⟩, ⟨l4, by simp; omega⟩, l6, by simp; omega⟩, ⟨⟨n1, n2, n3⟩, n4, n5, n6⟩, ⟨_, by simp [startD, n1]; rfl, .inr ⟨S'.clk + 1400, ?_⟩⟩, ?_, by simp [startD, vc2, d2, d4, q4]; rfl, by simp [startD, vd2, d3, d5, q5]; rfl⟩ ⟨fun j hj hj1 hj2 hj3 hj4 => ?_, by simp; omega, by simp; omega, g10.2.2.2⟩
      ·have hr2 : rowD wrD (C.l ++ sectW x.data (C.free.take k) k ++ [⟨slot, ndBytes (x.laid name slot (C.free.take k)).nd⟩]) = rowD wrD (C1 k).l ++ [D.agg [.int .i64 slot, .sl (byD (ndBytes (x.laid name slot (C.free.take k)).nd))]] := by simp [C1, rowD, wrD]
       rw [hr2]; rfl
      ·simp [startD];exact upd_K (enc := flD) (x := x.laid name slot (C.free.take k))
      ·have hj0 := hj1;have hjn : ¬ j = S.next := by omega
       have w0 : ¬ j = S'.next := by omega
       have w1 : ¬ S'.next = j := by omega
       have w2 : ∀ m, ¬ j = S'.next + m := fun m => by omega
       have w3 : ∀ m, ¬ S'.next + m = j := fun m => by omega
       have w4 : ∀ m k, ¬ j = S'.next + m + k := fun m k => by omega
       have w5 : ∀ m k, ¬ S'.next + m + k = j := fun m k => by omega
       have w6 : ∀ m k n, ¬ j = S'.next + m + k + n := fun m k n => by omega
       have w7 : ∀ m k n, ¬ S'.next + m + k + n = j := fun m k n => by omega
       have w8 : ∀ m k n l, ¬ j = S'.next + m + k + n + l := fun m k n l => by omega
       have w9 : ∀ m k n l, ¬ S'.next + m + k + n + l = j := fun m k n l => by omega
       simp [startD, hj1, hj2, w2, g10.1 j hj hj1 hj2 hj3 hj4]
end Go.VM
