/- Chapter 5: the document's slots, data as sectors. No condition. -/
import Derived.Test.YtmahmajoelmmeaaGreatGa
import Derived.Test.YtmahmajoelmmeaaGreatFf
namespace Go.VM
open Go.Proofs
set_option maxRecDepth 4000
attribute [-simp] Int.not_lt Int.not_le Nat.not_lt Nat.not_le
def slotsTo (fl : List Fl) (n : Nat) : List Int := (rangeZ n).filter fun i => fl.all fun x => decide (x.slot ≠ i)
theorem slotsTo_succ {fl : List Fl} {n : Nat} : slotsTo fl (n + 1) = slotsTo fl n ++ if fl.all (fun x => decide (x.slot ≠ (n : Int))) = true then [(n : Int)] else [] := by
 unfold slotsTo;rw [rangeZ_succ, List.filter_append];congr 1;rw [List.filter_cons, List.filter_nil]
theorem all_take {fl : List Fl} {k : Nat} (h : k < fl.length) {p : Fl → Bool} : (fl.take (k + 1)).all p = ((fl.take k).all p && p (nth fl k)) := by
 rw [takeN h, List.all_append]; simp
set_option maxHeartbeats 1000000 in
theorem ref5_slots {S : St} {gid id : Nat} {fl : List Fl} {Q : LV → St → Prop} (hF : IsG S gid id fl) (hl : fl.length ≤ 1000000) (h : ∀ v S', Kept S S' → NewSl S S' v 1 (inD (slotsTo fl 40)) → Q v S') : SQ cf 97 [.ptr gid 0] S Q := by
 obtain ⟨⟨hid, hne⟩, c, hc, hs⟩ := hF;refine S_intro Tryz.func97 rfl rfl (Nat.le_of_ble_eq_true rfl) ?_;simp;refine X_loop (fun (k : Nat) e S' => k ≤ 40 ∧ e 0 = .ptr gid 0 ∧ e 4 = .d (.int .i64 k) ∧ Kept S S' ∧ NewSl S S' (e 3) 1 (inD (slotsTo fl k))) (fun k => 40 - k) 0 ⟨by omega, by simp, by simp, Kept.refl S, .inl ⟨by simp, by rfl⟩⟩ ?_
 intro k e S' hk;obtain ⟨g1, g2, g3, g4, g5⟩ := hk;have hc1 : S'.obj gid = .cells [.ptr id 0, c] := (g4.1 gid hid).trans hc;simp [g3];refine f_intro (fun j1 => ?_) (fun j1 => ?_)
 ·have hk : k < 40 := by omega
  simp;refine PX_mono (Q := fun x e' S2 => x = .exit 2 ∧ e' 0 = .ptr gid 0 ∧ e' 3 = e 3 ∧ e' 4 = .d (.int .i64 k) ∧ e' 5 = .d (.bool (fl.all fun x => decide (x.slot ≠ (k : Int)))) ∧ S2 = S') ?_ ?_
  ·refine X_loop (fun (j : Nat) e' S2 => j ≤ fl.length ∧ e' 0 = .ptr gid 0 ∧ e' 3 = e 3 ∧ e' 4 = .d (.int .i64 k) ∧ e' 5 = .d (.bool ((fl.take j).all fun x => decide (x.slot ≠ (k : Int)))) ∧ e' 6 = .d (.int .i64 j) ∧ S2 = S') (fun j => fl.length - j) 0 ⟨by omega, by simp [g2], by simp, by simp [g3], by simp, by simp, rfl⟩ ?_
   intro j e' S2 hj;obtain ⟨p1, p2, p3, p4, p5, p6, rfl⟩ := hj;have hlen : ∀ (Q : LV → St → Prop), Q (.d (.int .i64 fl.length)) S2 → TQ (lenT Tryz.prog 106 (fetch gid 1 c)) S2 Q := by
    intro Q hQ;rcases hs with ⟨rfl, hs⟩ | ⟨ver, rfl⟩
    ·have hz : fl.length = 0 := by rw [← rowD_length (enc := rfD), hs]; rfl
     rw [hz] at hQ;simpa using hQ
    ·simp;exact fun _ => hQ
   simp [p2, hc1];refine hlen _ ?_;simp [p6];refine f_intro (fun j2 => ?_) (fun j2 => ?_)
   ·have hj : j < fl.length := by omega
    rcases hs with ⟨rfl, hs⟩ | ⟨ver, rfl⟩
    ·have := congrArg List.length hs;rw [rowD_length] at this;have h0 : ([] : List D).length = 0 := rfl;omega
    have hat := all_take (p := fun x => decide (x.slot ≠ (k : Int))) hj
    cases hb : (fl.take j).all fun x => decide (x.slot ≠ (k : Int)) with
    | false =>
     rw [hb] at p5 hat;simp [p2, p3, p4, p5, p6, hj];exact ⟨j + 1, ⟨by omega, by simpa using hat.symm, wrap_i64 (by omega) (by omega)⟩, by omega⟩
    | true =>
     rw [hb] at p5 hat;simp [p2, p3, p4, p5, p6, hc1, hj];refine ⟨j + 1, ⟨by omega, ?_, wrap_i64 (by omega) (by omega)⟩, by omega⟩
     simp only [ne_eq, decide_not, Bool.true_and] at hat;rw [hat]; simp
   ·have : j = fl.length := by omega
    subst this;rw [List.take_length] at p5;simp [p2, p3, p4, p5]
  ·intro x e' S2 hx;obtain ⟨rfl, q1, q2, q3, q4, rfl⟩ := hx
   cases hb : fl.all fun x => decide (x.slot ≠ (k : Int)) with
   | false =>
    rw [hb] at q4;simp [q1, q2, q3, q4];refine ⟨k + 1, ⟨by omega, wrap_i64 (by omega) (by omega), g4, ?_⟩, by omega⟩
    rw [slotsTo_succ, hb];simpa using g5
   | true =>
    rw [hb] at q4;simp [q2, q3, q4];have hle : (slotsTo fl k).length ≤ 40 := by
     have := List.length_filter_le (fun i => fl.all fun x => decide (x.slot ≠ i)) (rangeZ k);rw [rangeZ_length] at this;unfold slotsTo; omega
    have hnx : inD (slotsTo fl k) ++ [D.int .i64 (k : Int)] = inD (slotsTo fl (k + 1)) := by
     rw [slotsTo_succ, hb]; simp [inD]
    refine NewSl.grow g5 g4.2.1 hnx (by rw [← hnx]; unfold fits; simp [inD]; omega) fun i S3 a1 a2 a3 a4 a5 a6 a7 a8 a9 => ?_
    simp [q1, q3];exact ⟨k + 1, ⟨by omega, wrap_i64 (by omega) (by omega), a4 g4, .inr ⟨i, a2, a3, by simp [inD], a1⟩⟩, by omega⟩
 ·have hkl : k = 40 := by omega
  subst hkl;simp;exact h _ _ g4 g5
set_option maxHeartbeats 1000000 in
theorem ref5_sectors {b : List UInt8} {l : List Int} {Q : LV → Prop} (hb : b.length ≤ 1000000 ∧ l.length ≤ 1000000) (h : Q (.d (.sl (rowD wrD (sectW b l l.length))))) : VQ cf 98 [.sl (byD b), .sl (inD l)] Q := by
 refine V_intro rfl (S_intro Tryz.func98 rfl rfl (Nat.le_of_ble_eq_true rfl) ?_);simp;refine X_loop (fun (k : Nat) e S => k ≤ l.length ∧ e 0 = .d (.sl (byD b)) ∧ e 1 = .d (.sl (inD l)) ∧ e 6 = .d (.int .i64 k) ∧
   (e 5 = .lit [] ∧ sectW b l k = [] ∨ ∃ a, a < S.next ∧ e 5 = .ar (.arr a) 2 0 (sectW b l k).length ∧ S.obj a = .arr 2 (rowD wrD (sectW b l k)) false)) (fun k => l.length - k) 0 ?_ ?_
 ·simp [sectW]
 ·intro k e S hk;obtain ⟨g1, g2, g3, g4, g5⟩ := hk;simp [g3, g4];intro _;refine f_intro (fun j1 => ?_) (fun j1 => ?_)
  ·have hk : k < l.length := by omega
   simp;refine PX_mono (Q := fun x e' S2 => x = .exit 2 ∧ e' 0 = .d (.sl (byD b)) ∧ e' 1 = .d (.sl (inD l)) ∧ e' 5 = e 5 ∧ e' 6 = .d (.int .i64 k) ∧ e' 7 = .ar (.arr S.next) 1 0 64 ∧ S2.obj S.next = .arr 1 (byD (sect (b.drop (64 * k)))) false ∧ S.next < S2.next ∧ ∀ j, j < S.next → S2.obj j = S.obj j) ?_ ?_
   ·refine X_loop (fun (i : Nat) e' S2 => (i ≤ 64 ∧ i ≤ (b.drop (64 * k)).length) ∧ e' 0 = .d (.sl (byD b)) ∧ e' 1 = .d (.sl (inD l)) ∧ e' 5 = e 5 ∧ e' 6 = .d (.int .i64 k) ∧ e' 7 = .ar (.arr S.next) 1 0 64 ∧ e' 8 = .d (.int .i64 i) ∧ S2.obj S.next = .arr 1 (byD (sectTo (b.drop (64 * k)) i)) false ∧ S.next < S2.next ∧ ∀ j, j < S.next → S2.obj j = S.obj j) (fun i => 64 - i) 0 ?_ ?_
    ·simp [g2, g3, g4, sectTo];intro j hj h0;omega
    ·intro i e' S2 hi;obtain ⟨p1, p2, p3, p4, p5, p6, p7, p8, p9, p10⟩ := hi;have hw1 : IntKind.i64.wrap (64 * (k : Int)) = 64 * (k : Int) := wrap_i64 (by omega) (by omega)
     have hw2 : IntKind.i64.wrap (64 * (k : Int) + (i : Int)) = ((64 * k + i : Nat) : Int) := by rw [wrap_i64 (by omega) (by omega)]; omega
     have hlen : (b.drop (64 * k)).length = b.length - 64 * k := List.length_drop;have fin : ¬ (i < (b.drop (64 * k)).length ∧ i < 64) → sectTo (b.drop (64 * k)) i = sect (b.drop (64 * k)) := fun hc => sectTo_all p1.1 p1.2 hc;simp [p7];refine f_intro (fun j2 => ?_) (fun j2 => ?_)
     ·simp [p2, p5, p7, j2, hw1, hw2];intro _;refine f_intro (fun j3 => ?_) (fun j3 => ?_)
      ·have j4 : 64 * k + i < b.length := by omega
       have j5 : i < 64 := by omega
       simp [p2, p3, p4, p5, p6, p7, p8, hw1, hw2, j2, j5, sectTo_length];have e1 : (64 * (k : Int) + (i : Int)).toNat = 64 * k + i := by omega
       have e2 : nth b (64 * k + i) = nth (b.drop (64 * k)) i := by simp [nth]
       refine ⟨⟨by omega, by omega⟩, i + 1, ⟨⟨by omega, by omega⟩, wrap_i64 (by omega) (by omega), by rw [e1, e2, sectTo_succ], p9, fun j hj => ?_⟩, by omega⟩
       rw [if_neg (by omega)]
       exact p10 j hj
      ·simp [p2, p3, p4, p5, p6];exact ⟨by rw [p8, fin (by omega)], p9, p10⟩
     ·simp [p2, p3, p4, p5, p6, j2];exact ⟨by rw [p8, fin (by omega)], p9, p10⟩
   ·intro x e' S2 hx;obtain ⟨rfl, q1, q2, q3, q4, q5, q6, q7, q8⟩ := hx;simp [q2, q3, q4, q5, q6, hk];have hwr : D.agg [D.int IntKind.i64 (nth l k), D.sl (byD (sect (b.drop (64 * k))))] = wrD ⟨nth l k, sect (b.drop (64 * k))⟩ := rfl;rcases g5 with ⟨g6, g7⟩ | ⟨a, a2, g6, g7⟩
    ·simp [g6, q1, q2, q4];have hz : k = 0 := by rw [← sectW_length (b := b) (l := l) (n := k), g7]; rfl
     refine ⟨k + 1, ⟨by omega, wrap_i64 (by omega) (by omega), S2.next, by omega, ⟨rfl, by rw [sectW_length]; omega⟩, ?_⟩, by omega⟩
     refine (if_pos rfl).trans ?_;rw [hwr, sectW_succ, g7]; rfl
    ·have ha : ¬ a = S.next := by omega
     simp [g6, g7, q1, q2, q4, q8 a a2, ha];have hn : (sectW b l k).length = k := sectW_length;refine ⟨⟨by omega, by omega⟩, k + 1, ⟨by omega, wrap_i64 (by omega) (by omega), S2.next, by omega, ⟨rfl, by rw [sectW_length, sectW_length]⟩, ?_⟩, by omega⟩
     refine (if_pos rfl).trans ?_;rw [hwr, sectW_succ]; simp [rowD]
  ·have hkl : k = l.length := by omega
   subst hkl;simp;rcases g5 with ⟨g6, g7⟩ | ⟨a, a2, g6, g7⟩
   ·simp [g6];rw [g7] at h;exact h
   ·simp [g6, g7];exact h
end Go.VM
