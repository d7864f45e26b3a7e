/- Law FsAgain. No condition. -/
import Derived.Test.YtmahmajoelmmeaaGreatPa
import Derived.Test.YtmahmajoelmmeaaGreatKb
namespace Go.VM
open Go.Proofs
set_option maxRecDepth 4000
attribute [-simp] Int.not_lt Int.not_le Nat.not_lt Nat.not_le
theorem go_need {n : Nat} (h : n ≤ 1000) : IntKind.i64.wrap ((IntKind.i64.wrap ((n : Int) + 63)).tdiv 64) = ((needN n : Nat) : Int) := by
 rw [needN_div, wrap_i64 (n := (n : Int) + 63) (by omega) (by omega), Int.tdiv_eq_ediv_of_nonneg (by omega), wrap_i64 (by omega) (by omega)]
theorem go_left {p n : Nat} (h : n ≤ 1000) (hp : p ≤ 1000) : IntKind.i64.wrap (IntKind.i64.wrap ((p : Int) - 40) - IntKind.i64.wrap ((IntKind.i64.wrap ((n : Int) + 63)).tdiv 64)) = (p : Int) - 40 - ((needN n : Nat) : Int) := by
 have h1 := needN_div (n := n);rw [go_need h, wrap_i64 (n := (p : Int) - 40) (by omega) (by omega), wrap_i64 (by omega) (by omega)]
set_option maxHeartbeats 4000000 in
theorem law_FsAgain {a b places : Int} (_ : (Lit.int .i64 a).wf = true) (_ : (Lit.int .i64 b).wf = true) (_ : (Lit.int .i64 places).wf = true) : VQ cf 6 [.int .i64 a, .int .i64 b, .int .i64 places] fun v => v = .d (.bool true) := by
 refine V_intro rfl (S_intro Tryz.func6 rfl rfl (Nat.le_of_ble_eq_true rfl) ?_);simp;refine f_intro (fun k1 => ?_) (fun k1 => ?_)
 ·simp [k1]
 simp [k1];refine f_intro (fun k2 => ?_) (fun k2 => ?_)
 ·simp [k2]
 simp [k2];refine f_intro (fun k3 => ?_) (fun k3 => ?_)
 ·simp [k3]
 simp [k3];refine f_intro (fun k4 => ?_) (fun k4 => ?_)
 ·simp [k4]
 simp [k4];refine f_intro (fun k5 => ?_) (fun k5 => ?_)
 ·simp [k5]
 simp [k5];refine f_intro (fun k6 => ?_) (fun k6 => ?_)
 ·simp [k6]
 obtain ⟨p, rfl⟩ : ∃ p : Nat, places = p := ⟨places.toNat, by omega⟩
 obtain ⟨x, rfl⟩ : ∃ x : Nat, a = x := ⟨a.toNat, by omega⟩
 obtain ⟨y, rfl⟩ : ∃ y : Nat, b = y := ⟨b.toNat, by omega⟩
 simp [k6];refine law5_disk (p := p) (by omega) fun S1 a c ha hc hne hI hR hK => ?_
 obtain ⟨s1, s3⟩ := fmt_sd (p := p) (by omega)
 have o1 : Ok (fmtD p) 10000 := fmt_ok (by omega) (by decide)
 have hmt := mount_sd s1;simp;refine fs_Mount hI (n := 9800) o1 (fun he => absurd (by rw [hmt]) he) fun _ S2 fid hf hI2 hF2 hM2 => ?_
 rw [hmt] at hI2 hF2;replace hI2 : IsD S2 a (fmtD p) := hI2;replace hF2 : IsF S2 fid a [] := hF2;clear hI hR hK hmt;generalize fmtD p = d0 at s1 s3 o1 hI2 hF2;have e3 := hI2.1;have e4 := hF2.lt.1;have e1 : ¬ a = S2.next := by omega
 have e2 : ¬ fid = S2.next := by omega
 have n1 : isName [120] = true := by decide
 have n2 : isName [121] = true := by decide
 have n3 : isName [97, 32, 98] = false := by decide
 have p61 : 61 ≤ d0.many := by omega
 have zx : (zeros x).length ≤ 600 := by rw [zeros_length]; omega
 have zy : (zeros y).length ≤ 600 := by rw [zeros_length]; omega
 obtain ⟨q1, q2⟩ := first_put (n := [120]) (b := zeros x) p61 s1.wl n1 zx;obtain ⟨x1, q3, q4, q5⟩ := nmd_one q2;simp;refine ⟨by omega, ?_⟩
 refine law5_put (by omega) ?_
 simp;refine ⟨rfl, ?_⟩;refine fs_DoS (n := 9000) (ops := [⟨false, [120], zeros x⟩]) (hI2.of (by simp [e1]) (by simp; omega)) (hF2.of (by simp [e2]) (by simp; omega)) s1 (o1.less (by omega)) ⟨by simp, by simp; omega⟩ fun S3 d1 c1 hI3 hF3 s4 o2 m1 ho3 hn3 => ?_
 rw [q1];rw [q3] at hF3 s4;simp;refine fs_Left hI3 hF3 (wl_size s4.wl) o2 fun S4 hI4 hF4 hM4 => ?_;have l1 := left_len s4.wl (by omega)
 rw [← q3, q2] at l1;simp at l1;rw [q3] at l1;generalize hl1 : (leftOf' [x1] d1.many).length = L1 at l1;have e5 := hI4.1;have e6 := hF4.lt.1;have e7 : ¬ a = S4.next := by omega
 have e8 : ¬ fid = S4.next := by omega
 obtain ⟨q6, q7⟩ := again_all (x1 := x1) (many := d1.many) (n := [120]) (m := [121]) (b := zeros y) (by omega) s4.wl q4 (by decide) n1 n2 zy
 simp;refine ⟨by omega, ?_⟩
 refine law5_put (by omega) ?_
 simp;refine law5_put (by decide) ?_
 simp;refine law5_drop ?_;simp;refine ⟨⟨rfl, rfl, rfl⟩, ?_⟩;refine fs_DoS (n := 8600) (ops := [⟨false, [120], zeros y⟩, ⟨false, [121], []⟩, ⟨true, [121], []⟩]) (hI4.of (by simp [e7]) (by simp; omega)) (hF4.of (by simp [e8]) (by simp; omega)) s4 (o2.less (by omega)) ⟨by simp, by simp; omega⟩ fun S5 d2 c2 hI5 hF5 s5 o3 m2 ho5 hn5 => ?_
 rw [q6];generalize (doR [x1] d1.many [⟨false, [120], zeros y⟩, ⟨false, [121], []⟩, ⟨true, [121], []⟩]).2.2 = fl2 at hF5 s5 q7;simp;refine fs_Get hF5 (wl_list s5.wl) fun v6 S6 hK6 hG6 => ?_;have g1 : getF fl2 [120] = some (zeros y) := by rw [getF_nmd, q7]; rfl
 have g2 : getF fl2 [121] = none := by rw [getF_nmd, q7]; rfl
 rw [g1] at hG6;obtain ⟨v7, rfl, hN7⟩ := hG6;have l2 := left_len s5.wl (by omega)
 rw [q7] at l2;simp at l2;have w1 : IntKind.i64.wrap (IntKind.i64.wrap ((p : Int) - 40) - IntKind.i64.wrap ((IntKind.i64.wrap ((x : Int) + 63)).tdiv 64)) = (L1 : Int) := by
  rw [go_left (by omega) (by omega), l1]; omega
 have hI6 := hI5.kept hK6;have hF6 : IsF S6 fid a fl2 := hF5.of (hK6.1 _ hF5.lt.1) (by have := hK6.2.1; have := hF5.lt.1; omega)
 simp [w1];refine fs_Left hI6 hF6 (wl_size s5.wl) o3 fun S8 hI8 hF8 hM8 => ?_;have w2 : IntKind.i64.wrap (IntKind.i64.wrap ((p : Int) - 40) - IntKind.i64.wrap ((IntKind.i64.wrap ((y : Int) + 63)).tdiv 64)) = ((leftOf' fl2 d2.many).length : Int) := by
  rw [go_left (by omega) (by omega), l2]; omega
 simp [w2];have hR7 : LstR S8 S5.next S6.next v7 1 (byD (zeros y)) := hN7.r.of (fun j g3 g4 => hM8.1 j g4 (by have := hI5.1; omega)) hM8.2.1
 refine hR7.lenB ?_;simp;refine law5_drop ?_;simp;refine ⟨rfl, ?_⟩;refine fs_DoS (n := 8000) (ops := [⟨true, [121], []⟩]) hI8 hF8 s5 (o3.less (by omega)) ⟨by simp, by simp⟩ fun S9 d3 c3 hI9 hF9 s9 o9 m9 ho9 hn9 => ?_
 rw [drop_none g2];simp;refine law5_put (by decide) ?_
 simp;refine ⟨rfl, ?_⟩;refine fs_DoS (n := 7000) (ops := [⟨false, [97, 32, 98], []⟩]) hI9 hF9 s9 (o9.less (by omega)) ⟨by simp, by simp⟩ fun S10 d4 c4 hI10 hF10 s10 o10 m10 ho10 hn10 => ?_
 rw [put_bad n3];simp;refine law5_known ?_;simp
end Go.VM
