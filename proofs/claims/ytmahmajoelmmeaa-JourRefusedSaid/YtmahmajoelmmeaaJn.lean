/- Law JourRefused. No condition. -/
import Derived.Test.YtmahmajoelmmeaaJf
namespace Go.VM
open Go.Proofs
set_option maxRecDepth 4000
attribute [-simp] Int.not_lt Int.not_le Nat.not_lt Nat.not_le
theorem wrong_at {d : Dk} {l : List Wr} {k : Nat} (hk : k < l.length) (hb : bad d l k = true) : d.commit l = (1, d) := by
  have : d.wrong l = 1 := by
    unfold Dk.wrong
    rw [if_pos]
    exact List.any_eq_true.2 ⟨k, List.mem_range.2 hk, hb⟩
  rw [Dk.commit, if_pos (.inl (by rw [this]; decide)), this]
def refL (b : List UInt8) (k : Nat) : List Wr := (List.range k).map fun (k : Nat) => ⟨(k : Int), b⟩
theorem refL_succ {b : List UInt8} {k : Nat} : refL b (k + 1) = refL b k ++ [⟨(k : Int), b⟩] := by simp [refL, List.range_succ]
theorem refL_length {b : List UInt8} {k : Nat} : (refL b k).length = k := by simp [refL]
theorem ref_room {d : Dk} {b : List UInt8} (hm : d.many = 243) (hb : b.length = 64) : d.commit (refL b 151) = (5, d) := by
  have : d.wrong (refL b 151) = 5 := by
    unfold Dk.wrong
    rw [if_neg, refL_length]
    · rfl
    intro hx
    obtain ⟨k, hk, hx⟩ := List.any_eq_true.1 hx
    have hk := List.mem_range.1 hk
    rw [refL_length] at hk
    have e1 : nth (refL b 151) k = ⟨(k : Int), b⟩ := by simp [refL, nth, hk]
    have e2 : (refL b 151).take k = refL b k := by rw [refL, ← List.map_take, List.take_range, Nat.min_eq_left (by omega)]; rfl
    unfold bad at hx
    rw [e1, e2, hm] at hx
    simp [hb] at hx
    rcases hx with hx | hx
    · omega
    · simp [poss, refL] at hx; omega
  rw [Dk.commit, if_pos (.inl (by rw [this]; decide)), this]
set_option maxHeartbeats 2000000 in
theorem law_JourRefused {way at_ n : Int} (_ : (Lit.int .i64 way).wf = true) (_ : (Lit.int .i64 at_).wf = true) (_ : (Lit.int .i64 n).wf = true) :
    VQ cf 15 [.int .i64 way, .int .i64 at_, .int .i64 n] fun v => v = .d (.bool true) := by
  refine V_intro rfl (S_intro Try.func15 rfl rfl (Nat.le_of_ble_eq_true rfl) ?_)
  simp
  refine dev_New (fun n1 n2 S1 a ha hI hK => ?_) (fun hn => absurd ⟨by decide, by decide⟩ hn)
  have e0 : (400 : Int).toNat = 400 := rfl
  rw [e0] at hI
  have o0 : Ok (Dk.new 400) 10000 := new_ok (by decide) (by decide)
  obtain ⟨f1, f2, f3⟩ := new_good (n := 400) (by decide)
  have o1 : Ok (Dk.new 400).format.2 7000 := o0.format
  simp
  refine jour_Format hI (n := 7000) o0 fun S2 hI2 hM2 => ?_
  rw [f1]
  generalize (Dk.new 400).format.2 = d1 at hI2 f2 f3 o1
  have hmany : d1.many = 243 := by unfold Dk.many; rw [f3]; decide
  simp
  refine f_intro (fun k1 => ?_) (fun k1 => ?_)
  · simp [k1]
  simp [k1]
  refine f_intro (fun k2 => ?_) (fun k2 => ?_)
  · simp [k2]
  simp [k2]
  refine dev_Ops hI2 ?_
  simp
  refine law2_sector (b := [120]) ?_
  have hid2 := hI2.1
  have q1 : ¬ a = S2.next := by omega
  have q2 : ¬ S2.next = a := by omega
  have hI3 : IsD (S2.alloc (.cells [.d (.int .i64 at_), .d (.sl (byD (sect [120])))])) a d1 := hI2.of (by simp [q1]) (by simp; omega)
  have o3 : (S2.alloc (.cells [.d (.int .i64 at_), .d (.sl (byD (sect [120])))])).obj S2.next = .cells [.d (.int .i64 at_), .d (.sl (byD (sect [120])))] := by simp
  have n3 : (S2.alloc (.cells [.d (.int .i64 at_), .d (.sl (byD (sect [120])))])).next = S2.next + 1 := by simp
  simp [-X_block]
  generalize S2.alloc (.cells [.d (.int .i64 at_), .d (.sl (byD (sect [120])))]) = S3 at hI3 o3 n3
  have hs64 : (sect [120]).length = 64 := sect_length _
  refine PX_mono (Q := fun x e S' => (x = .normal ∧ e 1 = .d (.int .i64 at_) ∧ e 7 = .ptr a 0 ∧ e 8 = .d (.int .i64 d1.ops) ∧ (∃ k : Int, e 10 = .d (.int .i64 k) ∧ e 11 = .d (.int .i64 k)) ∧ IsD S' a d1) ∨ (x = .ret ∧ e 6 = .d (.bool true))) ?_ ?_
  · simp
    refine f_intro (fun m0 => ?_) (fun m0 => ?_)
    · have w1 : IntKind.i64.wrap (243 + at_) = 243 + at_ := wrap_i64 (by omega) (by omega)
      simp [m0, o3, w1]
      refine jour_Commit (l := [⟨at_, sect [120]⟩, ⟨243 + at_, sect [120]⟩]) hI3 (n := 6680) o1 (by simp) fun S4 hI4 hM4 => ?_
      rw [wrong_at (k := 1) (by simp) (by simp [bad, nth, hmany]; omega)] at hI4 ⊢
      simp [m0]
      exact hI4
    simp [m0]
    refine f_intro (fun m1 => ?_) (fun m1 => ?_)
    · have w1 : IntKind.i64.wrap (-1 - at_) = -1 - at_ := wrap_i64 (by omega) (by omega)
      simp [m1, o3, w1]
      refine jour_Commit (l := [⟨at_, sect [120]⟩, ⟨-1 - at_, sect [120]⟩]) hI3 (n := 6680) o1 (by simp) fun S4 hI4 hM4 => ?_
      rw [wrong_at (k := 1) (by simp) (by simp [bad, nth, hmany]; omega)] at hI4 ⊢
      simp [m1]
      exact hI4
    simp [m1]
    refine f_intro (fun m2 => ?_) (fun m2 => ?_)
    · simp [m2, o3]
      refine jour_Commit (l := [⟨at_, sect [120]⟩, ⟨at_, sect [120]⟩]) hI3 (n := 6680) o1 (by simp) fun S4 hI4 hM4 => ?_
      rw [wrong_at (k := 1) (by simp) (by simp [bad, nth, hmany, poss])] at hI4 ⊢
      simp [m2]
      exact hI4
    simp [m2]
    refine f_intro (fun m3 => ?_) (fun m3 => ?_)
    · obtain ⟨N, hN, hN2⟩ : ∃ N : Nat, IntKind.i64.wrap (((n % 2 ^ IntKind.i64.bits).toNat &&& 63 % 2 ^ IntKind.i64.bits : Nat) : Int) = N ∧ N ≤ 63 := by
        have h63 : 63 % 2 ^ IntKind.i64.bits = 63 := by decide
        rw [h63]
        have := Nat.and_le_right (n := (n % 2 ^ IntKind.i64.bits).toNat) (m := 63)
        exact ⟨_, wrap_i64 (by omega) (by omega), this⟩
      simp [m3, o3, hN]
      refine ⟨by omega, ?_⟩
      refine jour_Commit (l := [⟨at_, (sect [120]).take N⟩]) hI3 (n := 6680) o1 (by simp) fun S4 hI4 hM4 => ?_
      rw [wrong_at (k := 0) (by simp) (by simp [bad, nth, hmany]; omega)] at hI4 ⊢
      simp [m3]
      exact hI4
    simp [m3]
    refine f_intro (fun m4 => ?_) (fun m4 => ?_)
    · simp [m4]
      refine X_loop (fun (k : Nat) e S' => k ≤ 151 ∧ e 1 = .d (.int .i64 at_) ∧ e 7 = .ptr a 0 ∧ e 8 = .d (.int .i64 d1.ops) ∧ e 9 = .ptr S2.next 0 ∧ e 13 = .d (.int .i64 k) ∧ Kept S3 S' ∧ NewSl S3 S' (e 12) 2 (rowD wrD (refL (sect [120]) k))) (fun k => 151 - k) 0 ?_ ?_
      · simp
        exact ⟨Kept.refl S3, .inl ⟨rfl, rfl⟩⟩
      · intro k e S4 hJ
        obtain ⟨g1, g2, g3, g4, g5, g6, g7, g8⟩ := hJ
        have o4 : S4.obj S2.next = .cells [.d (.int .i64 at_), .d (.sl (byD (sect [120])))] := by rw [g7.1 _ (by omega)]; exact o3
        simp [g6]
        refine f_intro (fun j1 => ?_) (fun j1 => ?_)
        · simp [g5, g6, o4, j1]
          obtain ⟨zs, hzs⟩ : ∃ zs, zs = rowD wrD (refL (sect [120]) (k + 1)) := ⟨_, rfl⟩
          have hst : rowD wrD (refL (sect [120]) k) ++ [D.agg [.int .i64 (k : Int), .sl (byD (sect [120]))]] = zs := by
            rw [hzs, refL_succ]; simp [rowD]; rfl
          have hfit : fits zs.length 32 := by
            rw [hzs, rowD_length, refL_length]; unfold fits; omega
          refine NewSl.grow g8 g7.2.1 hst hfit ?_
          intro i S5 s1 s2 s3 s4 s5 s6 s7 s8 s9
          simp [g2, g3, g4, g5, g6]
          refine ⟨k + 1, ⟨by omega, wrap_i64 (by omega) (by omega), s4 g7, ?_⟩, by omega⟩
          rw [← hzs]
          exact .inr ⟨i, s2, s3, rfl, s1⟩
        · have hk : k = 151 := by omega
          subst hk
          have hI4 := hI3.kept g7
          rcases g8 with ⟨_, g8⟩ | ⟨i6, p1, p2, g8, p3⟩
          · have := congrArg List.length g8
            rw [rowD_length, refL_length] at this; cases this
          have qa : ¬ a = i6 := fun e => by
            obtain ⟨_, _, _, _, h2, _⟩ := hI4
            rw [e, p3] at h2; cases h2
          simp [g3, g8, p3]
          refine jour_Commit (l := refL (sect [120]) 151) (hI4.of (by simp [qa]) (by simp; exact hI4.1)) (n := 6680) o1 (by rw [refL_length]; decide) fun S5 hI5 hM5 => ?_
          rw [ref_room hmany hs64] at hI5 ⊢
          simp [g2, g3, g4]
          exact hI5
    simp [m4]
    refine f_intro (fun m5 => ?_) (fun m5 => ?_)
    · simp [m5]
      refine jour_Commit (l := []) hI3 (n := 6680) o1 (by simp) fun S4 hI4 hM4 => ?_
      have hw0 : d1.commit [] = (0, d1) := by rw [Dk.commit, if_pos (.inr rfl)]; rfl
      rw [hw0] at hI4 ⊢
      simp [m5]
      exact hI4
    · simp [m5]
  · rintro x e S4 (⟨rfl, h1, h2, h3, ⟨k, h4, h5⟩, hI4⟩ | ⟨rfl, h1⟩)
    · simp
      refine X_drawM [0, 0, 3, 7, 15, 31, 15, 127, 255, 511, 1023, 1023, 4095, 8191, 8191, 24575, 65535, 131071, 262143, 524287, 1048575, 2097151] (by decide +kernel) (by decide +kernel) ?_
      have lt4 := hI4.1
      simp [h1, h2, h3, h4, h5]
      refine sh_Ops (hI4.of rfl (by simp; omega)) fun S5 hI5 ho5 hn5 hc5 he5 => ?_
      simp at hn5 hc5 he5
      simp [h1, h2, h3, h4, h5, hn5, hc5]
      refine sh_JRead (hI5.of rfl (by simp; omega)) o1 fun S6 hI6 ho6 hn6 hc6 he6 => ?_
      simp at hn6 hc6 he6
      simp [h1, h2, h3, h4, h5, hn5, hc5, hn6, hc6, good_read f2 (i := at_) (by omega) (by omega)]
      refine law2_sector (b := []) ?_
      simp [h1, h2, h3, h4, h5, hn5, hc5, hn6, hc6]
      refine law2_known ?_
      simp
      decide +kernel
    · simp [h1]
end Go.VM
