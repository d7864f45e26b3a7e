/- Law JourMost. No condition. -/
import Derived.Test.YtmahmajoelmmeaaJf
namespace Go.VM
open Go.Proofs
set_option maxRecDepth 4000
attribute [-simp] Int.not_lt Int.not_le Nat.not_lt Nat.not_le
def mostW (n first : Int) (k : Nat) : Wr := ⟨first + n - 1 - k, sect [u8 k, u8 ((k : Int) / 256), 1]⟩
def mostL (n first : Int) (k : Nat) : List Wr := (List.range k).map (mostW n first)
theorem mostL_succ {n first : Int} {k : Nat} : mostL n first (k + 1) = mostL n first k ++ [mostW n first k] := by simp [mostL, List.range_succ]
theorem mostL_length {n first : Int} {k : Nat} : (mostL n first k).length = k := by simp [mostL]
theorem mostL_nth {n first : Int} {m k : Nat} (h : k < m) : nth (mostL n first m) k = mostW n first k := by simp [mostL, nth, h]
theorem mostL_take {n first : Int} {m k : Nat} (h : k ≤ m) : (mostL n first m).take k = mostL n first k := by
  rw [mostL, ← List.map_take, List.take_range, Nat.min_eq_left h]; rfl
theorem most_wrong {n first : Int} {d : Dk} {m : Nat} (hm : d.many = 243) (hn : n = m) (h1 : m ≤ 160) (h2 : 0 ≤ first ∧ first ≤ 40) : d.wrong (mostL n first m) = if 150 < m then 5 else 0 := by
  unfold Dk.wrong
  rw [if_neg, mostL_length]
  intro hx
  obtain ⟨k, hk, hb⟩ := List.any_eq_true.1 hx
  have hk := List.mem_range.1 hk
  rw [mostL_length] at hk
  have hp : (mostW n first k).pos = first + n - 1 - k := rfl
  have hd : (mostW n first k).data.length = 64 := sect_length _
  unfold bad at hb
  rw [mostL_nth hk, mostL_take (by omega), hm, hp, hd] at hb
  simp at hb
  rcases hb with hb | hb | hb
  · omega
  · omega
  · simp only [poss, mostL, List.map_map, List.mem_map, List.mem_range] at hb
    obtain ⟨j, hj, he⟩ := hb
    have : (mostW n first j).pos = first + n - 1 - j := rfl
    simp only [Function.comp_apply, this] at he
    omega
set_option maxHeartbeats 600000 in
theorem law_JourMost {n first : Int} (_ : (Lit.int .i64 n).wf = true) (_ : (Lit.int .i64 first).wf = true) :
    VQ cf 14 [.int .i64 n, .int .i64 first] fun v => v = .d (.bool true) := by
  refine V_intro rfl (S_intro Try.func14 rfl rfl (Nat.le_of_ble_eq_true rfl) ?_)
  simp
  refine f_intro (fun k1 => ?_) (fun k1 => ?_)
  · simp [k1]
  simp [k1]
  refine f_intro (fun k2 => ?_) (fun k2 => ?_)
  · simp [k1, k2]
  simp [k1, k2]
  refine f_intro (fun k3 => ?_) (fun k3 => ?_)
  · simp [k1, k2, k3]
  simp [k1, k2, k3]
  refine f_intro (fun k4 => ?_) (fun k4 => ?_)
  · simp [k4]
  simp [k4]
  refine dev_New (fun n1 n2 S1 a ha hI hK => ?_) (fun hn => absurd ⟨by decide, by decide⟩ hn)
  have e0 : (400 : Int).toNat = 400 := rfl
  rw [e0] at hI
  have o0 : Ok (Dk.new 400) 10000 := new_ok (by decide) (by decide)
  obtain ⟨f1, f2, f3⟩ := new_good (n := 400) (by decide)
  have o1 : Ok (Dk.new 400).format.2 7000 := o0.format
  simp
  refine jour_Format hI (n := 7000) o0 fun S2 hI2 hM2 => ?_
  rw [f1]
  generalize (Dk.new 400).format.2 = d1 at hI2 f2 f3 o1
  have hmany : d1.many = 243 := by unfold Dk.many; rw [f3]; decide
  simp
  obtain ⟨m, rfl⟩ : ∃ m : Nat, n = m := ⟨n.toNat, by omega⟩
  refine X_loop (fun (k : Nat) e S' => k ≤ m ∧ e 0 = .d (.int .i64 m) ∧ e 1 = .d (.int .i64 first) ∧ e 5 = .ptr a 0 ∧ e 7 = .d (.int .i64 k) ∧ Kept S2 S' ∧ NewSl S2 S' (e 6) 2 (rowD wrD (mostL m first k))) (fun k => m - k) 0 ?_ ?_
  · simp
    exact ⟨Kept.refl S2, .inl ⟨rfl, rfl⟩⟩
  · intro k e S3 hJ
    obtain ⟨g1, g2, g3, g4, g5, g6, g7⟩ := hJ
    simp [g2, g5]
    refine f_intro (fun j1 => ?_) (fun j1 => ?_)
    · have w1 : IntKind.i64.wrap (IntKind.i64.wrap (IntKind.i64.wrap (first + (m : Int)) - 1) - (k : Int)) = first + (m : Int) - 1 - (k : Int) := by
        rw [wrap_i64 (n := first + (m : Int)) (by omega) (by omega), wrap_i64 (n := first + (m : Int) - 1) (by omega) (by omega), wrap_i64 (by omega) (by omega)]
      have w2 : IntKind.i64.wrap ((k : Int) / 256) = (k : Int) / 256 := wrap_i64 (by omega) (by omega)
      simp [g2, g3, g5, j1, w1, w2]
      refine law2_sector (b := [u8 k, u8 ((k : Int) / 256), 1]) ?_
      simp
      obtain ⟨zs, hzs⟩ : ∃ zs, zs = rowD wrD (mostL m first (k + 1)) := ⟨_, rfl⟩
      have hst : rowD wrD (mostL m first k) ++ [D.agg [.int .i64 (first + (m : Int) - 1 - (k : Int)), .sl (byD (sect [u8 k, u8 ((k : Int) / 256), 1]))]] = zs := by
        rw [hzs, mostL_succ]; simp [rowD]; rfl
      have hfit : fits zs.length 32 := by
        rw [hzs, rowD_length, mostL_length]; unfold fits; omega
      refine NewSl.grow g7 g6.2.1 hst hfit ?_
      intro i S5 s1 s2 s3 s4 s5 s6 s7 s8 s9
      simp [g2, g3, g4, g5]
      refine ⟨k + 1, ⟨by omega, wrap_i64 (by omega) (by omega), s4 g6, ?_⟩, by omega⟩
      rw [← hzs]
      exact .inr ⟨i, s2, s3, rfl, s1⟩
    · have hk : k = m := by omega
      subst hk
      have hI3 := hI2.kept g6
      have hlen : (mostL k first k).length = k := mostL_length
      have hwr := most_wrong (n := k) (first := first) hmany rfl (by omega) ⟨by omega, by omega⟩
      rcases g7 with ⟨_, g7⟩ | ⟨i6, q1, q2, g7, q3⟩
      · have := congrArg List.length g7
        rw [rowD_length, mostL_length] at this
        simp at this; omega
      have qa : ¬ a = i6 := fun e => by
        obtain ⟨_, _, _, _, h2, _⟩ := hI3
        rw [e, q3] at h2; cases h2
      simp [g2, g4, g7, q3]
      refine jour_Commit (hI3.of (by simp [qa]) (by simp; exact hI3.1)) (n := 6680) o1 (by omega) fun S4 hI4 hM4 => ?_
      simp [g2, hlen]
      refine f_intro (fun j2 => ?_) (fun j2 => ?_)
      · rw [if_pos (by omega)] at hwr
        have hc : d1.commit (mostL k first k) = (5, d1) := by rw [Dk.commit, if_pos (.inl (by rw [hwr]; decide)), hwr]
        rw [hc]
        simp [j2]
        refine law2_known ?_
        simp
      · rw [if_neg (by omega)] at hwr
        have hne : mostL k first k ≠ [] := by intro h; rw [h] at hlen; simp at hlen; omega
        obtain ⟨c1, c2, c3⟩ := good_commit f2 hwr hne
        have o2 := o1.commit (n := 6680) (l := mostL k first k)
        have oi6 : S4.obj i6 = .arr 2 (rowD wrD (mostL k first k)) true := by rw [hM4.1 i6 (by simp; exact q2) (fun e => qa e.symm)]; simp
        rw [c1]
        generalize (d1.commit (mostL k first k)).2 = d2 at hI4 c2 c3 o2
        have hmany2 : d2.many = 243 := by unfold Dk.many; rw [c3, f3]; decide
        simp [j2]
        refine X_loop (fun (r : Nat) e S' => r ≤ k ∧ e 0 = .d (.int .i64 k) ∧ e 5 = .ptr a 0 ∧ e 6 = .ar (.arr i6) 2 0 k ∧ e 8 = .d (.int .i64 0) ∧ e 9 = .d (.int .i64 r) ∧ IsD S' a d2 ∧ S'.obj i6 = .arr 2 (rowD wrD (mostL k first k)) true) (fun r => k - r) 0 ?_ ?_
        · simp [g2, g4, g7]
          exact ⟨hlen, hI4, oi6⟩
        · intro r e2 S5 hJ2
          obtain ⟨p1, p2, p3, p4, p5, p6, hI5, p7⟩ := hJ2
          simp [p2, p6]
          refine f_intro (fun j3 => ?_) (fun j3 => ?_)
          · simp [j3]
            refine X_drawM [0, 0, 0, 6, 14, 30, 63, 127, 0, 0, 768, 1792, 3840, 7936, 16383] (by decide +kernel) (by decide +kernel) ?_
            simp [p3, p4, p6, p7, j3, hlen]
            have lt5 := hI5.1
            have qa' : ¬ i6 = a := fun e => qa e.symm
            have hpos : (nth (mostL k first k) r).pos = first + k - 1 - r := by rw [mostL_nth j3]; rfl
            have hread : d2.jread (nth (mostL k first k) r).pos = (nth (mostL k first k) r).data := by
              rw [good_read c2 (by omega) (by omega)]
              refine over_in (by omega) fun j hj hne => ?_
              rw [mostL_nth (by omega), mostL_nth j3]
              show first + (k : Int) - 1 - (j : Int) ≠ first + (k : Int) - 1 - (r : Int)
              omega
            refine sh_JRead (hI5.of rfl (by simp; omega)) o2 fun S6 hI6 ho6 hn6 hc6 he6 => ?_
            have o6 := ho6 i6 qa'
            simp at hn6 hc6 he6 o6
            rw [p7] at o6
            simp [hn6, hc6, hread, p3, p4, p6, o6, j3, hlen]
            exact ⟨⟨.inr qa, .inr qa'⟩, r + 1, ⟨by omega, p2, p5, wrap_i64 (by omega) (by omega), hI6.of rfl (by show a < S5.next + 1500; omega)⟩, by omega⟩
          · simp [p3, p5]
            refine jour_Open hI5 (n := 6480) o2 fun S6 hI6 hM6 => ?_
            rw [good_open c2]
            simp
            refine law2_known ?_
            simp
end Go.VM
