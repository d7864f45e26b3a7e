/- Chapter 1: of writes of unlike sectors those that are kept last. No condition. -/
import Derived.Test.YtmahmajoelmmeaaDw
namespace Go.VM
open Go.Proofs
set_option maxRecDepth 4000
attribute [-simp] Int.not_lt Int.not_le Nat.not_lt Nat.not_le
theorem sect_nil : sect [] = zeros 64 := by simp [sect]
def mark (i : Nat) : List UInt8 := sect [u8 ((i : Int) + 1)]
def marks (n : Nat) : List Wr := (List.range n).map fun i : Nat => ⟨(i : Int), mark i⟩
theorem marks_length {n : Nat} : (marks n).length = n := by simp [marks]
theorem marks_succ {n : Nat} : marks (n + 1) = marks n ++ [⟨(n : Int), mark n⟩] := by simp [marks, List.range_succ]
theorem marks_nth {n i : Nat} (h : i < n) : nth (marks n) i = ⟨(i : Int), mark i⟩ := by simp [marks, nth, h]
theorem land_marks {k : Nat → Bool} {n : Nat} {l : List (List UInt8)} (hl : l.length = n) : ∀ m, m ≤ n → ∀ i, i < n → nth (land k (marks n) l m) i = if i < m ∧ k i = true then mark i else nth l i := by
  intro m
  induction m with
  | zero => intro _ i _; simp [land]
  | succ m ih =>
    intro hm i hi
    rw [land_succ]
    by_cases hk : k m = true
    · rw [if_pos hk, marks_nth (by omega)]
      simp only [Int.toNat_natCast]
      rw [nth_set (by rw [land_length, hl]; omega), ih (by omega) i hi]
      by_cases h1 : m = i
      · subst h1; simp [hk]
      · rw [if_neg h1]
        by_cases h2 : i < m ∧ k i = true
        · rw [if_pos h2, if_pos ⟨by omega, h2.2⟩]
        · rw [if_neg h2, if_neg (fun h3 => h2 ⟨by omega, h3.2⟩)]
    · rw [if_neg hk, ih (by omega) i hi]
      by_cases h2 : i < m ∧ k i = true
      · rw [if_pos h2, if_pos ⟨by omega, h2.2⟩]
      · rw [if_neg h2, if_neg (fun h3 => h2 ⟨by
          by_cases h4 : i = m
          · subst h4; exact absurd h3.2 hk
          · omega, h3.2⟩)]
set_option maxHeartbeats 2000000 in
theorem law_DevKeeps {n : Int} {keep : List Bool} (_ : (Lit.int .i64 n).wf = true) (_ : (∀ b ∈ keep, True) ∧ keep.length * 1 ≤ lim) : VQ cf 12 [.int .i64 n, .sl (boD keep)] fun v => v = .d (.bool true) := by
  refine V_intro rfl (S_intro Try.func12 rfl rfl (Nat.le_of_ble_eq_true rfl) ?_)
  simp
  refine f_intro (fun k1 => ?_) (fun k1 => ?_)
  · simp [k1]
  · simp [k1]
    refine f_intro (fun k2 => ?_) (fun k2 => ?_)
    · simp [k2]
    · unfold boD
      simp [k2]
      intro hkl
      refine f_intro (fun k3 => ?_) (fun k3 => ?_)
      · simp [k3]
      · simp [k3]
        refine dev_New (fun _ _ S1 id hid hI hK => ?_) (fun h => absurd ⟨by omega, by omega⟩ h)
        simp
        have hnn : (n.toNat : Int) = n := by omega
        refine X_loop (fun (i : Nat) e S => (i : Int) ≤ n ∧ e 0 = .d (.int .i64 n) ∧ e 1 = .d (.sl (rowD bo keep)) ∧ e 5 = .ptr id 0 ∧ e 6 = .d (.int .i64 i) ∧
          ∃ d, IsD S id d ∧ WfD d (1000 - i) ∧ d.lasts = List.replicate n.toNat (zeros 64) ∧ d.waits = marks i ∧ d.armed = false ∧ d.down = false ∧ d.keep = []) (fun i => 40 - i) 0 ?_ ?_
        · simp
          exact ⟨by omega, Dk.new n.toNat, hI, new_wf (by omega) (by omega), rfl, rfl, rfl, rfl, rfl⟩
        · intro i e S hJ
          obtain ⟨g1, g2, g3, g4, g5, d, g6, g7, g8, g9, g10, g11, g12⟩ := hJ
          simp [g2, g5]
          have hwi : IntKind.i64.wrap ((i : Int) + 1) = i + 1 := wrap_i64 (by omega) (by omega)
          have hgl : d.lasts.length = n.toNat := by rw [g8]; simp
          refine f_intro (fun j1 => ?_) (fun j1 => ?_)
          · simp [g4, g5, hwi]
            refine law1_sector (b := [u8 ((i : Int) + 1)]) ?_
            simp
            have hh : d.has (i : Int) = true := by simp [Dk.has, hgl]; omega
            have e1 := write_ok (d := d) (i := (i : Int)) (b := mark i) g11 (.inl g10) hh (sect_length _)
            have hw2 : WfD d ((1000 - (i + 1)) + 1) := g7.less (by omega)
            have hwf := WfD.write (i := (i : Int)) (b := mark i) hw2
            refine dev_Write (d := d) (n := 1000 - (i + 1)) (b := mark i) g6 hw2 (by rw [g12]; exact Nat.zero_le _) fun S2 hI2 _ => ?_
            rw [e1] at hI2 hwf
            simp [e1, g2, g3, g4, g5]
            exact ⟨i + 1, ⟨by omega, by rw [hwi]; omega, _, hI2, hwf, g8, by simp only [g9]; rw [marks_succ], g10, g11, g12⟩, by omega⟩
          · have hi : n.toNat = i := by omega
            simp [g3, g4]
            have hc0 : (⟨0, keep⟩ : Cr).keep.length ≤ 1000000 := by show keep.length ≤ _; omega
            refine dev_Arm (d := d) (c := ⟨0, keep⟩) g6 hc0 (.inr (.inr rfl)) fun S2 hI2 _ => ?_
            simp [g2, g3, g4]
            have hw2 : WfD (d.arm ⟨0, keep⟩) (100 + 1) := (g7.arm).less (by omega)
            have e2 := flush_crash (d := d.arm ⟨0, keep⟩) g11 rfl g7.ops.1
            generalize hd2 : ({ (d.arm ⟨0, keep⟩).last (kept (d.arm ⟨0, keep⟩).keep) with down := true } : Dk) = d2 at e2
            have hwf2 : WfD d2 100 := by have := WfD.flush hw2; rwa [e2] at this
            refine dev_Flush (d := d.arm ⟨0, keep⟩) (n := 100) hI2 hw2 hc0 fun S3 hI3 _ => ?_
            rw [e2] at hI3
            simp [e2, g2, g3, g4]
            refine dev_Down hI3 ?_
            have hdn : d2.down = true := by rw [← hd2]
            simp [hdn, g2, g3, g4]
            refine law1_sector (b := []) ?_
            simp
            refine dev_Write (d := d2) (n := 99) hI3 hwf2 (by rw [← hd2]; exact hc0) fun S4 hI4 _ => ?_
            rw [write_down hdn] at hI4
            simp [write_down hdn, g2, g3, g4]
            refine dev_Restart (d := d2) hI4 fun S5 hI5 _ => ?_
            simp
            have hl2 : d2.lasts = land (kept keep) (marks i) (List.replicate i (zeros 64)) i := by
              rw [← hd2]
              show land (kept keep) d.waits d.lasts d.waits.length = _
              rw [g9, g8, hi, marks_length]
            have hl2n : d2.lasts.length = i := by rw [hl2, land_length]; simp
            have hrd : ∀ j, j < i → d2.restart.read (j : Int) = if kept keep j = true then mark j else zeros 64 := by
              intro j hj
              have q1 : d2.restart.has (j : Int) = true := by
                show (decide _ && decide ((j : Int) < (d2.lasts.length : Int))) = true
                rw [hl2n]; simp; omega
              have q2 : d2.restart.waits = [] := rfl
              have q3 : d2.restart.lasts = d2.lasts := rfl
              simp only [Dk.read, q1, if_true, q2, over_nil, q3, Int.toNat_natCast]
              rw [hl2, land_marks (by simp) i (Nat.le_refl _) j hj]
              have hz : nth (List.replicate i (zeros 64)) j = zeros 64 := by simp [nth, hj]
              rw [hz]
              by_cases hk : kept keep j = true
              · rw [if_pos ⟨hj, hk⟩, if_pos hk]
              · rw [if_neg (fun h => hk h.2), if_neg hk]
            have hwr : WfD d2.restart 100 := hwf2.restart (by omega)
            refine X_loop (fun (j : Nat) e S => j ≤ i ∧ e 0 = .d (.int .i64 n) ∧ e 1 = .d (.sl (rowD bo keep)) ∧ e 5 = .ptr id 0 ∧ e 7 = .d (.int .i64 j) ∧ IsD S id d2.restart) (fun j => i - j) 0 ?_ ?_
            · simp [g2, g3, g4, hI5]
            · intro j e S hJ
              obtain ⟨f1, f2, f3, f4, f5, f6⟩ := hJ
              simp [f2, f5]
              have hwj : IntKind.i64.wrap ((j : Int) + 1) = j + 1 := wrap_i64 (by omega) (by omega)
              refine f_intro (fun m1 => ?_) (fun m1 => ?_)
              · have hj : j < i := by omega
                simp
                refine law1_sector (b := []) ?_
                simp [f3, f5, sect_nil, hkl]
                refine f_intro (fun m2 => ?_) (fun m2 => ?_)
                · simp [f3, f5, m2]
                  refine f_intro (fun m3 => ?_) (fun m3 => ?_)
                  · simp [m3, f5, hwj]
                    refine law1_sector (b := [u8 ((j : Int) + 1)]) ?_
                    simp
                    have hk : kept keep j = true := by simp [kept, m2, m3]
                    refine X_drawM [0, 0, 3, 7, 0, 16, 63] (by decide +kernel) (by decide +kernel) ?_
                    have hidS := f6.1
                    simp [f4, f5]
                    refine sh_Read (d := d2.restart) (n := 100) (f6.of rfl (by simp; omega)) hwr fun S6 hI6 ho6 hn6 hc6 he6 => ?_
                    rw [hrd j hj, hk]
                    simp [hn6, hc6, mark, f2, f3, f4, f5]
                    exact ⟨j + 1, ⟨by omega, by rw [hwj]; omega, hI6.of rfl (by simp; omega)⟩, by omega⟩
                  · simp [m3]
                    have hk : kept keep j = false := by simp [kept, m3]
                    refine X_drawM [0, 0, 3, 7, 0, 16, 63] (by decide +kernel) (by decide +kernel) ?_
                    have hidS := f6.1
                    simp [f4, f5]
                    refine sh_Read (d := d2.restart) (n := 100) (f6.of rfl (by simp; omega)) hwr fun S6 hI6 ho6 hn6 hc6 he6 => ?_
                    rw [hrd j hj, hk]
                    simp [hn6, hc6, mark, f2, f3, f4, f5]
                    exact ⟨j + 1, ⟨by omega, by rw [hwj]; omega, hI6.of rfl (by simp; omega)⟩, by omega⟩
                · simp [m2]
                  have hk : kept keep j = false := by simp [kept, m2]
                  refine X_drawM [0, 0, 3, 7, 0, 16, 63] (by decide +kernel) (by decide +kernel) ?_
                  have hidS := f6.1
                  simp [f4, f5]
                  refine sh_Read (d := d2.restart) (n := 100) (f6.of rfl (by simp; omega)) hwr fun S6 hI6 ho6 hn6 hc6 he6 => ?_
                  rw [hrd j hj, hk]
                  simp [hn6, hc6, mark, f2, f3, f4, f5]
                  exact ⟨j + 1, ⟨by omega, by rw [hwj]; omega, hI6.of rfl (by simp; omega)⟩, by omega⟩
              · have hj : j = i := by omega
                subst hj
                simp [f4]
                refine dev_Down f6 ?_
                have q1 : d2.restart.down = false := rfl
                have q2 : d2.restart.ops = 0 := rfl
                have e3 := flush_ok (d := d2.restart) rfl (.inl rfl)
                simp [q1, f4]
                refine dev_Ops f6 ?_
                simp [q2, f4]
                refine dev_Flush (d := d2.restart) (n := 99) f6 hwr (by show d2.keep.length ≤ 1000000; rw [← hd2]; exact hc0) fun S7 _ _ => ?_
                simp [e3]
                refine law1_known ?_
                simp
end Go.VM
