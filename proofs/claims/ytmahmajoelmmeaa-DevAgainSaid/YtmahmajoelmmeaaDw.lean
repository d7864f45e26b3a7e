/- Chapter 1: where it crashes; which writes last. No condition. -/
import Derived.Test.YtmahmajoelmmeaaDf
namespace Go.VM
open Go.Proofs
set_option maxRecDepth 4000
attribute [-simp] Int.not_lt Int.not_le Nat.not_lt Nat.not_le
theorem bi_max {P : Program} {ts : Array TypeId} {k : IntKind} {a b : Int} : builtinT P .max ts [.d (.int k a), .d (.int k b)] = .ret (.d (.int k (max a b))) := by
  simp only [builtinT, minmaxT]
  rw [if_pos trivial]
  congr 3
  split <;> omega
theorem bi_min {P : Program} {ts : Array TypeId} {k : IntKind} {a b : Int} : builtinT P .min ts [.d (.int k a), .d (.int k b)] = .ret (.d (.int k (min a b))) := by
  simp only [builtinT, minmaxT]
  rw [if_pos trivial]
  congr 3
  split <;> omega
attribute [simp] bi_max bi_min
theorem write_down {d : Dk} {i : Int} {b : List UInt8} (h : d.down = true) : d.write i b = (6, d) := by simp [Dk.write, h]
theorem write_crash {d : Dk} {i : Int} {b : List UInt8} (h1 : d.down = false) (h2 : d.armed = true) (h3 : d.pos ≤ d.ops) (h4 : d.has i = true) (h5 : b.length = 64) : d.write i b = (6, { d.last (kept d.keep) with down := true }) := by
  have e : d.falls = (true, { d.last (kept d.keep) with down := true }) := by
    unfold Dk.falls
    rw [if_neg (by simp [h2]; omega)]
  simp [Dk.write, h1, h4, h5, e]
theorem flush_crash {d : Dk} (h1 : d.down = false) (h2 : d.armed = true) (h3 : d.pos ≤ d.ops) : d.flush = (6, { d.last (kept d.keep) with down := true }) := by
  have e : d.falls = (true, { d.last (kept d.keep) with down := true }) := by
    unfold Dk.falls
    rw [if_neg (by simp [h2]; omega)]
  simp [Dk.flush, h1, e]
theorem law_DevWhere {were at_ more : Int} (_ : (Lit.int .i64 were).wf = true) (_ : (Lit.int .i64 at_).wf = true) (_ : (Lit.int .i64 more).wf = true) : VQ cf 10 [.int .i64 were, .int .i64 at_, .int .i64 more] fun v => v = .d (.bool true) := by
  refine V_intro rfl (S_intro Try.func10 rfl rfl (Nat.le_of_ble_eq_true rfl) ?_)
  simp
  refine f_intro (fun k1 => ?_) (fun k1 => ?_)
  · simp [k1]
  · simp [k1]
    refine f_intro (fun k2 => ?_) (fun k2 => ?_)
    · simp [k2]
    · simp [k2]
      refine f_intro (fun k3 => ?_) (fun k3 => ?_)
      · simp [k3]
      · simp [k3]
        refine f_intro (fun k4 => ?_) (fun k4 => ?_)
        · simp [k4]
        · simp [k4]
          refine f_intro (fun k5 => ?_) (fun k5 => ?_)
          · simp [k5]
          · simp [k5]
            refine dev_New (fun _ _ S1 id hid hI hK => ?_) (fun h => absurd ⟨by decide, by decide⟩ h)
            simp
            refine X_loop (fun (i : Nat) e S => (i : Int) ≤ were ∧ e 0 = .d (.int .i64 were) ∧ e 1 = .d (.int .i64 at_) ∧ e 2 = .d (.int .i64 more) ∧ e 7 = .ptr id 0 ∧ e 8 = .d (.int .i64 i) ∧
              ∃ d, IsD S id d ∧ WfD d (1000 - i) ∧ d.lasts.length = 2 ∧ d.armed = false ∧ d.down = false ∧ d.ops = i ∧ d.keep = []) (fun i => 20 - i) 0 ?_ ?_
            · simp
              exact ⟨by omega, Dk.new 2, hI, new_wf (by omega) (by omega), rfl, rfl, rfl, rfl, rfl⟩
            · intro i e S hJ
              obtain ⟨g1, g2, g3, g4, g5, g6, d, g7, g8, g9, g10, g11, g12, g13⟩ := hJ
              simp [g2, g6]
              have hm : (i : Int).tmod 2 = i % 2 := Int.tmod_eq_emod_of_nonneg (by omega)
              refine f_intro (fun j1 => ?_) (fun j1 => ?_)
              · simp [g5, g6, hm]
                refine law1_sector (b := []) ?_
                simp
                have hh : d.has ((i : Int) % 2) = true := by simp [Dk.has, g9]; omega
                have e1 := write_ok (d := d) (i := (i : Int) % 2) (b := sect []) g11 (.inl g10) hh (sect_length _)
                have hw2 : WfD d ((1000 - (i + 1)) + 1) := g8.less (by omega)
                have hwf := WfD.write (i := (i : Int) % 2) (b := sect []) hw2
                refine dev_Write (d := d) (n := 1000 - (i + 1)) g7 hw2 (by rw [g13]; decide) fun S2 hI2 _ => ?_
                rw [e1] at hI2 hwf
                simp [e1, g2, g3, g4, g5, g6]
                exact ⟨i + 1, ⟨by omega, wrap_i64 (by omega) (by omega), _, hI2, hwf, g9, g10, g11, by simp only [g12]; omega, g13⟩, by omega⟩
              · have hi : (i : Int) = were := by omega
                simp [g3, g5]
                refine dev_Arm (d := d) (c := ⟨at_, []⟩) g7 (Nat.zero_le _) (.inr (.inl rfl)) fun S2 hI2 _ => ?_
                simp
                refine X_loop (fun (j : Nat) e S => (j : Int) ≤ more ∧ e 0 = .d (.int .i64 were) ∧ e 1 = .d (.int .i64 at_) ∧ e 2 = .d (.int .i64 more) ∧ e 7 = .ptr id 0 ∧ e 9 = .d (.int .i64 j) ∧
                  ∃ d, IsD S id d ∧ WfD d (900 - j) ∧ d.lasts.length = 2 ∧ d.armed = true ∧ d.pos = at_ ∧ (d.down = true ↔ (0 < j ∧ at_ < were + (j : Int))) ∧ d.ops = min (were + j) (max were at_) ∧ d.keep = []) (fun j => 20 - j) 0 ?_ ?_
                · simp [g2, g3, g4, g5]
                  refine ⟨by omega, _, hI2, (g8.arm).less (by omega), g9, rfl, rfl, ?_, ?_, rfl⟩
                  · exact g11
                  · show d.ops = _
                    rw [g12]; omega
                · intro j e S hJ
                  obtain ⟨f1, f2, f3, f4, f5, f6, d, f7, f8, f9, f10, f11, f12, f13, f14⟩ := hJ
                  simp [f4, f6]
                  have hm2 : (j : Int).tmod 2 = j % 2 := Int.tmod_eq_emod_of_nonneg (by omega)
                  have hws : IntKind.i64.wrap (were + j) = were + j := wrap_i64 (by omega) (by omega)
                  refine f_intro (fun m1 => ?_) (fun m1 => ?_)
                  · simp [f5, f6, hm2]
                    refine law1_sector (b := []) ?_
                    simp
                    have hh : d.has ((j : Int) % 2) = true := by simp [Dk.has, f9]; omega
                    have hw2 : WfD d ((900 - (j + 1)) + 1) := f8.less (by omega)
                    have hwf := WfD.write (i := (j : Int) % 2) (b := sect []) hw2
                    refine dev_Write (d := d) (n := 900 - (j + 1)) f7 hw2 (by rw [f14]; decide) fun S3 hI3 _ => ?_
                    have hwr : IntKind.i64.wrap ((j : Int) + 1) = ((j + 1 : Nat) : Int) := wrap_i64 (by omega) (by omega)
                    by_cases hdn : 0 < j ∧ at_ < were + (j : Int)
                    · have e1 := write_down (i := (j : Int) % 2) (b := sect []) (f12.2 hdn)
                      rw [e1] at hI3 hwf
                      have hge : at_ ≤ were + j := by omega
                      simp [e1, f2, f3, f4, f5, f6, hws, hge]
                      exact ⟨j + 1, ⟨by omega, hwr, d, hI3, hwf, f9, f10, f11, ⟨fun _ => by omega, fun _ => f12.2 hdn⟩, by rw [f13]; omega, f14⟩, by omega⟩
                    · have hnd : d.down = false := by
                        cases hd : d.down with
                        | false => rfl
                        | true => exact absurd (f12.1 hd) hdn
                      have hops : d.ops = were + j := by rw [f13]; omega
                      by_cases hlt : were + j < at_
                      · have e1 := write_ok (d := d) (i := (j : Int) % 2) (b := sect []) hnd (.inr (by rw [hops, f11]; exact hlt)) hh (sect_length _)
                        rw [e1] at hI3 hwf
                        have hge : ¬ at_ ≤ were + j := by omega
                        simp [e1, f2, f3, f4, f5, f6, hws, hge]
                        exact ⟨j + 1, ⟨by omega, hwr, _, hI3, hwf, f9, f10, f11, ⟨fun e => absurd (show d.down = true from e) (by rw [hnd]; simp), fun e => by omega⟩, by simp only [hops]; omega, f14⟩, by omega⟩
                      · have e1 := write_crash (d := d) (i := (j : Int) % 2) (b := sect []) hnd f10 (by rw [hops, f11]; omega) hh (sect_length _)
                        rw [e1] at hI3 hwf
                        have hge : at_ ≤ were + j := by omega
                        simp [e1, f2, f3, f4, f5, f6, hws, hge]
                        refine ⟨j + 1, ⟨by omega, hwr, _, hI3, hwf, ?_, f10, f11, ⟨fun _ => by omega, fun _ => rfl⟩, ?_, f14⟩, by omega⟩
                        · show (land _ _ _ _).length = 2
                          rw [land_length]; exact f9
                        · show d.ops = _
                          rw [hops]; omega
                  · have hj : (j : Int) = more := by omega
                    simp [f5]
                    refine dev_Down f7 ?_
                    have hdd : d.down = decide (0 < more ∧ at_ < were + more) := by
                      rw [Bool.eq_iff_iff, f12]; simp; omega
                    have hwm : IntKind.i64.wrap (were + more) = were + more := wrap_i64 (by omega) (by omega)
                    simp [f2, f3, f4, f5]
                    by_cases hm0 : 0 < more
                    · by_cases hm1 : at_ < were + more
                      · simp [hdd, hm0, hm1, f2, f3, f4, f5, hwm]
                        refine dev_Ops f7 ?_
                        simp [f2, f3, f4, f5, f13, hj, hwm]
                        refine law1_known ?_
                        simp
                      · simp [hdd, hm0, hm1, f2, f3, f4, f5, hwm]
                        refine dev_Ops f7 ?_
                        simp [f2, f3, f4, f5, f13, hj, hwm]
                        refine law1_known ?_
                        simp
                    · simp [hdd, hm0, f2, f3, f4, f5, hwm]
                      refine dev_Ops f7 ?_
                      simp [f2, f3, f4, f5, f13, hj, hwm]
                      refine law1_known ?_
                      simp
end Go.VM
