/- Law JourMark. No condition. -/
import Derived.Test.YtmahmajoelmmeaaJu
namespace Go.VM
open Go.Proofs
set_option maxRecDepth 4000
attribute [-simp] Int.not_lt Int.not_le Nat.not_lt Nat.not_le
theorem Calm.write {d : Dk} {i : Int} {b : List UInt8} (h : Calm d) : Calm (d.write i b).2 := by
  unfold Dk.write
  rw [calm_falls h]
  split
  · exact h
  · split
    · exact h
    · exact ⟨h.armed, h.down⟩
set_option maxHeartbeats 2000000 in
theorem law_JourMark {mark : List UInt8} {log : List (List UInt8)} {places : Int} (_ : (∀ a ∈ mark, True) ∧ mark.length * 1 ≤ lim) (_ : (∀ a ∈ log, (∀ b ∈ a, True) ∧ a.length * 1 ≤ lim) ∧ log.length * 24 ≤ lim) (_ : (Lit.int .i64 places).wf = true) :
    VQ cf 16 [.sl (byD mark), .sl (rowD sb log), .int .i64 places] fun v => v = .d (.bool true) := by
  refine V_intro rfl (S_intro Try.func16 rfl rfl (Nat.le_of_ble_eq_true rfl) ?_)
  simp
  intro _
  refine f_intro (fun k1 => ?_) (fun k1 => ?_)
  · simp [k1]
  simp [k1]
  intro _
  refine f_intro (fun k2 => ?_) (fun k2 => ?_)
  · simp [k1, k2]
  simp [k1, k2]
  refine f_intro (fun k3 => ?_) (fun k3 => ?_)
  · simp [k1, k2, k3]
  simp [k1, k2, k3]
  refine f_intro (fun k4 => ?_) (fun k4 => ?_)
  · simp [k4]
  have w0 : IntKind.i64.wrap (157 + places) = 157 + places := wrap_i64 (by omega) (by omega)
  simp [k4, w0]
  refine dev_New (fun n1 n2 S1 a ha hI hK => ?_) (fun hn => absurd ⟨by omega, by omega⟩ hn)
  simp [w0]
  refine ref_New (fun n1 n2 S2 c hc hR hK2 => ?_) (fun h => absurd ⟨n1, n2⟩ h)
  have hI2 := hI.kept hK2
  have hne : a ≠ c := by have := hI.1; omega
  have hne' : c ≠ a := fun e => hne e.symm
  obtain ⟨N, hN⟩ : ∃ N : Nat, (157 + places).toNat = N ∧ 157 < N ∧ N ≤ 2000 := ⟨(157 + places).toNat, rfl, by omega, by omega⟩
  rw [hN.1] at hI2 hR
  obtain ⟨f1, f2, f3⟩ := new_good (n := N) hN.2
  have o0 : Ok (Dk.new N) 10000 := new_ok hN.2.2 (by decide)
  have o1 : Ok (Dk.new N).format.2 7000 := o0.format
  simp
  refine jour_Format hI2 (n := 7000) o0 fun S3 hI3 hM3 => ?_
  have hR3 := hR.mod hM3 hne'
  simp
  refine ref2_Format hR3 (n := 7000) o0 fun S4 hR4 hM4 => ?_
  have hI4 := hI3.mod hM4 hne
  generalize (Dk.new N).format.2 = d1 at hI4 hR4 f2 f3 o1
  simp
  refine law2_sector ?_
  simp
  refine dev_Write (n := 6999) hI4 o1.wf o1.keep fun S5 hI5 hM5 => ?_
  have hR5 := hR4.mod hM5 hne'
  simp
  refine law2_sector ?_
  simp
  refine ref_Write (n := 6999) hR5 o1.wf fun S6 hR6 hM6 => ?_
  have hI6 := hI5.mod hM6 hne
  have o2 : Ok (d1.write 1 (sect mark)).2 6999 := o1.write
  simp
  have c2 : Calm (d1.write 1 (sect mark)).2 := f2.calm.write
  generalize (d1.write 1 (sect mark)).2 = d2 at hI6 hR6 o2 c2
  refine X_loop (fun (k : Nat) e S' => k ≤ log.length ∧ e 1 = .d (.sl (rowD sb log)) ∧ e 7 = .ptr a 0 ∧ e 8 = .ptr c 0 ∧ e 9 = .d (.int .i64 k) ∧ ∃ d', IsD S' a d' ∧ IsR S' c d' ∧ Ok d' (6999 - k) ∧ Calm d') (fun k => log.length - k) 0 ?_ ?_
  · simp
    exact ⟨d2, hI6, hR6, o2, c2⟩
  · intro k e S7 hJ
    obtain ⟨g1, g2, g3, g4, g5, d', hI7, hR7, o7, c7⟩ := hJ
    simp [g2, g5]
    intro _
    refine f_intro (fun j1 => ?_) (fun j1 => ?_)
    · simp [g2, g5, j1]
      intro _
      refine f_intro (fun j2 => ?_) (fun j2 => ?_)
      · simp [j2]
      have o8 : Ok d' ((6999 - (k + 1)) + 1) := o7.less (by omega)
      have w1 : IntKind.i64.wrap (2 + (k : Int)) = 2 + (k : Int) := wrap_i64 (by omega) (by omega)
      simp [j1, j2, g2, g3, g4, g5, w1]
      refine law2_sector ?_
      simp
      refine dev_Write (n := 6999 - (k + 1)) hI7 o8.wf o8.keep fun S8 hI8 hM8 => ?_
      have hR8 := hR7.mod hM8 hne'
      simp [j1, j2, g2, g3, g4, g5, w1]
      refine law2_sector ?_
      simp
      refine ref_Write (n := 6999 - (k + 1)) hR8 o8.wf fun S9 hR9 hM9 => ?_
      have hI9 := hI8.mod hM9 hne
      simp [g2, g3, g4, g5]
      exact ⟨k + 1, ⟨by omega, wrap_i64 (by omega) (by omega), _, hI9, hR9, o8.write, c7.write⟩, by omega⟩
    · have hk : k = log.length := by omega
      subst hk
      have o8 : Ok d' (6000 + 1) := o7.less (by omega)
      have hfl : d'.flush.1 = 0 := by rw [calm_flush c7]
      simp [g3]
      refine dev_Flush (n := 6000) hI7 o8.wf o8.keep fun S8 hI8 hM8 => ?_
      have hR8 := hR7.mod hM8 hne'
      simp [g3, g4, hfl]
      refine ref_Flush (n := 6000) hR8 o8.wf fun S9 hR9 hM9 => ?_
      have hI9 := hI8.mod hM9 hne
      have o9 := o8.flush
      generalize d'.flush.2 = d3 at hI9 hR9 o9
      simp [g3, g4, hfl]
      refine jour_Open hI9 (n := 5800) o9 fun S10 hI10 hM10 => ?_
      have hR10 := hR9.mod hM10 hne'
      simp [g3, g4]
      refine ref2_Open hR10 (n := 5800) o9 fun S11 hR11 hM11 => ?_
      have hI11 := hI10.mod hM11 hne
      have o10 : Ok d3.openD.2 5800 := o9.openD
      simp [g3, g4]
      refine law2_same hI11 hR11 o10 hne fun S12 hI12 hR12 => ?_
      simp
      refine law2_known ?_
      simp
end Go.VM
