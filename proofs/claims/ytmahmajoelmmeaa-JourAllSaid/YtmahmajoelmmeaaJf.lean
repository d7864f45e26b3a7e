/- Chapter 2: what the laws say by hand. No condition. -/
import Derived.Test.YtmahmajoelmmeaaJe
namespace Go.VM
open Go.Proofs
set_option maxRecDepth 4000
attribute [-simp] Int.not_lt Int.not_le Nat.not_lt Nat.not_le
theorem law2_sector {b : List UInt8} {Q : LV → Prop} (h : Q (.d (.sl (byD (sect b))))) : VQ cf 57 [.sl (byD b)] Q := by
  refine V_intro rfl (S_intro Try.func57 rfl rfl (Nat.le_of_ble_eq_true rfl) ?_)
  simp
  refine X_loop (fun (i : Nat) e S => (i ≤ 64 ∧ i ≤ b.length) ∧ e 0 = .d (.sl (byD b)) ∧ e 3 = .ar (.arr 0) 1 0 64 ∧ e 4 = .d (.int .i64 i) ∧ S.obj 0 = .arr 1 (byD (sectTo b i)) false) (fun i => 64 - i) 0 ?_ ?_
  · simp [sectTo]
  · intro i e S hI
    obtain ⟨g1, g2, g3, g4, g5⟩ := hI
    have fin : ¬ (i < b.length ∧ i < 64) → Q (.d (.sl (byD (sectTo b i)))) := fun hc => by rw [sectTo_all g1.1 g1.2 hc]; exact h
    simp [g2, g4]
    intro _
    refine f_intro (fun j1 => ?_) (fun j1 => ?_)
    · simp [g4, j1]
      refine f_intro (fun j2 => ?_) (fun j2 => ?_)
      · simp [g2, g3, g4, g5, j1, j2, sectTo_length]
        have j3 : i < 64 := by omega
        simp [j3]
        exact ⟨i + 1, ⟨⟨by omega, by omega⟩, wrap_i64 (by omega) (by omega), by rw [sectTo_succ]⟩, by omega⟩
      · simp [g3, g5, j2, sectTo_length]
        exact fin (by omega)
    · simp [g3, g5, j1, sectTo_length]
      exact fin (by omega)
theorem Ok.lands {d : Dk} {n : Nat} {l : List Wr} (h : Ok d (n + l.length + 3)) : Ok (d.lands l).2 n := by
  have h1 : Ok d ((n + 2) + l.length + 1) := h.less (by omega)
  unfold Dk.lands
  split
  · exact Ok.writes (l := [⟨1, sect []⟩]) (n := n) h1.writes
  · exact h1.writes.less (by omega)
theorem Ok.format {d : Dk} {n : Nat} (h : Ok d (n + 3000)) : Ok d.format.2 n := by
  have := h.wf.many
  unfold Dk.format
  split
  · exact h.less (by omega)
  · refine Ok.writes (h.less ?_)
    rw [fmt_length]; unfold Dk.many; omega
theorem Ok.openD {d : Dk} {n : Nat} (h : Ok d (n + 200)) : Ok d.openD.2 n := by
  unfold Dk.openD
  split
  · exact h.less (by omega)
  · split
    · exact h.less (by omega)
    · split
      · exact h.less (by omega)
      · rename_i hm
        have hm2 : (marked (d.read 1)).2 = true := by simpa using hm
        have := marked_le hm2
        split
        · exact h.less (by omega)
        · split
          · refine Ok.lands (h.less ?_)
            rw [logW_length]; omega
          · exact h.less (by omega)
theorem Ok.commit {d : Dk} {n : Nat} {l : List Wr} (h : Ok d (n + 320)) : Ok (d.commit l).2 n := by
  unfold Dk.commit
  split
  · exact h.less (by omega)
  · rename_i hc
    have hw : d.wrong l = 0 := by
      by_cases e : d.wrong l = 0
      · exact e
      · exact absurd (.inl e) hc
    have hl := (wrong_ok hw).1
    have h1 : Ok d ((n + 157) + (logOf l).length + 1) := h.less (by rw [logOf_length]; unfold lists; omega)
    have h2 : Ok (d.writes (logOf l)).2 ((n + 155) + [(⟨1, markB l.length⟩ : Wr)].length + 1) := h1.writes
    split
    · exact h1.writes.less (by omega)
    · split
      · exact h2.writes.less (by omega)
      · exact Ok.lands (h2.writes.less (by simp [landing]; omega))
theorem sh_JRead {S : St} {id n : Nat} {d : Dk} {i : Int} {K : LV → St → List Nat → List Nat → Prop} (hI : IsD S id d) (hw : Ok d n) (hK : ∀ S2, IsD S2 id d → (∀ j, j ≠ id → S2.obj j = S.obj j) → S2.next = S.next → S2.clk = S.clk + 1 → S2.esc = S.esc → K (.d (.sl (byD (d.jread i)))) S2 [id] [id]) :
    ShD cf 60 [.ptr id 0, .d (.int .i64 i)] S K := ShD_D (d' := d) (x := .sl (byD (d.jread i))) hI rfl (by simp) (fun S0 h0 => jour_Read h0 hw fun S' v hk _ hv => ⟨hk, by rcases hv with rfl | ⟨rfl, e⟩; rfl; rw [e]; rfl⟩) hK
theorem new_ok {k n : Nat} (hk : k ≤ 2000) (hn : n ≤ 1000000) : Ok (Dk.new k) n := ⟨new_wf hk hn, Nat.zero_le _⟩
set_option maxHeartbeats 1000000 in
theorem law2_known {Q : LV → Prop} (h : Q (.d (.bool true))) : VQ cf 59 [] Q := by
  refine V_intro rfl (S_intro Try.func59 rfl rfl (Nat.le_of_ble_eq_true rfl) ?_)
  simp
  refine dev_New (fun n1 n2 S1 a ha hI hK => ?_) (fun hn => absurd ⟨by decide, by decide⟩ hn)
  have e0 : (165 : Int).toNat = 165 := rfl
  rw [e0] at hI
  have o0 : Ok (Dk.new 165) 10000 := new_ok (by decide) (by decide)
  obtain ⟨f1, f2, f3⟩ := new_good (n := 165) (by decide)
  have o1 : Ok (Dk.new 165).format.2 7000 := o0.format
  simp
  refine jour_Format hI (n := 7000) o0 fun S2 hI2 hM2 => ?_
  rw [f1]
  generalize (Dk.new 165).format.2 = d1 at hI2 f2 f3 o1
  simp
  refine law2_sector (b := [120]) ?_
  simp
  have hmany : d1.many = 8 := by unfold Dk.many; rw [f3]; decide
  have hw : d1.wrong [⟨3, sect [120]⟩] = 0 := by
    unfold Dk.wrong
    simp [bad, hmany, nth, poss]
  obtain ⟨c1, c2, c3⟩ := good_commit f2 hw (by simp)
  refine jour_Commit (l := [⟨3, sect [120]⟩]) hI2 (n := 6680) o1 (by simp) fun S3 hI3 hM3 => ?_
  have o2 := o1.commit (n := 6680) (l := [⟨3, sect [120]⟩])
  rw [c1]
  generalize (d1.commit [⟨3, sect [120]⟩]).2 = d2 at hI3 c2 c3 o2
  simp
  refine jour_Open hI3 (n := 6480) o2 fun S4 hI4 hM4 => ?_
  rw [good_open c2] at hI4 ⊢
  simp
  have hmany2 : d2.many = 8 := by unfold Dk.many; rw [c3, f3]; decide
  have r3 : d2.jread 3 = sect [120] := good_read c2 (by decide) (by rw [hmany2]; decide)
  have r8 : d2.jread 8 = [] := by rw [Dk.jread, if_pos (.inr (by rw [hmany2]; decide))]
  refine X_drawM [0, 1, 3, 7, 15, 31, 63, 127, 255, 511, 1023, 2047, 4095, 8191, 2047, 18431, 57343, 122879, 262143, 524287, 1048575, 2097151, 4194303, 8388607, 16777215, 33554431, 67108863, 134217727, 268435455, 536870911, 1073741823, 2147483647] (by decide +kernel) (by decide +kernel) ?_
  simp
  have lt4 := hI4.1
  refine sh_JRead (n := 6480) (hI4.of rfl (by simp; omega)) (o2.less (by omega)) fun S5 hI5 ho5 hn5 hc5 he5 => ?_
  have lt5 := hI5.1
  simp at hn5 hc5 he5
  simp [hn5, hc5, r3]
  refine law2_sector (b := [120]) ?_
  simp [hn5, hc5]
  refine sh_Many (hI5.of rfl (by simp; omega)) o2.wf.many fun S6 hI6 ho6 hn6 hc6 he6 => ?_
  simp at hn6 hc6 he6
  simp [hn6, hc6, hmany2]
  refine sh_JRead (n := 6480) (hI6.of rfl (by simp; omega)) (o2.less (by omega)) fun S7 hI7 ho7 hn7 hc7 he7 => ?_
  simp at hn7 hc7 he7
  simp [hn7, hc7, r8]
  exact ⟨⟨⟨by decide +kernel, by decide +kernel⟩, by decide +kernel⟩, h⟩
end Go.VM
