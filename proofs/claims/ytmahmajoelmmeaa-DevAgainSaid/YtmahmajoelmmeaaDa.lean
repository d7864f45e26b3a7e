/- Chapter 1: of several writes of one sector the last of those that are kept. No condition. -/
import Derived.Test.YtmahmajoelmmeaaDk
namespace Go.VM
open Go.Proofs
set_option maxRecDepth 4000
attribute [-simp] Int.not_lt Int.not_le Nat.not_lt Nat.not_le
def alls (l : List (List UInt8)) : List Wr := l.map fun b => ⟨0, sect b⟩
theorem alls_snoc {l : List (List UInt8)} {b : List UInt8} : alls (l ++ [b]) = alls l ++ [⟨0, sect b⟩] := by simp [alls]
theorem alls_length {l : List (List UInt8)} : (alls l).length = l.length := by simp [alls]
theorem alls_nth {l : List (List UInt8)} {i : Nat} (h : i < l.length) : nth (alls l) i = ⟨0, sect (nth l i)⟩ := by simp [alls, nth, h]
/-- the last of the first i that is kept -/
def lastK (l : List (List UInt8)) (keep : List Bool) (i : Nat) : List UInt8 := (List.range i).foldl (fun x k => if kept keep k then sect (nth l k) else x) (zeros 64)
theorem lastK_succ {l : List (List UInt8)} {keep : List Bool} {i : Nat} : lastK l keep (i + 1) = if kept keep i then sect (nth l i) else lastK l keep i := by simp [lastK, List.range_succ]
theorem land_alls {l : List (List UInt8)} {keep : List Bool} : ∀ m, m ≤ l.length → land (kept keep) (alls l) [zeros 64] m = [lastK l keep m] := by
  intro m
  induction m with
  | zero => intro _; rfl
  | succ m ih =>
    intro hm
    rw [land_succ, ih (by omega), lastK_succ]
    by_cases hk : kept keep m = true
    · rw [if_pos hk, if_pos hk, alls_nth (by omega)]; rfl
    · rw [if_neg hk, if_neg hk]
theorem over_alls {l : List (List UInt8)} {b : List UInt8} (h : 0 < l.length) : over (alls l) 0 b = sect (nth l (l.length - 1)) := by
  have hs : l = l.take (l.length - 1) ++ [nth l (l.length - 1)] := by
    have := takeN (l := l) (i := l.length - 1) (by omega)
    rw [← this, show l.length - 1 + 1 = l.length from by omega, List.take_length]
  have e : alls l = alls (l.take (l.length - 1)) ++ [⟨0, sect (nth l (l.length - 1))⟩] := by
    rw [← alls_snoc, ← hs]
  rw [e, over_snoc, if_pos rfl]
set_option maxHeartbeats 2000000 in
theorem law_DevAgain {l : List (List UInt8)} {keep : List Bool} (_ : (∀ a ∈ l, (∀ c ∈ a, True) ∧ a.length * 1 ≤ lim) ∧ l.length * 24 ≤ lim) (_ : (∀ b ∈ keep, True) ∧ keep.length * 1 ≤ lim) : VQ cf 8 [.sl (rowD sb l), .sl (boD keep)] fun v => v = .d (.bool true) := by
  refine V_intro rfl (S_intro Try.func8 rfl rfl (Nat.le_of_ble_eq_true rfl) ?_)
  simp
  intro hl
  refine f_intro (fun k1 => ?_) (fun k1 => ?_)
  · simp [k1]
  · simp [k1, hl]
    refine f_intro (fun k2 => ?_) (fun k2 => ?_)
    · simp [k2]
    · unfold boD
      simp [k2]
      intro hkl
      refine f_intro (fun k3 => ?_) (fun k3 => ?_)
      · simp [k3]
      · simp [k3]
        refine dev_New (fun _ _ S1 id hid hI hK => ?_) (fun h => absurd ⟨by decide, by decide⟩ h)
        simp
        refine law1_sector (b := []) ?_
        simp [sect_nil]
        refine X_loop (fun (i : Nat) e S => i ≤ l.length ∧ e 0 = .d (.sl (rowD sb l)) ∧ e 1 = .d (.sl (rowD bo keep)) ∧ e 5 = .ptr id 0 ∧ e 6 = .d (.sl (byD (lastK l keep i))) ∧ e 7 = .d (.int .i64 i) ∧
          ∃ d, IsD S id d ∧ WfD d (1000 - i) ∧ d.lasts = [zeros 64] ∧ d.waits = alls (l.take i) ∧ d.armed = false ∧ d.down = false ∧ d.keep = []) (fun i => l.length - i) 0 ?_ ?_
        · simp [lastK]
          exact ⟨Dk.new 1, hI, new_wf (by omega) (by omega), rfl, rfl, rfl, rfl, rfl⟩
        · intro i e S hJ
          obtain ⟨g1, g2, g3, g4, g5, g6, d, g7, g8, g9, g10, g11, g12, g13⟩ := hJ
          simp [g2, g6, hl]
          refine f_intro (fun j1 => ?_) (fun j1 => ?_)
          · have j1' : i < l.length := by omega
            simp [g2, g6, j1', sb]
            intro hbl
            refine f_intro (fun j2 => ?_) (fun j2 => ?_)
            · simp [j2, g2, g6, j1', sb]
            · simp [j2, g2, g4, g6, j1', sb]
              refine law1_sector ?_
              simp
              have hh : d.has 0 = true := by simp [Dk.has, g9]
              have e1 := write_ok (d := d) (i := 0) (b := sect (nth l i)) g12 (.inl g11) hh (sect_length _)
              have hw2 : WfD d ((1000 - (i + 1)) + 1) := g8.less (by omega)
              have hwf := WfD.write (i := 0) (b := sect (nth l i)) hw2
              refine dev_Write (d := d) (n := 1000 - (i + 1)) g7 hw2 (by rw [g13]; exact Nat.zero_le _) fun S2 hI2 _ => ?_
              rw [e1] at hI2 hwf
              simp [e1, g2, g3, g6, hkl]
              have hwt : d.waits ++ [⟨0, sect (nth l i)⟩] = alls (l.take (i + 1)) := by rw [g10, takeN j1', alls_snoc]
              refine f_intro (fun j3 => ?_) (fun j3 => ?_)
              · have j3' : i < keep.length := by omega
                simp [j3', g3, g6]
                refine f_intro (fun j4 => ?_) (fun j4 => ?_)
                · simp [j4, g2, g3, g4, g5, g6, j1', sb]
                  refine law1_sector ?_
                  simp [g2, g3, g4, g5, g6]
                  exact ⟨i + 1, ⟨by omega, by rw [lastK_succ, if_pos (by simp [kept, j3', j4])], wrap_i64 (by omega) (by omega), _, hI2, hwf, g9, hwt, g11, g12, g13⟩, by omega⟩
                · simp [j4, g2, g3, g4, g5, g6]
                  exact ⟨i + 1, ⟨by omega, by rw [lastK_succ, if_neg (by simp [kept, j4])], wrap_i64 (by omega) (by omega), _, hI2, hwf, g9, hwt, g11, g12, g13⟩, by omega⟩
              · have j3' : ¬ i < keep.length := by omega
                simp [j3', g2, g3, g4, g5, g6]
                exact ⟨i + 1, ⟨by omega, by rw [lastK_succ, if_neg (by simp [kept, j3'])], wrap_i64 (by omega) (by omega), _, hI2, hwf, g9, hwt, g11, g12, g13⟩, by omega⟩
          · have hi : i = l.length := by omega
            subst hi
            rw [List.take_length] at g10
            simp
            refine X_drawM [0, 1, 3, 0, 0, 16, 48, 120, 248, 507, 1019, 2047] (by decide +kernel) (by decide +kernel) ?_
            simp [g2, g4, hl]
            have hln : 0 < l.length := by omega
            have hrd : d.read 0 = sect (nth l (l.length - 1)) := by
              have hh : d.has 0 = true := by simp [Dk.has, g9]
              simp only [Dk.read, hh, if_true, g10]
              exact over_alls hln
            have hsub : IntKind.i64.wrap ((l.length : Int) - 1) = ((l.length - 1 : Nat) : Int) := by rw [wrap_i64 (by omega) (by omega)]; omega
            have hid := g7.1
            refine sh_Read (d := d) (n := 900) (g7.of rfl (by simp; omega)) (g8.less (by omega)) fun S6 hI6 ho6 hn6 hc6 he6 => ?_
            rw [hrd]
            simp [hn6, hc6, g2, g3, g4, g5, hl, hsub, sb]
            refine ⟨by omega, law1_sector ?_⟩
            simp [g2, g3, g4, g5]
            have hI7 : IsD ⟨S6.obj, S.next + 1200, S.clk + 1200, S6.esc⟩ id d := hI6.of rfl (by simp; omega)
            have hc0 : (⟨0, keep⟩ : Cr).keep.length ≤ 1000000 := by show keep.length ≤ _; omega
            refine dev_Arm (d := d) (c := ⟨0, keep⟩) hI7 hc0 (.inr (.inr rfl)) fun S8 hI8 _ => ?_
            simp [g2, g3, g4, g5]
            refine X_drawM [0, 1, 3, 7, 15, 31, 63, 15, 143, 511, 1023, 2047, 4095, 8191, 16383] (by decide +kernel) (by decide +kernel) ?_
            simp [g2, g3, g4, g5]
            have hw2 : WfD (d.arm ⟨0, keep⟩) (100 + 1) := (g8.arm).less (by omega)
            have e2 := flush_crash (d := d.arm ⟨0, keep⟩) g12 rfl g8.ops.1
            generalize hd2 : ({ (d.arm ⟨0, keep⟩).last (kept (d.arm ⟨0, keep⟩).keep) with down := true } : Dk) = d2 at e2
            have hwf2 : WfD d2 100 := by have := WfD.flush hw2; rwa [e2] at this
            have hl2 : d2.lasts = [lastK l keep l.length] := by
              rw [← hd2]
              show land (kept keep) d.waits d.lasts d.waits.length = _
              rw [g10, g9, alls_length, land_alls _ (Nat.le_refl _)]
            have hrd2 : d2.read 0 = lastK l keep l.length := by
              have hh : d2.has 0 = true := by simp [Dk.has, hl2]
              have hw0 : d2.waits = [] := by rw [← hd2]; rfl
              simp only [Dk.read, hh, if_true, hw0, over_nil, hl2]
              rfl
            have hid8 := hI8.1
            refine sh_Flush (d := d.arm ⟨0, keep⟩) (n := 100) (hI8.of rfl (by simp; omega)) hw2 hc0 fun S9 hI9 ho9 hn9 hc9 he9 => ?_
            rw [e2] at hI9
            simp [e2, hn9, hc9, g2, g3, g4, g5]
            refine sh_Read (d := d2) (n := 100) (hI9.of rfl (by simp; omega)) hwf2 fun S10 hI10 ho10 hn10 hc10 he10 => ?_
            rw [hrd2]
            simp [hn10, hc10, g2, g3, g4, g5]
            refine law1_known ?_
            simp
            try decide +kernel
end Go.VM
