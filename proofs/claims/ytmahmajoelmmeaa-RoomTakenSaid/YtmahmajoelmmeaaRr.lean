/- Chapter 4: which places are free: the document's answers, and what is taken. No condition. -/
import Derived.Test.YtmahmajoelmmeaaRm
namespace Go.VM
open Go.Proofs
set_option maxRecDepth 4000
attribute [-simp] Int.not_lt Int.not_le Nat.not_lt Nat.not_le
theorem ref4_has {l : List Nd} {at_ : Int} {Q : LV → Prop} (h : Q (.d (.bool (decide (at_ ∈ placesOf l))))) : VQ cf 76 [.sl (rowD ndD l), .int .i64 at_] Q := by
  refine V_intro rfl (S_intro Try.func76 rfl rfl (Nat.le_of_ble_eq_true rfl) ?_)
  simp
  refine X_loop (fun (i : Nat) e S => i ≤ l.length ∧ e 0 = .d (.sl (rowD ndD l)) ∧ e 1 = .d (.int .i64 at_) ∧ e 5 = .d (.int .i64 i) ∧ at_ ∉ placesOf (l.take i)) (fun i => l.length - i) 0 ?_ ?_
  · simp [placesOf]
  · intro i e S hI
    obtain ⟨g1, g2, g3, g4, g5⟩ := hI
    simp [g2, g4]
    intro hl
    refine f_intro (fun j1 => ?_) (fun j1 => ?_)
    · simp
      refine X_loop (fun (j : Nat) e S => j ≤ (nth l i).places.length ∧ e 0 = .d (.sl (rowD ndD l)) ∧ e 1 = .d (.int .i64 at_) ∧ e 5 = .d (.int .i64 i) ∧ e 6 = .d (.int .i64 j) ∧ at_ ∉ (nth l i).places.take j) (fun j => (nth l i).places.length - j) 0 ?_ ?_
      · simp [g2, g3, g4]
      · intro j e S hJ
        obtain ⟨f1, f2, f3, f4, f5, f6⟩ := hJ
        simp [f2, f4, f5, j1]
        intro hp
        refine f_intro (fun m1 => ?_) (fun m1 => ?_)
        · simp [f2, f3, f4, f5, j1, m1]
          refine f_intro (fun m2 => ?_) (fun m2 => ?_)
          · simp [m2]
            have hin : at_ ∈ placesOf l := by
              unfold placesOf
              exact List.mem_flatMap.2 ⟨nth l i, nth_mem j1, m2 ▸ nth_mem m1⟩
            simpa [hin] using h
          · simp [m2, f2, f3, f4, f5]
            refine ⟨j + 1, ⟨by omega, wrap_i64 (by omega) (by omega), fun hm => ?_⟩, by omega⟩
            rw [takeN m1] at hm
            rcases List.mem_append.1 hm with hm | hm
            · exact f6 hm
            · simp at hm; exact m2 hm.symm
        · have hj : j = (nth l i).places.length := by omega
          subst hj
          rw [List.take_length] at f6
          simp [f2, f3, f4]
          refine ⟨i + 1, ⟨by omega, wrap_i64 (by omega) (by omega), fun hm => ?_⟩, by omega⟩
          rw [takeN j1, placesOf_snoc] at hm
          rcases List.mem_append.1 hm with hm | hm
          · exact g5 hm
          · exact f6 hm
    · have hi : i = l.length := by omega
      subst hi
      rw [List.take_length] at g5
      simp
      simpa [g5] using h
theorem ref4_Free {l : List Nd} {many : Int} {Q : LV → Prop} (hm : many ≤ 2000) (h : Q (.d (.sl (inD (freeOf l many))))) : VQ cf 37 [.sl (rowD ndD l), .int .i64 many] Q := by
  refine V_intro rfl (S_intro Try.func37 rfl rfl (Nat.le_of_ble_eq_true rfl) ?_)
  simp
  refine X_loop (fun (n : Nat) e S => (n = 0 ∨ 40 + (n : Int) ≤ many) ∧ e 0 = .d (.sl (rowD ndD l)) ∧ e 1 = .d (.int .i64 many) ∧ e 6 = .d (.int .i64 (40 + n)) ∧
      (e 5 = .lit [] ∧ freeTo l n = [] ∨ ∃ a, a < S.next ∧ e 5 = .ar (.arr a) 1 0 (freeTo l n).length ∧ S.obj a = .arr 1 (inD (freeTo l n)) false)) (fun n => 2000 - n) 0 ?_ ?_
  · simp [freeTo]
  · intro n e S hI
    obtain ⟨g1, g2, g3, g4, g6⟩ := hI
    simp [g3, g4]
    refine f_intro (fun j1 => ?_) (fun j1 => ?_)
    · have hw : IntKind.i64.wrap (40 + (n : Int) + 1) = 40 + ((n + 1 : Nat) : Int) := by rw [wrap_i64 (by omega) (by omega)]; omega
      simp [g2, g4]
      refine ref4_has ?_
      by_cases hm2 : (40 + (n : Int)) ∈ placesOf l
      · simp [hm2, g2, g3, g4]
        refine ⟨n + 1, ⟨.inr (by omega), hw, ?_⟩, by omega⟩
        rw [freeTo_succ, if_pos hm2]
        exact g6
      · simp [hm2, g3, g4]
        rcases g6 with ⟨g6, g7⟩ | ⟨a, a2, g6, g7⟩
        · simp [g2, g3, g6, g4]
          refine ⟨n + 1, ⟨.inr (by omega), hw, ?_⟩, by omega⟩
          rw [freeTo_succ, if_neg hm2, g7]
          exact ⟨S.next, by omega, ⟨rfl, rfl⟩, by simp [inD]⟩
        · have hle := freeTo_length (l := l) (n := n)
          simp [g2, g3, g6, g7, g4]
          refine ⟨by omega, n + 1, ⟨.inr (by omega), hw, ?_⟩, by omega⟩
          rw [freeTo_succ, if_neg hm2]
          exact ⟨S.next, by omega, ⟨rfl, by simp⟩, by simp [inD]⟩
    · have hn : freeOf l many = freeTo l n := by
        unfold freeOf
        congr 1
        rcases g1 with g1 | g1 <;> omega
      simp
      rcases g6 with ⟨g6, g7⟩ | ⟨a, a2, g6, g7⟩
      · simp [g6]
        rw [hn, g7] at h
        exact h
      · simp [g6, g7]
        rw [hn] at h
        exact h
theorem ref4_Ints {l k : List Int} {Q : LV → Prop} (h : Q (.d (.bool (decide (l = k))))) : VQ cf 35 [.sl (inD l), .sl (inD k)] Q := by
  refine V_intro rfl (S_intro Try.func35 rfl rfl (Nat.le_of_ble_eq_true rfl) ?_)
  simp
  intro hl hk
  refine f_intro (fun k3 => ?_) (fun k3 => ?_)
  · simp [k3]
    have k3' : l.length = k.length := by omega
    refine X_loop (fun (i : Nat) e S => i ≤ l.length ∧ e 0 = .d (.sl (inD l)) ∧ e 1 = .d (.sl (inD k)) ∧ e 5 = .d (.int .i64 i) ∧ ∀ j < i, nth l j = nth k j) (fun i => l.length - i) 0 ?_ ?_
    · simp
    · intro i e S hI
      obtain ⟨h1, h2, h3, h4, h7⟩ := hI
      simp [h2, h4, hl]
      refine f_intro (fun j1 => ?_) (fun j1 => ?_)
      · simp
        refine X_draw (by decide) ?_
        simp [h2, h3, h4]
        refine ⟨by omega, by omega, f_intro (fun j2 => ?_) (fun j2 => ?_)⟩
        · simp [j2, h2, h3, h4]
          refine ⟨i + 1, ⟨by omega, wrap_i64 (by omega) (by omega), fun j hj => ?_⟩, by omega⟩
          by_cases hji : j = i
          · subst hji; exact j2
          · exact h7 j (by omega)
        · simp [j2]
          have hne : ¬ l = k := fun e => j2 (by rw [e])
          simpa [hne] using h
      · have hi : i = l.length := by omega
        subst hi
        simp
        have heq : l = k := by
          apply List.ext_getElem?
          intro j
          by_cases hj : j < l.length
          · rw [nth_get hj, nth_get (by omega), h7 j hj]
          · rw [nth_none hj, nth_none (by omega)]
        simpa [heq] using h
  · simp [k3]
    have hne : ¬ l = k := fun e => k3 (by rw [e])
    simpa [hne] using h
/-- so many of these, if there are so many -/
def takeOf (f : List Int) (want : Int) : List Int × Bool := if want < 0 ∨ (f.length : Int) < want then ([], false) else (f.take want.toNat, true)
def takeD (r : List Int × Bool) : LV := .tup [.d (.sl (inD r.1)), .d (.bool r.2)]
theorem room_Take {l : List Nd} {many want : Int} {Q : LV → Prop} (hz : ∀ x ∈ l, x.size ≤ 9223372036854775807) (h : Q (takeD (takeOf (if roomIs l many = true then freeOf l many else []) want))) : VQ cf 33 [.sl (rowD ndD l), .int .i64 many, .int .i64 want] Q := by
  refine V_intro rfl (S_intro Try.func33 rfl rfl (Nat.le_of_ble_eq_true rfl) ?_)
  simp
  refine room_Free hz ?_
  generalize (if roomIs l many = true then freeOf l many else []) = f at h
  simp
  refine f_intro (fun k1 => ?_) (fun k1 => ?_)
  · simp [k1]
    simpa [takeOf, takeD, k1, inD_nil] using h
  · simp [k1]
    intro hf
    refine f_intro (fun k2 => ?_) (fun k2 => ?_)
    · simp [k2]
      simpa [takeOf, takeD, k2, inD_nil] using h
    · simp [k2]
      refine ⟨by omega, ?_⟩
      simpa [takeOf, takeD, k1, k2] using h
theorem ref4_Take {l : List Nd} {many want : Int} {Q : LV → Prop} (hm : many ≤ 2000) (h : Q (takeD (takeOf (freeOf l many) want))) : VQ cf 34 [.sl (rowD ndD l), .int .i64 many, .int .i64 want] Q := by
  refine V_intro rfl (S_intro Try.func34 rfl rfl (Nat.le_of_ble_eq_true rfl) ?_)
  simp
  refine ref4_Free hm ?_
  generalize freeOf l many = f at h
  simp
  refine f_intro (fun k1 => ?_) (fun k1 => ?_)
  · simp [k1]
    simpa [takeOf, takeD, k1, inD_nil] using h
  · simp [k1]
    intro hf
    refine f_intro (fun k2 => ?_) (fun k2 => ?_)
    · simp [k2]
      simpa [takeOf, takeD, k2, inD_nil] using h
    · simp [k2]
      refine ⟨by omega, ?_⟩
      simpa [takeOf, takeD, k1, k2] using h
end Go.VM
