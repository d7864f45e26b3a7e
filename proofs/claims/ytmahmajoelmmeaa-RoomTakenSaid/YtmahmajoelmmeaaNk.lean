/- Chapter 3: nodes that may not be, by hand. No condition. -/
import Derived.Test.YtmahmajoelmmeaaNl
namespace Go.VM
open Go.Proofs
set_option maxRecDepth 4000
attribute [-simp] Int.not_lt Int.not_le Nat.not_lt Nat.not_le
def ndIs (x : Nd) : Bool := nodeIs x.name x.size x.places
theorem node_IsN {x : Nd} {Q : LV → Prop} (hn : x.size ≤ 9223372036854775807) (h : Q (.d (.bool (ndIs x)))) : VQ cf 26 [ndD x] Q := node_Is hn h
theorem ref3_IsN {x : Nd} {Q : LV → Prop} (hn : x.size ≤ 9223372036854775807) (h : Q (.d (.bool (ndIs x)))) : VQ cf 24 [ndD x] Q := ref3_Is hn h
def bads : List Nd := [⟨[], 0, []⟩,
  ⟨[97, 32, 98], 0, []⟩,
  ⟨[97], 1, []⟩,
  ⟨[97], 0, [40]⟩,
  ⟨[97], 128, [50, 50]⟩,
  ⟨[97], 1, [65536]⟩,
  ⟨[97], -1, []⟩,
  ⟨[97], 601, [1, 2, 3, 4, 5, 6, 7, 8, 9, 10]⟩,
  ⟨[48, 49, 50, 51, 52, 53, 54, 55, 56, 57, 48, 49, 50, 51, 52, 53, 54, 55, 56, 57, 48, 49, 50, 51, 52, 53, 54, 55, 56, 57, 48, 49, 50, 51, 52, 53, 54, 55, 56, 57, 120], 0, []⟩]
theorem law_NodeKnown {way : Int} : VQ cf 5 [.int .i64 way] fun v => v = .d (.bool true) := by
  refine V_intro rfl (S_intro Try.func5 rfl rfl (Nat.le_of_ble_eq_true rfl) ?_)
  simp
  refine f_intro (fun k1 => ?_) (fun k1 => ?_)
  · simp [k1]
  · simp [k1]
    refine f_intro (fun k2 => ?_) (fun k2 => ?_)
    · simp [k2]
    · simp [k2]
      have hw : way = 0 ∨ way = 1 ∨ way = 2 ∨ way = 3 ∨ way = 4 ∨ way = 5 ∨ way = 6 ∨ way = 7 ∨ way = 8 := by omega
      rcases hw with rfl | rfl | rfl | rfl | rfl | rfl | rfl | rfl | rfl
      · simp [elemOf]
        refine node_IsN (x := nth bads 0) (by decide) ?_
        simp [elemOf, show ndIs (nth bads 0) = false from by decide]
        refine node_BytesN (x := nth bads 0) (by decide) ?_
        simp [show ndBytes (nth bads 0) = [] from by decide]
        exact law3_known (by simp)
      · simp [elemOf]
        refine node_IsN (x := nth bads 1) (by decide) ?_
        simp [elemOf, show ndIs (nth bads 1) = false from by decide]
        refine node_BytesN (x := nth bads 1) (by decide) ?_
        simp [show ndBytes (nth bads 1) = [] from by decide]
        exact law3_known (by simp)
      · simp [elemOf]
        refine node_IsN (x := nth bads 2) (by decide) ?_
        simp [elemOf, show ndIs (nth bads 2) = false from by decide]
        refine node_BytesN (x := nth bads 2) (by decide) ?_
        simp [show ndBytes (nth bads 2) = [] from by decide]
        exact law3_known (by simp)
      · simp [elemOf]
        refine node_IsN (x := nth bads 3) (by decide) ?_
        simp [elemOf, show ndIs (nth bads 3) = false from by decide]
        refine node_BytesN (x := nth bads 3) (by decide) ?_
        simp [show ndBytes (nth bads 3) = [] from by decide]
        exact law3_known (by simp)
      · simp [elemOf]
        refine node_IsN (x := nth bads 4) (by decide) ?_
        simp [elemOf, show ndIs (nth bads 4) = false from by decide]
        refine node_BytesN (x := nth bads 4) (by decide) ?_
        simp [show ndBytes (nth bads 4) = [] from by decide]
        exact law3_known (by simp)
      · simp [elemOf]
        refine node_IsN (x := nth bads 5) (by decide) ?_
        simp [elemOf, show ndIs (nth bads 5) = false from by decide]
        refine node_BytesN (x := nth bads 5) (by decide) ?_
        simp [show ndBytes (nth bads 5) = [] from by decide]
        exact law3_known (by simp)
      · simp [elemOf]
        refine node_IsN (x := nth bads 6) (by decide) ?_
        simp [elemOf, show ndIs (nth bads 6) = false from by decide]
        refine node_BytesN (x := nth bads 6) (by decide) ?_
        simp [show ndBytes (nth bads 6) = [] from by decide]
        exact law3_known (by simp)
      · simp [elemOf]
        refine node_IsN (x := nth bads 7) (by decide) ?_
        simp [elemOf, show ndIs (nth bads 7) = false from by decide]
        refine node_BytesN (x := nth bads 7) (by decide) ?_
        simp [show ndBytes (nth bads 7) = [] from by decide]
        exact law3_known (by simp)
      · simp [elemOf]
        refine node_IsN (x := nth bads 8) (by decide) ?_
        simp [elemOf, show ndIs (nth bads 8) = false from by decide]
        refine node_BytesN (x := nth bads 8) (by decide) ?_
        simp [show ndBytes (nth bads 8) = [] from by decide]
        exact law3_known (by simp)
end Go.VM
