/- Chapter 5: what the document does, all or none. No condition. -/
import Derived.Test.YtmahmajoelmmeaaGreatGe
namespace Go.VM
open Go.Proofs
set_option maxRecDepth 4000
attribute [-simp] Int.not_lt Int.not_le Nat.not_lt Nat.not_le
theorem mem_eraF {l : List Fl} {k : Nat} {x : Fl} (h : x ∈ eraF l k) : x ∈ l := by
 rcases List.mem_append.1 h with h | h
 ·exact List.mem_of_mem_take h
 ·exact List.mem_of_mem_drop h
theorem eraF_le {l : List Fl} {k : Nat} : (eraF l k).length ≤ l.length := by simp [eraF]; omega
theorem aft1_len {l : List Fl} {o : FOp} : (aft1 l o).2.length ≤ l.length + 1 := by
 unfold aft1;have := eraF_le (l := l) (k := (findF l o.name).toNat);split
 ·split
  ·simp
  ·show (eraF _ _).length ≤ _; omega
 ·split
  ·simp
  ·show (insF _ _).length ≤ _;rw [insF_length];split <;> omega
theorem aftF_len {l : List Fl} {ops : List FOp} : (aftF l ops).2.length ≤ l.length + ops.length := by
 induction ops generalizing l with
 | nil => exact Nat.le_refl _
 | cons o os ih =>
  show (if (aft1 l o).1 = 0 then aftF (aft1 l o).2 os else aft1 l o).2.length ≤ _;have h1 := aft1_len (l := l) (o := o);have h2 := ih (l := (aft1 l o).2);simp only [List.length_cons];split <;> omega
def doR (fl : List Fl) (many : Int) (ops : List FOp) : Int × List Wr × List Fl :=
 if (aftF fl ops).1 ≠ 0 then ((aftF fl ops).1, [], fl)
 else match laidF fl (slotsTo fl 40) (freeOf (gnodes fl) many) (aftF fl ops).2 with
  | none => (5, [], fl)
  | some (w, l') => if 150 < (w ++ goneF fl l').length then (5, [], fl) else (0, w ++ goneF fl l', l')
end Go.VM
