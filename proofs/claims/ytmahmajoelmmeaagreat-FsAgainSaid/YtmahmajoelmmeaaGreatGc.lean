/- Chapter 5: the document's slots, data as sectors. No condition. -/
import Derived.Test.YtmahmajoelmmeaaGreatGa
import Derived.Test.YtmahmajoelmmeaaGreatFf
namespace Go.VM
open Go.Proofs
set_option maxRecDepth 4000
attribute [-simp] Int.not_lt Int.not_le Nat.not_lt Nat.not_le
def slotsTo (fl : List Fl) (n : Nat) : List Int := (rangeZ n).filter fun i => fl.all fun x => decide (x.slot ≠ i)
end Go.VM
