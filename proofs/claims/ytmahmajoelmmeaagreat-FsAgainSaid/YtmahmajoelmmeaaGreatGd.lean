/- Chapter 5: the document's files behind operations. No condition. -/
import Derived.Test.YtmahmajoelmmeaaGreatGc
namespace Go.VM
open Go.Proofs
set_option maxRecDepth 4000
attribute [-simp] Int.not_lt Int.not_le Nat.not_lt Nat.not_le
def eraF (l : List Fl) (k : Nat) : List Fl := l.take k ++ l.drop (k + 1)
def putF (o : FOp) : Fl := ⟨-1, o.name, o.data.length, [], o.data, true⟩
def aft1 (l : List Fl) (o : FOp) : Int × List Fl :=
 if o.drop = true then (if findF l o.name < 0 then (7, []) else (0, eraF l (findF l o.name).toNat))
 else if isName o.name = false ∨ 600 < o.data.length then (1, [])
 else (0, insF (if 0 ≤ findF l o.name then eraF l (findF l o.name).toNat else l) (putF o))
def aftF : List Fl → List FOp → Int × List Fl
 | l, [] => (0, l)
 | l, o :: os => if (aft1 l o).1 = 0 then aftF (aft1 l o).2 os else aft1 l o
theorem NewSl.peek {S S' : St} {v : LV} {sz : Nat} {xs : List D} {K : D → St → Prop} (hv : NewSl S S' v sz xs) (h : K (.sl xs) S') : TQ (Go.VM.peek v) S' K := by
 rcases hv with ⟨rfl, rfl⟩ | ⟨i, h1, h2, rfl, h4⟩
 ·exact h
 ·simpa [h4] using h
end Go.VM
