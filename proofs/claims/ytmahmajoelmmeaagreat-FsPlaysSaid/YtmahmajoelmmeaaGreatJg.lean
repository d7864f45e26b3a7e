/- Chapter 2: a disk that crashes somewhere: what stands on it behind that. No condition. -/
import Derived.Test.YtmahmajoelmmeaaGreatJs
section
namespace Go.VM
open Go.Proofs
set_option maxRecDepth 4000
attribute [-simp] Int.not_lt Int.not_le Nat.not_lt Nat.not_le
def Dk.V (d : Dk) (i : Nat) : List UInt8 := nth d.lasts i
structure Came (d : Dk) (l : List Wr) (r : Int × Dk) : Prop where
 len : r.2.lasts.length = d.lasts.length
 wait : r.2.waits = []
 how : (r.1 = 0 ∧ r.2.down = false ∧ ∀ i, i < d.lasts.length → r.2.V i = over (d.waits ++ l) i (d.V i)) ∨
  (r.1 = 6 ∧ r.2.down = true ∧ ∀ i, i < d.lasts.length → r.2.V i = d.V i ∨ ∃ w ∈ d.waits ++ l, w.pos = i ∧ r.2.V i = w.data)
structure Sett (d : Dk) : Prop where
 wait : d.waits = []
 big : 157 < d.lasts.length ∧ d.lasts.length ≤ 2000
 sign : d.V 0 = sect [97, 112, 115, 116]
def Rest (c : Nat → List UInt8) (d : Dk) : Prop := Sett d ∧ d.V 1 = sect [] ∧ ∀ i, 157 + i < d.lasts.length → d.V (157 + i) = c i
structure Valid (l : List Wr) (N : Nat) : Prop where
 few : l.length ≤ 150
 each : ∀ k, k < l.length → 0 ≤ (nth l k).pos ∧ 157 + (nth l k).pos < N ∧ (nth l k).data.length = 64
 apart : ∀ j k, j < l.length → k < l.length → j ≠ k → (nth l j).pos ≠ (nth l k).pos
end Go.VM
end
section
namespace Go.VM
open Go.Proofs
set_option maxRecDepth 4000
attribute [-simp] Int.not_lt Int.not_le Nat.not_lt Nat.not_le
structure BX (S : St) (x y : Obj) : Prop where
 o0 : S.obj 0 = x
 o1 : S.obj 1 = y
 nx : 2 ≤ S.next
theorem BX.mod {S S' : St} {x y : Obj} {id : Nat} (h : BX S x y) (hM : Mod S S' id) (hid : 2 ≤ id) : BX S' x y :=
 ⟨by rw [hM.1 0 (by have := h.nx; omega) (by omega)]; exact h.o0, by rw [hM.1 1 (by have := h.nx; omega) (by omega)]; exact h.o1, Nat.le_trans h.nx hM.2.1⟩
theorem jread_len {d : Dk} {n i : Nat} (hw : Ok d n) (hi : 157 + i < d.lasts.length) : (d.jread i).length = 64 := by
 have hm : d.many = (d.lasts.length : Int) - 157 := many_of (by omega)
 rw [Dk.jread, if_neg (by omega)]
 exact hw.wf.read (by omega) (by omega)
end Go.VM
end
