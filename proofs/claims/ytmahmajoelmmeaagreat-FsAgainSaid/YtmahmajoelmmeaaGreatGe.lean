/- Chapter 5: the document's files, laid. No condition. -/
import Derived.Test.YtmahmajoelmmeaaGreatGd
import Derived.Test.YtmahmajoelmmeaaGreatFm
namespace Go.VM
open Go.Proofs
set_option maxRecDepth 4000
attribute [-simp] Int.not_lt Int.not_le Nat.not_lt Nat.not_le
def laidF (fl : List Fl) : List Int → List Int → List Fl → Option (List Wr × List Fl)
 | _, _, [] => some ([], [])
 | s, f, x :: xs =>
  if x.put = false then (laidF fl s f xs).map fun p => (p.1, x :: p.2)
  else if (findF fl x.name < 0 ∧ s = []) ∨ f.length < needN x.data.length then none
  else
   let y := x.laid x.name (if 0 ≤ findF fl x.name then (nth fl (findF fl x.name).toNat).slot else nth s 0) (f.take (needN x.data.length))
   (laidF fl (if 0 ≤ findF fl x.name then s else s.drop 1) (f.drop (needN x.data.length)) xs).map fun p =>
    (sectW x.data (f.take (needN x.data.length)) (needN x.data.length) ++ [⟨y.slot, ndBytes y.nd⟩] ++ p.1, y :: p.2)
def goneF (fl l : List Fl) : List Wr := (fl.filter fun x => decide (findF l x.name < 0)).map fun x => ⟨x.slot, zeros 64⟩
def Mod2 (S S' : St) (id a : Nat) : Prop := (∀ j, j < S.next → j ≠ id → j ≠ a → S'.obj j = S.obj j) ∧ S.next ≤ S'.next ∧ S.clk ≤ S'.clk ∧ S'.esc = S.esc
theorem Mod2.refl (S : St) (id a : Nat) : Mod2 S S id a := ⟨fun _ _ _ _ => rfl, Nat.le_refl _, Nat.le_refl _, rfl⟩
theorem Mod2.of {S0 S S' : St} {id a : Nat} (h : Mod2 S0 S id a) (ho : ∀ j, j < S0.next → j ≠ id → j ≠ a → S'.obj j = S.obj j) (hn : S.next ≤ S'.next) (hc : S.clk ≤ S'.clk) (he : S'.esc = S.esc) : Mod2 S0 S' id a :=
 ⟨fun j h1 h2 h3 => (ho j h1 h2 h3).trans (h.1 j h1 h2 h3), Nat.le_trans h.2.1 hn, Nat.le_trans h.2.2.1 hc, he.trans h.2.2.2⟩
def cutQ (E : Env → St → Prop) (K : Ex → Env → St → Prop) : Ex → Env → St → Prop := fun x e S => match x with
 | .normal => E e S
 | x => K x e S
theorem cutQ_n {E : Env → St → Prop} {K : Ex → Env → St → Prop} {e : Env} {S : St} : cutQ E K .normal e S ↔ E e S := Iff.rfl
theorem cutQ_r {E : Env → St → Prop} {K : Ex → Env → St → Prop} {e : Env} {S : St} : cutQ E K .ret e S ↔ K .ret e S := Iff.rfl
theorem cutQ_e {E : Env → St → Prop} {K : Ex → Env → St → Prop} {e : Env} {S : St} {k : Nat} : cutQ E K (.exit k) e S ↔ K (.exit k) e S := Iff.rfl
attribute [simp] cutQ_n cutQ_r cutQ_e
theorem PX_seqcut {x y : Code} {t : Tag (Code.seq x y)} {e : Env} {S : St} {K : Ex → Env → St → Prop} (E : Env → St → Prop) (hx : PX cf (hold x .mk) e S (cutQ E K)) (hy : ∀ e' S', E e' S' → PX cf (hold y .mk) e' S' K) : PX cf (hold (.seq x y) t) e S K := by
 refine PX_seq.2 (PX_mono hx fun ex e' S' h => ?_)
 cases ex with
 | normal => exact hy e' S' h
 | exit k => exact h
 | ret => exact h
theorem NewSl.up {S0 S S' : St} {v : LV} {sz : Nat} {xs : List D} (h : NewSl S0 S v sz xs) (ho : ∀ j, S0.next ≤ j → j < S.next → S'.obj j = S.obj j) (hn : S.next ≤ S'.next) : NewSl S0 S' v sz xs := by
 rcases h with h | ⟨i, h1, h2, h3, h4⟩
 ·exact .inl h
 ·exact .inr ⟨i, h1, by omega, h3, (ho i h1 h2).trans h4⟩
end Go.VM
