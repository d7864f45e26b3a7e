/- Chapter 5: the document's files of a disk. No condition. -/
import Derived.Test.YtmahmajoelmmeaaGreatGf
namespace Go.VM
open Go.Proofs
set_option maxRecDepth 4000
attribute [-simp] Int.not_lt Int.not_le Nat.not_lt Nat.not_le
theorem ref5_Format {S : St} {id n : Nat} {d : Dk} {Q : LV → St → Prop} (hI : IsR S id d) (hw : Ok d (n + 3000))
  (h : ∀ S', IsR S' id (if d.many < 41 then d else d.format.2) → Mod S S' id → Q (.d (.int .i64 (if d.many < 41 then 5 else d.format.1))) S') : SQ cf 32 [.ptr id 0] S Q := by
 refine S_intro Tryz.func32 rfl rfl (Nat.le_of_ble_eq_true rfl) ?_;simp;refine ref2_Many hI hw.wf.many ?_;simp;refine f_intro (fun j1 => ?_) (fun j1 => ?_)
 ·rw [if_pos (by omega), if_pos (by omega)] at h
  simp;exact h _ hI (Mod.refl _ _)
 ·rw [if_neg (by omega), if_neg (by omega)] at h
  simp;refine ref2_Format hI hw fun S' h1 h2 => ?_;simp;exact h S' h1 h2
def HasSl (S : St) (id b : Nat) (v : LV) (sz : Nat) (xs : List D) : Prop := (v = .lit [] ∧ xs = []) ∨ ∃ i fz, (i < b ∧ i ≠ id) ∧ v = .ar (.arr i) sz 0 xs.length ∧ S.obj i = .arr sz xs fz
theorem HasSl.of {S S' : St} {id b : Nat} {v : LV} {sz : Nat} {xs : List D} (h : HasSl S id b v sz xs) (ho : ∀ j, j < b → j ≠ id → S'.obj j = S.obj j) : HasSl S' id b v sz xs := by
 rcases h with h | ⟨i, fz, h1, h2, h3⟩
 ·exact .inl h
 ·exact .inr ⟨i, fz, h1, h2, (ho i h1.1 h1.2).trans h3⟩
theorem NewSl.has {S S' : St} {id b : Nat} {v : LV} {sz : Nat} {xs : List D} (h : NewSl S S' v sz xs) (hb : S'.next ≤ b) (hi : id < S.next) : HasSl S' id b v sz xs := by
 rcases h with h | ⟨i, h1, h2, h3, h4⟩
 ·exact .inl h
 ·exact .inr ⟨i, false, ⟨by omega, by omega⟩, h3, h4⟩
end Go.VM
