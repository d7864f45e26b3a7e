/- Chapter 5: the document's files: looking for one, one more. No condition. -/
import Derived.Test.YtmahmajoelmmeaaGreatFc
section
namespace Go.VM
open Go.Proofs
set_option maxRecDepth 4000
attribute [-simp] Int.not_lt Int.not_le Nat.not_lt Nat.not_le
def rfD (x : Fl) : D := .agg [.str x.name, .sl (byD x.data), .bool x.put, .int .i64 x.slot, .sl (inD x.places)]
theorem rfD_cells (x : Fl) : (rfD x).cells = [.str x.name, .sl (byD x.data), .bool x.put, .int .i64 x.slot, .sl (inD x.places)] := rfl
attribute [simp] rfD_cells
structure IsG (S : St) (gid id : Nat) (fl : List Fl) : Prop where
 lt : gid < S.next ∧ id ≠ gid
 cell : ∃ c, S.obj gid = .cells [.ptr id 0, c] ∧ SlC 5 c (rowD rfD fl)
theorem IsG.of {S S' : St} {gid id : Nat} {fl : List Fl} (h : IsG S gid id fl) (ho : S'.obj gid = S.obj gid) (hn : gid < S'.next) : IsG S' gid id fl := by
 obtain ⟨⟨_, h1⟩, c, h2, h3⟩ := h;exact ⟨⟨hn, h1⟩, c, ho.trans h2, h3⟩
def findF (l : List Fl) (n : List UInt8) : Int := match l.findIdx? fun x => decide (x.name = n) with
 | some i => i
 | none => -1
def insAt (l : List Fl) (n : List UInt8) : Nat := (l.takeWhile fun x => decide (x.name < n)).length
def insF (l : List Fl) (f : Fl) : List Fl := l.take (insAt l f.name) ++ [f] ++ l.drop (insAt l f.name)
theorem str_geq {P : Program} {t : TypeId} {a b : List UInt8} : binS P .geq t (.d (.str a)) (.d (.str b)) = .ok (.d (.bool (decide (b ≤ a)))) := by
 show Res.ok (LV.d (D.bool (!Op.bytesLess a b))) = _;rw [bytesLess_eq];congr 3;by_cases h : a < b
 ·have : ¬ b ≤ a := fun hn => hn h;simp [h, this]
 ·have : b ≤ a := h;simp [h, this]
attribute [simp] str_geq
theorem insF_length {l : List Fl} {f : Fl} : (insF l f).length = l.length + 1 := by
 have : insAt l f.name ≤ l.length := by unfold insAt; exact (List.takeWhile_sublist _).length_le
 simp [insF];omega
end Go.VM
end
section
namespace Go.VM
open Go.Proofs
set_option maxRecDepth 4000
attribute [-simp] Int.not_lt Int.not_le Nat.not_lt Nat.not_le
def Fl.gnd (x : Fl) : Nd := ⟨x.name, x.data.length, x.places⟩
def gnodes (fl : List Fl) : List Nd := fl.map Fl.gnd
theorem IsG.refs {S : St} {gid id : Nat} {fl : List Fl} (h : IsG S gid id fl) : objRefs (S.obj gid) = [id] ∧ ∀ R, R.elem id = true → objTame R (S.obj gid) = true := by
 obtain ⟨_, c, h1, h2⟩ := h;rw [h1];refine ⟨by simp [h2.tame.1], fun R hR => ?_⟩
 have h3 := h2.tame.2 R;have h4 : cellTame R (.ptr id 0) = true := hR;show ([LV.ptr id 0, c].all (cellTame R)) = true;rw [List.all_cons, List.all_cons, h3, h4]; rfl
end Go.VM
end
