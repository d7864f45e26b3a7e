/- Chapter 1: a disk's methods where the order is open; the laws. No condition. -/
import Derived.Test.YtmahmajoelmmeaaGreatDv
section
namespace Go.VM
open Go.Proofs
set_option maxRecDepth 4000
attribute [-simp] Int.not_lt Int.not_le Nat.not_lt Nat.not_le
theorem IsD.refs {S : St} {id : Nat} {d : Dk} (h : IsD S id d) : objRefs (S.obj id) = [] ∧ ∀ R, objTame R (S.obj id) = true := by
 obtain ⟨_, c0, c1, c3, h1, h2, h3, _, h5⟩ := h;rw [h1];refine ⟨by simp [h2.tame.1, h3.tame.1, h5.1], fun R => by simp [h2.tame.2 R, h3.tame.2 R, h5.2 R]⟩
theorem IsD.stamp {S S' : St} {id k : Nat} {d : Dk} (h : IsD S id d) (ho : S'.obj id = stampO k (S.obj id)) (hn : id < S'.next) : IsD S' id d := by
 obtain ⟨_, c0, c1, c3, h1, h2, h3, h4, h5⟩ := h;refine ⟨hn, Go.VM.stamp k c0, Go.VM.stamp k c1, Go.VM.stamp k c3, ?_, h2.stamp k, h3.stamp k, fun a b => (h4 a b).stamp k, h5.stamp k⟩;rw [ho, h1];rfl
theorem IsD.small {S : St} {id : Nat} {d : Dk} (h : IsD S id d) : IsD (small [(id, S.obj id)]) id d := h.of (by simp) (by simp)
theorem ShD_D {f : FuncId} {ls : List LV} {S : St} {id : Nat} {d d' : Dk} {x : D} {K : LV → St → List Nat → List Nat → Prop} (hI : IsD S id d) (hr : ls.flatMap refs = [id]) (ha : ls.all (argTame [id]) = true)
  (h : ∀ S0, IsD S0 id d → SQ cf f ls S0 fun r S1 => IsD S1 id d' ∧ closeV r = .ret (.d x))
  (hK : ∀ S2, IsD S2 id d' → (∀ j, j ≠ id → S2.obj j = S.obj j) → S2.next = S.next → S2.clk = S.clk + 1 → S2.esc = S.esc → K (.d x) S2 [id] [id]) : ShD cf f ls S K := by
 refine ShD_1 hr rfl hI.refs.1 (hI.refs.2 _) ha ?_;obtain ⟨n, hn⟩ := h _ hI.small;refine ⟨n, holds_mono (fun r hr => ?_) hn⟩;obtain ⟨h1, h2⟩ := hr;rw [h2];refine ⟨rfl, h1.refs.2 _, hK _ ?_ (fun j hj => by simp [hj]) rfl rfl rfl⟩
 refine h1.stamp (k := S.clk) ?_ hI.1;show (if id = id then _ else _) = _;rw [if_pos rfl]
theorem close_d {x : D} (h : x.one = true) : closeV (.d x) = .ret (.d x) := by cases x <;> first | rfl | cases h
def sect (b : List UInt8) : List UInt8 := b.take 64 ++ zeros (64 - b.length)
theorem sect_length (b : List UInt8) : (sect b).length = 64 := by simp [sect]; omega
def sectTo (b : List UInt8) (i : Nat) : List UInt8 := (List.range i).foldl (fun x k => x.set k (nth b k)) (zeros 64)
theorem sectTo_succ {b : List UInt8} {i : Nat} : sectTo b (i + 1) = (sectTo b i).set i (nth b i) := by simp [sectTo, List.range_succ]
theorem sectTo_length {b : List UInt8} {i : Nat} : (sectTo b i).length = 64 := by
 induction i with
 | zero => simp [sectTo]
 | succ i ih => rw [sectTo_succ, List.length_set, ih]
theorem sectTo_get {b : List UInt8} : ∀ i, i ≤ 64 → i ≤ b.length → ∀ k, (sectTo b i)[k]? = if k < i then some (nth b k) else (zeros 64)[k]? := by
 intro i
 induction i with
 | zero => intro _ _ k; simp [sectTo]
 | succ i ih =>
  intro h1 h2 k;rw [sectTo_succ, List.getElem?_set, sectTo_length];by_cases hk : i = k
  ·subst hk; simp; omega
  ·rw [if_neg hk, ih (by omega) (by omega)]
   by_cases h3 : k < i
   ·rw [if_pos h3, if_pos (by omega)]
   ·rw [if_neg h3, if_neg (by omega)]
theorem sectTo_all {b : List UInt8} {i : Nat} (h1 : i ≤ 64) (h2 : i ≤ b.length) (h3 : ¬ (i < b.length ∧ i < 64)) : sectTo b i = sect b := by
 apply List.ext_getElem?
 intro k;rw [sectTo_get i h1 h2];unfold sect;by_cases hk : k < i
 ·rw [if_pos hk, List.getElem?_append_left (by simp; omega), List.getElem?_take, if_pos (by omega), nth_get (by omega)]
 ·rw [if_neg hk, List.getElem?_append_right (by simp; omega)]
  simp only [zeros, List.getElem?_replicate, List.length_take];split <;> split <;> first | rfl | omega
theorem conv_lits {P : Program} {t : TypeId} {y : D} {ys : List D} (hs : (P.underlying t).isSome = true) (hd : tyStr P t = false) (hb : tyBy P t = true) : convertT P t t (.lit (y :: ys)) = .ret (.lit (y :: ys)) := by
 simp [convertT, hs, hd, hb]
attribute [simp] conv_lits
end Go.VM
end
section
namespace Go.VM
open Go.Proofs
set_option maxRecDepth 4000
attribute [-simp] Int.not_lt Int.not_le Nat.not_lt Nat.not_le
theorem new_wf {k n : Nat} (hk : k ≤ 2000) (hn : n ≤ 1000000) : WfD (Dk.new k) n :=
 ⟨by simpa [Dk.new] using hk, fun b hb => by simp [Dk.new] at hb; rw [hb.2]; simp, fun w hw => by simp [Dk.new] at hw, by simpa [Dk.new] using hn, by simp [Dk.new]; omega⟩
theorem WfD.less {d : Dk} {n m : Nat} (h : WfD d n) (k : m ≤ n) : WfD d m := ⟨h.many, h.last, h.wait, by have := h.few; omega, ⟨h.ops.1, by have := h.ops.2; omega⟩⟩
theorem WfD.arm {d : Dk} {n : Nat} {c : Cr} (h : WfD d n) : WfD (d.arm c) n := ⟨h.many, h.last, h.wait, h.few, h.ops⟩
theorem WfD.restart {d : Dk} {n m : Nat} (h : WfD d n) (hm : m ≤ 1000000) : WfD d.restart m := ⟨h.many, h.last, fun w hw => by simp [Dk.restart] at hw, by simpa [Dk.restart] using hm, by simp [Dk.restart]; omega⟩
theorem WfD.write {d : Dk} {n : Nat} {i : Int} {b : List UInt8} (h : WfD d (n + 1)) : WfD (d.write i b).2 n := by
 unfold Dk.write;split
 ·exact h.less (by omega)
 ·split
  ·exact h.less (by omega)
  ·rename_i hc;have hf := Dk.falls_wf h;have hl : d.falls.2.waits.length ≤ d.waits.length := by
    unfold Dk.falls;split
    ·exact Nat.le_refl _
    ·exact Nat.zero_le _
   split
   ·exact hf
   ·refine ⟨hf.many, hf.last, fun w hw => ?_, ?_, hf.ops⟩
    ·rcases List.mem_append.1 hw with hw | hw
     ·exact hf.wait w hw
     ·simp at hw; subst hw;have h1 : d.has i = true ∧ b.length = 64 := by
       constructor
       ·cases hh : d.has i with
        | true => rfl
        | false => exact absurd (.inl hh) hc
       ·by_cases hb : b.length = 64
        ·exact hb
        ·exact absurd (.inr hb) hc
      have h2 : 0 ≤ i ∧ i < d.lasts.length := by simpa [Dk.has] using h1.1
      refine ⟨?_, h1.2⟩;show 0 ≤ i ∧ i < d.falls.2.lasts.length;rw [Dk.falls_len]; exact h2
    ·have := h.few;simp only [List.length_append, List.length_cons, List.length_nil]; omega
theorem WfD.last' {d : Dk} {n : Nat} {k : Nat → Bool} (h : WfD d n) : WfD (d.last k) n := by
 have key : ∀ m, m ≤ d.waits.length → ∀ b ∈ land k d.waits d.lasts m, b.length = 64 := by
  intro m
  induction m with
  | zero => intro _; exact h.last
  | succ m ih =>
   intro hm b hb;rw [land_succ] at hb;split at hb
   ·rcases List.mem_or_eq_of_mem_set hb with hb | hb
    ·exact ih (by omega) b hb
    ·rw [hb]; exact (h.wait _ (nth_mem (by omega))).2
   ·exact ih (by omega) b hb
 exact ⟨by show (land _ _ _ _).length ≤ 2000; rw [land_length]; exact h.many, key _ (Nat.le_refl _), fun w hw => by simp [Dk.last] at hw, by have := h.few; simp [Dk.last]; omega, h.ops⟩
theorem WfD.flush {d : Dk} {n : Nat} (h : WfD d (n + 1)) : WfD d.flush.2 n := by
 unfold Dk.flush;split
 ·exact h.less (by omega)
 ·split
  ·exact Dk.falls_wf h
  ·exact (Dk.falls_wf h).last'
end Go.VM
end
