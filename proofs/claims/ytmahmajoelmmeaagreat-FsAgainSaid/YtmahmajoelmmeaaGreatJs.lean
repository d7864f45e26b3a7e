/- Chapter 2: the reference opens, and commits. No condition. -/
import Derived.Test.YtmahmajoelmmeaaGreatJr
section
namespace Go.VM
open Go.Proofs
set_option maxRecDepth 4000
attribute [-simp] Int.not_lt Int.not_le Nat.not_lt Nat.not_le
end Go.VM
end
section
namespace Go.VM
open Go.Proofs
set_option maxRecDepth 4000
attribute [-simp] Int.not_lt Int.not_le Nat.not_lt Nat.not_le
theorem mem_poss {l : List Wr} {p : Int} {k : Nat} (hk : k ≤ l.length) : p ∈ poss (l.take k) ↔ ∃ j, j < k ∧ (nth l j).pos = p := by
 simp only [poss, List.mem_map];constructor
 ·rintro ⟨w, hw, rfl⟩;obtain ⟨j, hj, rfl⟩ := List.getElem_of_mem hw;have hj2 : j < k := by simp at hj; omega
  exact ⟨j, hj2, by simp [nth, show j < l.length by omega]⟩
 ·rintro ⟨j, hj, rfl⟩;refine ⟨nth l j, ?_, rfl⟩;have : j < (l.take k).length := by simp; omega
  have e : nth l j = (l.take k)[j] := by simp [nth, show j < l.length by omega]
  rw [e]; exact List.getElem_mem this
theorem NewSl.growL {S0 S : St} {v : LV} {sz b : Nat} {xs ys zs : List D} {K : LV → St → List Nat → List Nat → Prop} (hv : NewSl S0 S v sz xs) (hn : S0.next ≤ S.next) (hz : xs ++ ys = zs) (hf : fits zs.length b)
  (h : ∀ i S' r w, S'.obj i = .arr sz zs false → S0.next ≤ i → i < S'.next → (Kept S0 S → Kept S0 S') → S.next ≤ S'.next → S'.clk = S.clk → (∀ j, j < S.next → (∀ c, v ≠ .ar (.arr j) sz 0 c) → S'.obj j = S.obj j) → S'.esc = S.esc → i ≥ S.next → S'.next ≤ S.next + 1 → K (.ar (.arr i) sz 0 zs.length) S' r w) : TL (growT sz b v ys) S K := by
 have key : TQ (growT sz b v ys) S fun v' S' => S'.next ≤ S.next + 1 → K v' S' ((growT sz b v ys).log S).1 ((growT sz b v ys).log S).2 :=
  NewSl.grow hv hn hz hf fun i S' a1 a2 a3 a4 a5 a6 a7 a8 a9 a10 => h i S' _ _ a1 a2 a3 a4 a5 a6 a7 a8 a9 a10
 have bound : ∀ v' S', (growT sz b v ys).run S = .ok (v', S') → S'.next ≤ S.next + 1 := by
  intro v' S' hr;rcases hv with ⟨rfl, rfl⟩ | ⟨i0, h1, h2, rfl, h4⟩
  ·rw [grow_lit0] at hr;split at hr
   ·cases hr; simp
   ·cases hr
  ·rw [grow_ar, if_pos rfl, arrT_arr] at hr;simp only [T.run, h4, onArr_arr, Bool.false_eq_true, if_false] at hr;split at hr
   ·cases hr; simp [St.set, St.alloc]
   ·cases hr
 unfold TQ at key;unfold TL
 cases hr : (growT sz b v ys).run S with
 | ok q => rw [hr] at key; exact key (bound q.1 q.2 hr)
 | no => rw [hr] at key; exact key
 | vac => trivial
theorem NewSl.shift {S0 S S1 : St} {v : LV} {sz : Nat} {xs : List D} (h : NewSl S0 S v sz xs) (ho : S1.obj = S.obj) (hn : S.next ≤ S1.next) : NewSl S0 S1 v sz xs := by
 rcases h with h | ⟨i, h1, h2, h3, h4⟩
 ·exact .inl h
 ·exact .inr ⟨i, h1, Nat.lt_of_lt_of_le h2 hn, h3, by rw [ho]; exact h4⟩
def Apart (v u : LV) : Prop := ∀ i sz c sz' c', v = .ar (.arr i) sz 0 c → u ≠ .ar (.arr i) sz' 0 c'
theorem Apart.symm {v u : LV} (h : Apart v u) : Apart u v := fun i sz c sz' c' e1 e2 => h i sz' c' sz c e2 e1
theorem Apart.lit {u : LV} {xs : List D} : Apart (.lit xs) u := fun i sz c sz' c' e => by cases e
theorem NewSl.apart {S0 S : St} {u : LV} {sz sz' i c : Nat} {xs : List D} (h : NewSl S0 S u sz xs) (hi : S.next ≤ i) : Apart (.ar (.arr i) sz' 0 c) u := by
 intro j s1 c1 s2 c2 e1 e2
 cases e1
 rcases h with ⟨rfl, _⟩ | ⟨k, h1, h2, rfl, h4⟩
 ·cases e2
 ·cases e2; omega
theorem NewSl.lend {S0 S : St} {v : LV} {sz : Nat} {xs : List D} {Q : LV → St → Prop} (hv : NewSl S0 S v sz xs)
  (h : ∀ S', (Kept S0 S → Kept S0 S') → S'.next = S.next → (∀ j, (∀ c, v ≠ .ar (.arr j) sz 0 c) → S'.obj j = S.obj j) → S'.clk = S.clk ∧ S'.esc = S.esc → Q (.d (.sl xs)) S') : TQ (lend v) S Q := by
 rcases hv with ⟨rfl, rfl⟩ | ⟨i0, h1, h2, rfl, h4⟩
 ·exact h S (fun hK => hK) rfl (fun _ _ => rfl) ⟨rfl, rfl⟩
 ·simp [h4];exact h _ (fun hK => hK.set h1) (by simp) (fun j hj => by
   have : ¬ j = i0 := fun e => hj xs.length (by rw [e])
   simp [this]) ⟨rfl, rfl⟩
theorem NewSl.mod {S0 S S' : St} {id : Nat} {v : LV} {sz : Nat} {xs : List D} (hv : NewSl S0 S v sz xs) (hM : Mod S S' id) (hid : id < S0.next) : NewSl S0 S' v sz xs := by
 rcases hv with h | ⟨i, h1, h2, h3, h4⟩
 ·exact .inl h
 ·exact .inr ⟨i, h1, Nat.lt_of_lt_of_le h2 hM.2.1, h3, by rw [hM.1 i h2 (by omega)]; exact h4⟩
end Go.VM
end
section
namespace Go.VM
open Go.Proofs
set_option maxRecDepth 4000
attribute [-simp] Int.not_lt Int.not_le Nat.not_lt Nat.not_le
end Go.VM
end
