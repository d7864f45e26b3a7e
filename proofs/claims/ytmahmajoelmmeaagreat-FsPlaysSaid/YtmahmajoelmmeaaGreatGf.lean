/- Chapter 5: what the document does, all or none. No condition. -/
import Derived.Test.YtmahmajoelmmeaaGreatGe
namespace Go.VM
open Go.Proofs
set_option maxRecDepth 4000
attribute [-simp] Int.not_lt Int.not_le Nat.not_lt Nat.not_le
theorem mem_eraF {l : List Fl} {k : Nat} {x : Fl} (h : x ∈ eraF l k) : x ∈ l := by
 rcases List.mem_append.1 h with h | h
 ·exact List.mem_of_mem_take h
 ·exact List.mem_of_mem_drop h
theorem mem_insF {l : List Fl} {f x : Fl} (h : x ∈ insF l f) : x ∈ l ∨ x = f := by
 unfold insF at h;simp only [List.mem_append, List.mem_singleton] at h;rcases h with (h | h) | h
 ·exact .inl (List.mem_of_mem_take h)
 ·exact .inr h
 ·exact .inl (List.mem_of_mem_drop h)
theorem eraF_le {l : List Fl} {k : Nat} : (eraF l k).length ≤ l.length := by simp [eraF]; omega
theorem aft1_len {l : List Fl} {o : FOp} : (aft1 l o).2.length ≤ l.length + 1 := by
 unfold aft1;have := eraF_le (l := l) (k := (findF l o.name).toNat);split
 ·split
  ·simp
  ·show (eraF _ _).length ≤ _; omega
 ·split
  ·simp
  ·show (insF _ _).length ≤ _;rw [insF_length];split <;> omega
theorem aft1_mem {l : List Fl} {o : FOp} {x : Fl} (h : x ∈ (aft1 l o).2) : x ∈ l ∨ x = putF o := by
 unfold aft1 at h;split at h
 ·split at h
  ·cases h
  ·exact .inl (mem_eraF h)
 ·split at h
  ·cases h
  ·rcases mem_insF h with h | h
   ·split at h
    ·exact .inl (mem_eraF h)
    ·exact .inl h
   ·exact .inr h
theorem aftF_len {l : List Fl} {ops : List FOp} : (aftF l ops).2.length ≤ l.length + ops.length := by
 induction ops generalizing l with
 | nil => exact Nat.le_refl _
 | cons o os ih =>
  show (if (aft1 l o).1 = 0 then aftF (aft1 l o).2 os else aft1 l o).2.length ≤ _;have h1 := aft1_len (l := l) (o := o);have h2 := ih (l := (aft1 l o).2);simp only [List.length_cons];split <;> omega
theorem aftF_data {l : List Fl} {ops : List FOp} {n : Nat} (h : ∀ x ∈ l, x.data.length ≤ n) (ho : ∀ o ∈ ops, o.data.length ≤ n) : ∀ x ∈ (aftF l ops).2, x.data.length ≤ n := by
 induction ops generalizing l with
 | nil => exact h
 | cons o os ih =>
  have h1 : ∀ x ∈ (aft1 l o).2, x.data.length ≤ n := fun x hx => by
   rcases aft1_mem hx with hx | rfl
   ·exact h x hx
   ·exact ho o (by simp)
  show ∀ x ∈ (if (aft1 l o).1 = 0 then aftF (aft1 l o).2 os else aft1 l o).2, _;split
  ·exact ih h1 fun o' h' => ho o' (by simp [h'])
  ·exact h1
def doR (fl : List Fl) (many : Int) (ops : List FOp) : Int × List Wr × List Fl :=
 if (aftF fl ops).1 ≠ 0 then ((aftF fl ops).1, [], fl)
 else match laidF fl (slotsTo fl 40) (freeOf (gnodes fl) many) (aftF fl ops).2 with
  | none => (5, [], fl)
  | some (w, l') => if 150 < (w ++ goneF fl l').length then (5, [], fl) else (0, w ++ goneF fl l', l')
def doE (d : Dk) (fl : List Fl) (ops : List FOp) : Int × Dk × List Fl :=
 if (doR fl d.many ops).1 ≠ 0 then ((doR fl d.many ops).1, d, fl)
 else if (d.commit (doR fl d.many ops).2.1).1 ≠ 0 then ((d.commit (doR fl d.many ops).2.1).1, (d.commit (doR fl d.many ops).2.1).2, fl)
 else (0, (d.commit (doR fl d.many ops).2.1).2, (doR fl d.many ops).2.2)
theorem laidF_len {fl : List Fl} {s f : List Int} {l : List Fl} {w : List Wr} {l' : List Fl} (h : laidF fl s f l = some (w, l')) : l'.length = l.length := by
 induction l generalizing s f w l' with
 | nil => cases h; rfl
 | cons x xs ih =>
  unfold laidF at h;split at h
  ·cases hx : laidF fl s f xs with
   | none => rw [hx] at h; cases h
   | some p =>
    rw [hx] at h
    cases h
    have := ih hx;simp [this]
  ·split at h
   ·cases h
   ·simp only [Option.map_eq_some_iff] at h;obtain ⟨p, hp, he⟩ := h;have := ih (w := p.1) (l' := p.2) hp
    cases he
    simp [this]
set_option maxHeartbeats 2000000 in
theorem ref5_Do {S : St} {gid id n : Nat} {fl : List Fl} {d : Dk} {ops : List FOp} {Q : LV → St → Prop} (hI : IsR S id d) (hF : IsG S gid id fl) (hl : fl.length ≤ 50000 ∧ ∀ x ∈ fl, x.data.length ≤ 1000000) (hw : Ok d (n + 320)) (hops : ops.length ≤ 50000 ∧ ∀ o ∈ ops, o.data.length ≤ 1000000)
  (h : ∀ S', IsR S' id (doE d fl ops).2.1 → IsG S' gid id (doE d fl ops).2.2 → (∀ j, j < S.next → j ≠ id → j ≠ gid → S'.obj j = S.obj j) → S.next ≤ S'.next → S.clk ≤ S'.clk → S'.esc = S.esc → Q (.d (.int .i64 (doE d fl ops).1)) S') : SQ cf 21 [.ptr gid 0, .d (.sl (rowD fopD ops))] S Q := by
 have hF0 := hF;obtain ⟨⟨hlt, hne⟩, c, hc, hs⟩ := hF;have hid := hI.1;refine S_intro Tryz.func21 rfl rfl (Nat.le_of_ble_eq_true rfl) ?_;simp;refine ref5_after hF0 (by omega) ⟨by omega, hops.2⟩ fun v S1 hK1 hN1 hv1 => ?_
 have hlate : ∀ S9 b, Kept S S9 → doE d fl ops = (b, d, fl) → Q (.d (.int .i64 b)) S9 := fun S9 b hk he => by
  rw [he] at h;exact h S9 (hI.kept hk) (hF0.of (hk.1 gid hlt) (by have := hk.2.1; omega)) (fun j hj _ _ => hk.1 j hj) hk.2.1 hk.2.2.1 hk.2.2.2
 simp;refine f_intro (fun j1 => ?_) (fun j1 => ?_)
 ·obtain ⟨a, a1, a2, rfl, a4⟩ : ∃ a, S.next ≤ a ∧ a < S1.next ∧ v = .ar (.arr a) 5 0 (aftF fl ops).2.length ∧ S1.obj a = .arr 5 (rowD rfD (aftF fl ops).2) false := by
   rcases hN1 with ⟨h9, _⟩ | ⟨a, a1, a2, a3, a4⟩
   ·exact absurd h9 (hv1 j1)
   ·exact ⟨a, a1, a2, by rw [a3, rowD_length], a4⟩
  have hal := aftF_len (l := fl) (ops := ops);simp;refine ref5_laid (n := n + 320) (hI.kept hK1) (hF0.of (hK1.1 gid hlt) (by omega)) ⟨by omega, hl.2⟩ hw ⟨by omega, aftF_data hl.2 hops.2⟩ a4 ⟨a2, by omega, by omega⟩ (fun h9 S2 hI2 hM2 => ?_) (fun w l' h9 v2 S2 hI2 hM2 h2a hN2 => ?_)
  ·have hd : doR fl d.many ops = (5, [], fl) := by unfold doR; rw [if_neg (by omega), h9]
   simp;have he : doE d fl ops = (5, d, fl) := by unfold doE; rw [hd, if_pos (by simp)]
   rw [he] at h;have hnx := hK1.2.1;exact h S2 hI2 (hF0.of ((hM2.1 gid (by omega) (Ne.symm hne) (by omega)).trans (hK1.1 gid hlt)) (by have := hM2.2.1; omega)) (fun j hj h1 h2 => (hM2.1 j (by omega) h1 (by omega)).trans (hK1.1 j hj)) (by have := hM2.2.1; omega) (by have := hM2.2.2.1; have := hK1.2.2.1; omega) (hM2.2.2.2.trans hK1.2.2.2)
  ·have hnx := hK1.2.1;have hF2 : S2.obj gid = .cells [.ptr id 0, c] := ((hM2.1 gid (by omega) (Ne.symm hne) (by omega)).trans (hK1.1 gid hlt)).trans hc
   simp;refine f_intro (fun j2 => ?_) (fun j2 => ?_)
   ·have hd : doR fl d.many ops = (0, w ++ goneF fl l', l') := by unfold doR; rw [if_neg (by omega), h9]; exact if_neg (by rw [List.length_append]; omega)
    simp [hF2];refine hN2.lend fun S3 k1 k2 k3 k4 => ?_;have hw3 : ∀ j, j < S1.next → S3.obj j = S2.obj j := fun j hj => k3 j fun c' => hN2.away hj;have hI3 : IsR S3 id d := hI2.of (hw3 id (by omega)) (by have := hI2.1; omega)
    refine hold2 ?_;simp;refine ref2_Commit hI3 hw (by rw [List.length_append]; omega) fun S4 hI4 hM4 => ?_
    have hll := laidF_len h9;have h4a : S4.obj a = .arr 5 (rowD rfD l') false := ((hM4.1 a (by have := hM2.2.1; omega) (by omega)).trans (hw3 a a2)).trans h2a
    have h4g : S4.obj gid = .cells [.ptr id 0, c] := ((hM4.1 gid (by have := hM2.2.1; omega) (Ne.symm hne)).trans (hw3 gid (by omega))).trans hF2
    have hM9 : ∀ j, j < S.next → j ≠ id → S4.obj j = S.obj j := fun j hj h1 => ((hM4.1 j (by have := hM2.2.1; omega) h1).trans (hw3 j (by omega))).trans ((hM2.1 j (by omega) h1 (by omega)).trans (hK1.1 j hj))
    have hn9 : S.next ≤ S4.next := by have := hM4.2.1; have := hM2.2.1; omega
    have hc9 : S.clk ≤ S4.clk := by have := hM4.2.2.1; have := hM2.2.2.1; have := hK1.2.2.1; have := k4.1; omega
    have he9 : S4.esc = S.esc := by rw [hM4.2.2.2, k4.2, hM2.2.2.2, hK1.2.2.2]
    have hga : ¬ gid = a := by omega
    have hag : ¬ a = gid := by omega
    have hida : ¬ id = a := by omega
    rw [← hll];simp;refine f_intro (fun j3 => ?_) (fun j3 => ?_)
    ·have he : doE d fl ops = (0, (d.commit (w ++ goneF fl l')).2, l') := by unfold doE; rw [hd, if_neg (by simp), if_neg (by simpa using j3)]
     rw [he] at h;simp [h4a, h4g, hga];rw [j3];refine h _ (hI4.of (by simp [hne, hida]) (by have := hI4.1; simp; omega)) ⟨⟨by simp; omega, hne⟩, _, by simp; rfl, .inr ⟨_, rfl⟩⟩ (fun j hj h1 h2 => ?_) (by simp; omega) (by simp; omega) he9
     simp [h2, show ¬ j = a by omega]
     exact hM9 j hj h1
    ·have he : doE d fl ops = ((d.commit (w ++ goneF fl l')).1, (d.commit (w ++ goneF fl l')).2, fl) := by unfold doE; rw [hd, if_neg (by simp), if_pos (by simpa using j3)]
     rw [he] at h;simp;exact h S4 hI4 (hF0.of (h4g.trans hc.symm) (by omega)) (fun j hj h1 _ => hM9 j hj h1) hn9 hc9 he9
   ·have hd : doR fl d.many ops = (5, [], fl) := by unfold doR; rw [if_neg (by omega), h9]; exact if_pos (by rw [List.length_append]; omega)
    have he : doE d fl ops = (5, d, fl) := by unfold doE; rw [hd, if_pos (by simp)]
    rw [he] at h;simp;exact h S2 hI2 (hF0.of ((hM2.1 gid (by omega) (Ne.symm hne) (by omega)).trans (hK1.1 gid hlt)) (by have := hM2.2.1; omega)) (fun j hj h1 h2 => (hM2.1 j (by omega) h1 (by omega)).trans (hK1.1 j hj)) (by have := hM2.2.1; omega) (by have := hM2.2.2.1; have := hK1.2.2.1; omega) (hM2.2.2.2.trans hK1.2.2.2)
 ·have hd : doR fl d.many ops = ((aftF fl ops).1, [], fl) := by unfold doR; rw [if_pos j1]
  simp;exact hlate _ _ hK1 (by unfold doE; rw [hd, if_pos j1])
end Go.VM
