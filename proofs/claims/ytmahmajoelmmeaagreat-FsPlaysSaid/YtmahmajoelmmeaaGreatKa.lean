/- Chapter 5: the plain law of the files: what the program does is what the document does. No condition. -/
import Derived.Test.YtmahmajoelmmeaaGreatGh
namespace Go.VM
open Go.Proofs
set_option maxRecDepth 4000
def Srt (l : List Fl) : Prop := l.Pairwise fun a b => a.name < b.name
def lookF (l : List Fl) (n : List UInt8) : Option Fl := l.find? fun x => decide (x.name = n)
def fileOf (x : Fl) : Fl := if x.put = true then ⟨0, [], 0, [], x.data, false⟩ else x
theorem lookF_nil {n : List UInt8} : lookF [] n = none := rfl
theorem lookF_cons {x : Fl} {l : List Fl} {n : List UInt8} : lookF (x :: l) n = if x.name = n then some x else lookF l n := by
 unfold lookF;rw [List.find?_cons];by_cases h : x.name = n <;> simp [h]
theorem lookF_some {l : List Fl} {n : List UInt8} {x : Fl} (h : lookF l n = some x) : x ∈ l ∧ x.name = n := by
 induction l with
 | nil => cases h
 | cons y l ih =>
  rw [lookF_cons] at h;split at h
  ·rename_i e
   cases h
   exact ⟨by simp, e⟩
  ·exact ⟨List.mem_cons_of_mem _ (ih h).1, (ih h).2⟩
theorem lookF_none {l : List Fl} {n : List UInt8} : lookF l n = none ↔ ∀ x ∈ l, x.name ≠ n := by
 induction l with
 | nil => simp [lookF_nil]
 | cons y l ih =>
  rw [lookF_cons];by_cases h : y.name = n
  ·simp [h]
  ·simp [h, ih]
theorem Srt.cons {x : Fl} {l : List Fl} (h : Srt (x :: l)) : Srt l := (List.pairwise_cons.1 h).2
theorem Srt.head {x : Fl} {l : List Fl} (h : Srt (x :: l)) : ∀ y ∈ l, x.name < y.name := (List.pairwise_cons.1 h).1
theorem lookF_mem {l : List Fl} {x : Fl} (hs : Srt l) (h : x ∈ l) : lookF l x.name = some x := by
 induction l with
 | nil => cases h
 | cons y l ih =>
  rw [lookF_cons];rcases List.mem_cons.1 h with rfl | h
  ·simp
  ·have h1 := hs.head x h;have : y.name ≠ x.name := fun e => by rw [e] at h1; exact List.lt_irrefl _ h1
   rw [if_neg this];exact ih hs.cons h
theorem lookF_iff {l : List Fl} {n : List UInt8} {x : Fl} (hs : Srt l) : lookF l n = some x ↔ x ∈ l ∧ x.name = n :=
 ⟨lookF_some, fun h => by rw [← h.2]; exact lookF_mem hs h.1⟩
theorem findF_nil {n : List UInt8} : findF [] n = -1 := rfl
theorem findF_cons {x : Fl} {l : List Fl} {n : List UInt8} : findF (x :: l) n = if x.name = n then 0 else if findF l n < 0 then -1 else findF l n + 1 := by
 unfold findF;rw [List.findIdx?_cons];by_cases h : x.name = n
 ·simp [h]
 ·simp only [h, decide_false, Bool.false_eq_true, if_false]
  cases hl : l.findIdx? fun x => decide (x.name = n) with
  | none => simp
  | some i => simp; omega
theorem findF_neg {l : List Fl} {n : List UInt8} : findF l n < 0 ↔ lookF l n = none := by
 induction l with
 | nil => simp [findF_nil, lookF_nil]
 | cons x l ih =>
  rw [findF_cons, lookF_cons];by_cases h : x.name = n
  ·simp [h]
  ·simp only [h, if_false, ← ih];split <;> omega
theorem findF_nth {l : List Fl} {n : List UInt8} (h : 0 ≤ findF l n) : (findF l n).toNat < l.length ∧ lookF l n = some (nth l (findF l n).toNat) := by
 induction l with
 | nil => rw [findF_nil] at h; omega
 | cons x l ih =>
  rw [findF_cons] at h ⊢;rw [lookF_cons];by_cases hx : x.name = n
  ·simp [hx, nth]
  ·simp only [hx, if_false] at h ⊢;by_cases hl : findF l n < 0
   ·simp only [hl, if_true] at h; omega
   ·simp only [hl, if_false] at h ⊢;obtain ⟨h1, h2⟩ := ih (by omega)
    have e : (findF l n + 1).toNat = (findF l n).toNat + 1 := by omega
    rw [e, h2];exact ⟨by simp only [List.length_cons]; omega, by simp [nth]⟩
theorem eraF_cons {x : Fl} {l : List Fl} {k : Nat} : eraF (x :: l) (k + 1) = x :: eraF l k := rfl
theorem Srt.era {l : List Fl} (h : Srt l) (k : Nat) : Srt (eraF l k) := by
 have : (eraF l k).Sublist l := by
  have h1 : (l.take k ++ l.drop (k + 1)).Sublist (l.take k ++ l.drop k) := List.Sublist.append_left (by rw [← List.drop_drop]; exact List.drop_sublist _ _) _
  rwa [List.take_append_drop] at h1
 exact List.Pairwise.sublist this h
theorem lookF_era {l : List Fl} {n m : List UInt8} (hs : Srt l) (h : 0 ≤ findF l n) : lookF (eraF l (findF l n).toNat) m = if m = n then none else lookF l m := by
 induction l with
 | nil => rw [findF_nil] at h; omega
 | cons x l ih =>
  rw [findF_cons] at h ⊢;by_cases hx : x.name = n
  ·simp only [hx, if_true];show lookF l m = _;by_cases hm : m = n
   ·rw [if_pos hm, lookF_none];intro y hy e;have := hs.head y hy;rw [e, hm, hx] at this;exact List.lt_irrefl _ this
   ·rw [if_neg hm, lookF_cons, if_neg fun e => hm (e.symm.trans hx)]
  ·simp only [hx, if_false] at h ⊢;by_cases hl : findF l n < 0
   ·simp only [hl, if_true] at h; omega
   ·simp only [hl, if_false] at h ⊢;have e : (findF l n + 1).toNat = (findF l n).toNat + 1 := by omega
    rw [e, eraF_cons, lookF_cons, lookF_cons, ih hs.cons (by omega)]
    by_cases hm : m = n
    ·subst hm; simp [hx]
    ·simp [hm]
theorem insF_nil {f : Fl} : insF [] f = [f] := rfl
theorem insF_cons {x f : Fl} {l : List Fl} : insF (x :: l) f = if x.name < f.name then x :: insF l f else f :: x :: l := by
 unfold insF insAt;by_cases h : x.name < f.name
 ·rw [List.takeWhile_cons_of_pos (by simpa using h), if_pos h]
  rfl
 ·rw [List.takeWhile_cons_of_neg (by simpa using h), if_neg h]
  rfl
theorem mem_insF' {l : List Fl} {f x : Fl} : x ∈ insF l f ↔ x ∈ l ∨ x = f := by
 induction l with
 | nil => simp [insF_nil]
 | cons y l ih =>
  rw [insF_cons];split
  ·simp only [List.mem_cons, ih]; exact or_assoc.symm
  ·simp only [List.mem_cons];exact ⟨fun h => h.elim .inr .inl, fun h => h.elim .inr .inl⟩
theorem Srt.ins {l : List Fl} {f : Fl} (h : Srt l) (hf : ∀ x ∈ l, x.name ≠ f.name) : Srt (insF l f) := by
 induction l with
 | nil => exact List.pairwise_singleton _ _
 | cons x l ih =>
  rw [insF_cons];split
  ·rename_i hx;refine List.pairwise_cons.2 ⟨fun y hy => ?_, ih h.cons fun y hy => hf y (List.mem_cons_of_mem _ hy)⟩;rcases mem_insF'.1 hy with hy | rfl
   ·exact h.head y hy
   ·exact hx
  ·rename_i hx;have hlt : f.name < x.name := Std.lt_of_le_of_ne hx (Ne.symm (hf x (by simp)))
   refine List.pairwise_cons.2 ⟨fun y hy => ?_, h⟩;rcases List.mem_cons.1 hy with rfl | hy
   ·exact hlt
   ·exact List.lt_trans hlt (h.head y hy)
theorem lookF_ins {l : List Fl} {f : Fl} {m : List UInt8} (h : Srt l) (hf : ∀ x ∈ l, x.name ≠ f.name) : lookF (insF l f) m = if m = f.name then some f else lookF l m := by
 apply Option.ext
 intro x;rw [lookF_iff (h.ins hf), mem_insF'];by_cases hm : m = f.name
 ·rw [if_pos hm];constructor
  ·rintro ⟨h1 | h1, h2⟩
   ·exact absurd (h2.trans hm) (hf x h1)
   ·rw [h1]
  ·intro e
   cases e
   exact ⟨.inr rfl, hm.symm⟩
 ·rw [if_neg hm, lookF_iff h];constructor
  ·rintro ⟨h1 | h1, h2⟩
   ·exact ⟨h1, h2⟩
   ·subst h1; exact absurd h2.symm hm
  ·rintro ⟨h1, h2⟩;exact ⟨.inl h1, h2⟩
def keysK {α : Type} (l : List (List UInt8 × α)) : List (List UInt8) := l.map Prod.fst
theorem lookK_isSome {α : Type} {l : List (List UInt8 × α)} {n : List UInt8} : (lookK l n).isSome = true ↔ n ∈ keysK l := by
 induction l with
 | nil => simp [lookK, keysK]
 | cons p l ih =>
  rw [lookK];by_cases h : n = p.1
  ·simp [h, keysK]
  ·rw [if_neg h, ih]; simp [keysK, h]
theorem lookK_none {α : Type} {l : List (List UInt8 × α)} {n : List UInt8} : lookK l n = none ↔ n ∉ keysK l := by
 rw [← lookK_isSome]; cases lookK l n <;> simp
theorem keysK_upd {α : Type} {l : List (List UInt8 × α)} {n : List UInt8} {x : α} : keysK (updK l n x) = if n ∈ keysK l then keysK l else keysK l ++ [n] := by
 induction l with
 | nil => rfl
 | cons p l ih =>
  rw [updK];by_cases h : n = p.1
  ·subst h; simp [keysK]
  ·have h1 : keysK (p :: updK l n x) = p.1 :: keysK (updK l n x) := rfl;have h2 : keysK (p :: l) = p.1 :: keysK l := rfl;rw [if_neg h, h1, h2, ih];by_cases hn : n ∈ keysK l
   ·simp [hn]
   ·simp [hn, h]
theorem nodup_upd {α : Type} {l : List (List UInt8 × α)} {n : List UInt8} {x : α} (h : (keysK l).Nodup) : (keysK (updK l n x)).Nodup := by
 rw [keysK_upd];split
 ·exact h
 ·rename_i hn;exact List.nodup_append.2 ⟨h, by simp, fun a ha b hb => by rw [List.mem_singleton.1 hb]; exact fun e => hn (e ▸ ha)⟩
theorem eraK_sub {α : Type} {l : List (List UInt8 × α)} {n : List UInt8} : (keysK (eraK l n)).Sublist (keysK l) := by
 induction l with
 | nil => exact List.Sublist.refl _
 | cons p l ih =>
  rw [eraK];split
  ·exact List.sublist_cons_self _ _
  ·exact ih.cons_cons _
theorem lookK_era {α : Type} {l : List (List UInt8 × α)} {n m : List UInt8} (h : (keysK l).Nodup) : lookK (eraK l n) m = if m = n then none else lookK l m := by
 induction l with
 | nil => simp [eraK, lookK]
 | cons p l ih =>
  have h' : p.1 ∉ keysK l ∧ (keysK l).Nodup := List.nodup_cons.1 h;rw [eraK];by_cases hn : n = p.1
  ·rw [if_pos hn];by_cases hm : m = n
   ·rw [if_pos hm, lookK_none, hm, hn]; exact h'.1
   ·rw [if_neg hm, lookK, if_neg fun e => hm (e.trans hn.symm)]
  ·rw [if_neg hn, lookK, lookK, ih h'.2];by_cases hm : m = p.1
   ·have : ¬ m = n := fun e => hn (e.symm.trans hm);simp [hm];intro e; exact absurd e.symm hn
   ·simp [hm]
theorem lookK_mem {α : Type} {l : List (List UInt8 × α)} {n : List UInt8} {x : α} (h : (keysK l).Nodup) : lookK l n = some x ↔ (n, x) ∈ l := by
 induction l with
 | nil => simp [lookK]
 | cons p l ih =>
  have h' : p.1 ∉ keysK l ∧ (keysK l).Nodup := List.nodup_cons.1 h;rw [lookK];by_cases hn : n = p.1
  ·rw [if_pos hn];constructor
   ·intro e; cases e; simp [hn]
   ·intro e;rcases List.mem_cons.1 e with e | e
    ·rw [← e]
    ·exact absurd (hn ▸ List.mem_map_of_mem (f := Prod.fst) e) h'.1
  ·rw [if_neg hn, ih h'.2];constructor
   ·exact fun e => List.mem_cons_of_mem _ e
   ·intro e;rcases List.mem_cons.1 e with e | e
    ·exact absurd (congrArg Prod.fst e) hn
    ·exact e
structure RelC (fl : List Fl) (C : Ch) (l : List Fl) : Prop where
 srt : Srt l
 files : ∀ n, lookK C.files n = (lookF l n).map fileOf
 put : ∀ n, n ∈ keysK C.put ↔ ∃ x ∈ l, x.name = n ∧ x.put = true
 kf : (keysK C.files).Nodup
 kp : (keysK C.put).Nodup
 old : ∀ x ∈ l, x.put = false → x ∈ fl
 new : ∀ x ∈ l, x.put = true → isName x.name = true ∧ x.data.length ≤ 600
theorem aft1_put {l : List Fl} {o : FOp} (h : o.drop = false) : aft1 l o = if isName o.name = false ∨ 600 < o.data.length then (1, []) else (0, insF (if 0 ≤ findF l o.name then eraF l (findF l o.name).toNat else l) (putF o)) := by
 unfold aft1;rw [h];rfl
theorem aft1_drop {l : List Fl} {o : FOp} (h : o.drop = true) : aft1 l o = if findF l o.name < 0 then (7, []) else (0, eraF l (findF l o.name).toNat) := by
 unfold aft1;rw [h];rfl
theorem does_rel {fl l : List Fl} {C : Ch} {o : FOp} (h : RelC fl C l) : (C.does o).1 = (aft1 l o).1 ∧ ((aft1 l o).1 = 0 → RelC fl (C.does o).2 (aft1 l o).2) := by
 obtain ⟨hs, hf, hp, kf, kp, ho, hn⟩ := h;have hlk : (lookK C.files o.name).isSome = (lookF l o.name).isSome := by rw [hf]; cases lookF l o.name <;> rfl
 cases hd : o.drop with
 | true =>
  rw [aft1_drop hd];unfold Ch.does;rw [hd, hlk];by_cases hk : findF l o.name < 0
  ·have h0 := findF_neg.1 hk;simp [hk, h0]
  ·have h1 : 0 ≤ findF l o.name := by omega
   have h2 := findF_nth h1;have h3 : (lookF l o.name).isSome = true := by rw [h2.2]; rfl
   simp only [hk, h3, if_true, if_false];refine ⟨True.intro, fun _ => ⟨hs.era _, fun n => ?_, fun n => ?_, kf.sublist eraK_sub, kp.sublist eraK_sub, fun x hx => ho x (mem_eraF hx), fun x hx => hn x (mem_eraF hx)⟩⟩
   ·show lookK (eraK C.files o.name) n = _;rw [lookK_era kf, lookF_era hs h1, hf];split <;> rfl
   ·show n ∈ keysK (eraK C.put o.name) ↔ _;rw [← lookK_isSome, lookK_era kp];by_cases hm : n = o.name
    ·simp only [hm, if_true];constructor
     ·intro e; cases e
     ·rintro ⟨x, hx, he, -⟩;have := lookF_mem (hs.era _) hx;rw [he, lookF_era hs h1, if_pos rfl] at this
      cases this
    ·rw [if_neg hm, lookK_isSome, hp];constructor
     ·rintro ⟨x, hx, he, hxp⟩;have h4 := lookF_mem hs hx;have h5 := lookF_era (m := n) hs h1;rw [if_neg hm, ← he, h4] at h5;exact ⟨x, (lookF_some h5).1, he, hxp⟩
     ·rintro ⟨x, hx, he, hxp⟩;exact ⟨x, mem_eraF hx, he, hxp⟩
 | false =>
  rw [aft1_put hd];unfold Ch.does;rw [hd];by_cases hc : isName o.name = false ∨ 600 < o.data.length
  ·rw [if_pos hc];simp [hc.symm]
  ·rw [if_neg hc];rw [if_neg Bool.false_ne_true, if_neg fun h => hc (Or.symm h)];obtain ⟨l1, hl1⟩ : ∃ l1, l1 = if 0 ≤ findF l o.name then eraF l (findF l o.name).toNat else l := ⟨_, rfl⟩;rw [← hl1];have hs1 : Srt l1 := by rw [hl1]; split; exact hs.era _; exact hs
   have hm1 : ∀ x ∈ l1, x ∈ l := by rw [hl1]; split; exact fun x hx => mem_eraF hx; exact fun x hx => hx
   have hlk1 : ∀ m, lookF l1 m = if m = o.name then none else lookF l m := by
    intro m;rw [hl1];split
    ·rename_i h1; exact lookF_era hs h1
    ·rename_i h1;by_cases hm : m = o.name
     ·rw [if_pos hm, hm]; exact findF_neg.1 (by omega)
     ·rw [if_neg hm]
   have hno : ∀ x ∈ l1, x.name ≠ (putF o).name := lookF_none.1 (by rw [hlk1]; exact if_pos rfl)
   refine ⟨rfl, fun _ => ⟨hs1.ins hno, fun n => ?_, fun n => ?_, nodup_upd kf, nodup_upd kp, fun x hx hxp => ?_, fun x hx hxp => ?_⟩⟩
   ·show lookK (updK C.files o.name _) n = _;rw [lookK_upd, lookF_ins hs1 hno, hlk1, hf];show (if n = o.name then _ else _) = Option.map fileOf (if n = o.name then _ else _);split <;> rfl
   ·show n ∈ keysK (updK C.put o.name ()) ↔ _;rw [← lookK_isSome, lookK_upd];by_cases hm : n = o.name
    ·simp only [hm, if_true];exact ⟨fun _ => ⟨putF o, mem_insF'.2 (.inr rfl), rfl, rfl⟩, fun _ => rfl⟩
    ·rw [if_neg hm, lookK_isSome, hp];constructor
     ·rintro ⟨x, hx, he, hxp⟩;have h4 := lookF_mem hs hx;have h5 := hlk1 n;rw [if_neg hm, ← he, h4] at h5;exact ⟨x, mem_insF'.2 (.inl (lookF_some h5).1), he, hxp⟩
     ·rintro ⟨x, hx, he, hxp⟩;rcases mem_insF'.1 hx with hx | hx
      ·exact ⟨x, hm1 x hx, he, hxp⟩
      ·rw [hx] at he; exact absurd he.symm hm
   ·rcases mem_insF'.1 hx with hx | hx
    ·exact ho x (hm1 x hx) hxp
    ·rw [hx] at hxp; cases hxp
   ·rcases mem_insF'.1 hx with hx | hx
    ·exact hn x (hm1 x hx) hxp
    ·rw [hx];refine ⟨?_, ?_⟩
     ·cases e : isName o.name with
      | true => exact e
      | false => exact absurd (.inl e) hc
     ·show o.data.length ≤ 600;exact Nat.le_of_not_lt fun e => hc (.inr e)
theorem doesL_rel {fl : List Fl} {ops : List FOp} : ∀ {l : List Fl} {C : Ch}, RelC fl C l → (doesL C ops).1 = (aftF l ops).1 ∧ ((aftF l ops).1 = 0 → RelC fl (doesL C ops).2 (aftF l ops).2) := by
 induction ops with
 | nil => exact fun h => ⟨rfl, fun _ => h⟩
 | cons o os ih =>
  intro l C h;have h1 := does_rel (o := o) h;show (if (C.does o).1 = 0 then doesL (C.does o).2 os else C.does o).1 = (if (aft1 l o).1 = 0 then aftF (aft1 l o).2 os else aft1 l o).1 ∧ _;have e : aftF l (o :: os) = if (aft1 l o).1 = 0 then aftF (aft1 l o).2 os else aft1 l o := rfl;have e2 : doesL C (o :: os) = if (C.does o).1 = 0 then doesL (C.does o).2 os else C.does o := rfl;rw [e, e2, h1.1];by_cases h0 : (aft1 l o).1 = 0
  ·rw [if_pos h0, if_pos h0];exact ih (h1.2 h0)
  ·rw [if_neg h0, if_neg h0];exact ⟨h1.1, fun e => absurd e h0⟩
theorem does_same {C : Ch} {o : FOp} : (C.does o).2.taken = C.taken ∧ (C.does o).2.free = C.free ∧ (C.does o).2.l = C.l := by
 unfold Ch.does;split
 ·split <;> exact ⟨rfl, rfl, rfl⟩
 ·split <;> exact ⟨rfl, rfl, rfl⟩
theorem doesL_same {ops : List FOp} : ∀ {C : Ch}, (doesL C ops).2.taken = C.taken ∧ (doesL C ops).2.free = C.free ∧ (doesL C ops).2.l = C.l := by
 induction ops with
 | nil => exact ⟨rfl, rfl, rfl⟩
 | cons o os ih =>
  intro C;have h1 := does_same (C := C) (o := o);show (if (C.does o).1 = 0 then doesL (C.does o).2 os else C.does o).2.taken = _ ∧ (if (C.does o).1 = 0 then doesL (C.does o).2 os else C.does o).2.free = _ ∧ (if (C.does o).1 = 0 then doesL (C.does o).2 os else C.does o).2.l = _;split
  ·have h2 := ih (C := (C.does o).2);exact ⟨h2.1.trans h1.1, h2.2.1.trans h1.2.1, h2.2.2.trans h1.2.2⟩
  ·exact h1
theorem mem_addT {l : List Int} {i j : Int} : j ∈ addT l i ↔ j ∈ l ∨ j = i := by
 unfold addT;split
 ·rename_i h;exact ⟨.inl, fun e => e.elim id fun e => e ▸ h⟩
 ·simp
theorem mem_takenOf {fl : List Fl} {i : Int} : i ∈ takenOf fl ↔ ∃ x ∈ fl, x.slot = i := by
 have h : ∀ (l : List Fl) (a : List Int), i ∈ l.foldl (fun l x => addT l x.slot) a ↔ i ∈ a ∨ ∃ x ∈ l, x.slot = i := by
  intro l
  induction l with
  | nil => simp
  | cons y l ih =>
   intro a;rw [List.foldl_cons, ih, mem_addT];constructor
   ·rintro ((h | h) | ⟨x, h1, h2⟩)
    ·exact .inl h
    ·exact .inr ⟨y, by simp, h.symm⟩
    ·exact .inr ⟨x, List.mem_cons_of_mem _ h1, h2⟩
   ·rintro (h | ⟨x, h1, h2⟩)
    ·exact .inl (.inl h)
    ·rcases List.mem_cons.1 h1 with rfl | h1
     ·exact .inl (.inr h2.symm)
     ·exact .inr ⟨x, h1, h2⟩
 have := h fl [];simpa [takenOf] using this
theorem foldl_upd {α : Type} {g : Fl → α} {l : List Fl} : ∀ {a : List (List UInt8 × α)}, Srt l → (keysK a).Nodup → (∀ x ∈ l, x.name ∉ keysK a) →
  (keysK (l.foldl (fun l x => updK l x.name (g x)) a)).Nodup ∧ ∀ n, lookK (l.foldl (fun l x => updK l x.name (g x)) a) n = if (lookF l n).isSome = true then (lookF l n).map g else lookK a n := by
 induction l with
 | nil => intro a _ h _; exact ⟨h, fun n => rfl⟩
 | cons y l ih =>
  intro a hs ha hn;have h1 : ∀ x ∈ l, x.name ∉ keysK (updK a y.name (g y)) := by
   intro x hx;rw [keysK_upd, if_neg (hn y (by simp)), List.mem_append, List.mem_singleton]
   rintro (e | e)
   ·exact hn x (List.mem_cons_of_mem _ hx) e
   ·have := hs.head x hx;rw [e] at this;exact List.lt_irrefl _ this
  obtain ⟨h2, h3⟩ := ih hs.cons (nodup_upd (n := y.name) (x := g y) ha) h1;refine ⟨h2, fun n => ?_⟩;rw [List.foldl_cons, h3, lookF_cons, lookK_upd];by_cases hy : y.name = n
  ·have hz : lookF l n = none := lookF_none.2 fun x hx e => by
    have := hs.head x hx;rw [e, hy] at this;exact List.lt_irrefl _ this
   rw [hz, if_pos hy, hy];simp
  ·rw [if_neg hy, if_neg (c := n = y.name) fun e => hy e.symm]
theorem filesOf_look {fl : List Fl} (hs : Srt fl) : (keysK (filesOf fl)).Nodup ∧ ∀ n, lookK (filesOf fl) n = lookF fl n := by
 have h := foldl_upd (g := id) (a := []) hs (by simp [keysK]) (by simp [keysK])
 refine ⟨h.1, fun n => (h.2 n).trans ?_⟩
 cases lookF fl n <;> simp [lookK]
theorem wasOf_look {fl : List Fl} (hs : Srt fl) (n : List UInt8) : lookK (wasOf fl) n = (lookF fl n).map (·.slot) := by
 have h := foldl_upd (g := Fl.slot) (a := []) hs (by simp [keysK]) (by simp [keysK])
 refine (h.2 n).trans ?_
 cases lookF fl n <;> simp [lookK]
theorem begin_rel {fl : List Fl} {many : Int} (hs : Srt fl) (hp : ∀ x ∈ fl, x.put = false) : RelC fl (beginC fl many) fl := by
 have h := filesOf_look hs;refine ⟨hs, fun n => ?_, fun n => ?_, h.1, by simp [keysK, beginC], fun x hx _ => hx, fun x hx e => by rw [hp x hx] at e; cases e⟩
 ·show lookK (filesOf fl) n = _;rw [h.2]
  cases hl : lookF fl n with
  | none => rfl
  | some x =>
   have := hp x (lookF_some hl).1;simp [fileOf, this]
 ·simp only [keysK, beginC, List.map_nil, List.not_mem_nil, false_iff];rintro ⟨x, hx, -, e⟩;rw [hp x hx] at e; cases e
def putsOf (l : List Fl) : List (List UInt8) := (l.filter fun x => x.put).map (·.name)
theorem mem_putsOf {l : List Fl} {n : List UInt8} : n ∈ putsOf l ↔ ∃ x ∈ l, x.name = n ∧ x.put = true := by
 unfold putsOf;constructor
 ·intro h;obtain ⟨x, hx, rfl⟩ := List.mem_map.1 h;exact ⟨x, (List.mem_filter.1 hx).1, rfl, (List.mem_filter.1 hx).2⟩
 ·rintro ⟨x, hx, rfl, hp⟩;exact List.mem_map.2 ⟨x, List.mem_filter.2 ⟨hx, hp⟩, rfl⟩
theorem putsOf_no {x : Fl} {l : List Fl} (h : x.put = false) : putsOf (x :: l) = putsOf l := by
 unfold putsOf;rw [List.filter_cons_of_neg (by simp [h])]
theorem putsOf_yes {x : Fl} {l : List Fl} (h : x.put = true) : putsOf (x :: l) = x.name :: putsOf l := by
 unfold putsOf;rw [List.filter_cons_of_pos h];rfl
theorem putsOf_srt {l : List Fl} (h : Srt l) : (putsOf l).Pairwise fun a b => a < b :=
 List.pairwise_map.2 (List.Pairwise.sublist (List.filter_sublist) h)
theorem lt_nodup {l : List (List UInt8)} (h : l.Pairwise fun a b => a < b) : l.Nodup := List.Pairwise.imp (fun {a b} hab e => by rw [e] at hab; exact List.lt_irrefl _ hab) h
theorem Srt.nodup {l : List Fl} (h : Srt l) : (l.map (·.name)).Nodup := lt_nodup (List.pairwise_map.2 h)
theorem put_names {fl l : List Fl} {C : Ch} (h : RelC fl C l) : putNames C = putsOf l := by
 have h1 := putsOf_srt h.srt;have hp : (putNames C).Perm (putsOf l) := by
  refine (List.mergeSort_perm _ _).trans ((List.perm_ext_iff_of_nodup h.kp (lt_nodup h1)).2 fun n => ?_);rw [h.put, mem_putsOf]
 refine List.Perm.eq_of_pairwise (le := fun a b => leS a b = true) (fun a b _ _ h1 h2 => ?_) (List.pairwise_mergeSort leS_trans leS_total _) (List.Pairwise.imp (fun {a b} hab => ?_) h1) hp
 ·simp only [leS, decide_eq_true_eq] at h1 h2;exact List.le_antisymm h1 h2
 ·simp only [leS, decide_eq_true_eq];exact fun e => List.lt_irrefl _ (List.lt_trans hab e)
def slotsFree (t : List Int) : List Int := (rangeZ 40).filter fun i => decide (i ∉ t)
theorem rangeZ_nodup (n : Nat) : (rangeZ n).Nodup := by
 unfold rangeZ;refine List.pairwise_map.2 (List.Pairwise.imp (fun {a b} hab e => hab (Int.ofNat.inj e)) List.nodup_range)
theorem mem_rangeZ {n : Nat} {i : Int} : i ∈ rangeZ n ↔ 0 ≤ i ∧ i < n := by
 unfold rangeZ;constructor
 ·intro h;obtain ⟨k, hk, rfl⟩ := List.mem_map.1 h;have := List.mem_range.1 hk;exact ⟨Int.natCast_nonneg _, by show (k : Int) < n; omega⟩
 ·rintro ⟨h1, h2⟩;exact List.mem_map.2 ⟨i.toNat, List.mem_range.2 (by omega), by show ((i.toNat : Nat) : Int) = i; omega⟩
theorem slotsFree_nodup {t : List Int} : (slotsFree t).Nodup := (rangeZ_nodup 40).sublist List.filter_sublist
theorem mem_slotsFree {t : List Int} {i : Int} : i ∈ slotsFree t ↔ (0 ≤ i ∧ i < 40) ∧ i ∉ t := by
 unfold slotsFree;rw [List.mem_filter, mem_rangeZ, decide_eq_true_eq];exact Iff.rfl
theorem slot_none {C : Ch} (h : slotsFree C.taken = []) : C.slot = (-1, C) := by
 have : (rangeZ 40).find? (fun i => decide (i ∉ C.taken)) = none := by
  rw [← List.head?_filter];show (slotsFree C.taken).head? = none;rw [h]; rfl
 unfold Ch.slot;rw [this]
theorem slot_some {C : Ch} {i : Int} {s : List Int} (h : slotsFree C.taken = i :: s) : C.slot = (i, { C with taken := C.taken ++ [i] }) ∧ slotsFree (C.taken ++ [i]) = s := by
 have h1 : (rangeZ 40).find? (fun i => decide (i ∉ C.taken)) = some i := by
  rw [← List.head?_filter];show (slotsFree C.taken).head? = _;rw [h]; rfl
 refine ⟨by unfold Ch.slot; rw [h1], ?_⟩
 have h2 : slotsFree (C.taken ++ [i]) = (slotsFree C.taken).filter fun j => decide (j ≠ i) := by
  unfold slotsFree;rw [List.filter_filter];congr 1;funext j;by_cases h3 : j ∈ C.taken <;> by_cases h4 : j = i <;> simp [h3, h4]
 have h3 := slotsFree_nodup (t := C.taken);rw [h] at h2 h3;obtain ⟨h4, h5⟩ := List.nodup_cons.1 h3;rw [h2, List.filter_cons_of_neg (by simp), List.filter_eq_self.2 fun j hj => by simpa using fun e : j = i => h4 (e ▸ hj)]
theorem laidF_no {fl : List Fl} {s f : List Int} {x : Fl} {xs : List Fl} (h : x.put = false) : laidF fl s f (x :: xs) = (laidF fl s f xs).map fun p => (p.1, x :: p.2) := by
 rw [laidF, if_pos h]
def laidY (fl : List Fl) (s f : List Int) (x : Fl) : Fl := x.laid x.name (if 0 ≤ findF fl x.name then (nth fl (findF fl x.name).toNat).slot else nth s 0) (f.take (needN x.data.length))
def laidW (y : Fl) : List Wr := sectW y.data y.places (needN y.data.length) ++ [⟨y.slot, ndBytes y.nd⟩]
theorem laidF_bad {fl : List Fl} {s f : List Int} {x : Fl} {xs : List Fl} (h : x.put = true) (h1 : (findF fl x.name < 0 ∧ s = []) ∨ f.length < needN x.data.length) : laidF fl s f (x :: xs) = none := by
 rw [laidF, if_neg (by simp [h]), if_pos h1]
theorem laidF_yes {fl : List Fl} {s f : List Int} {x : Fl} {xs : List Fl} (h : x.put = true) (h1 : ¬ ((findF fl x.name < 0 ∧ s = []) ∨ f.length < needN x.data.length)) :
  laidF fl s f (x :: xs) = (laidF fl (if 0 ≤ findF fl x.name then s else s.drop 1) (f.drop (needN x.data.length)) xs).map fun p => (laidW (laidY fl s f x) ++ p.1, laidY fl s f x :: p.2) := by
 rw [laidF, if_neg (by simp [h]), if_neg h1]
 rfl
structure LayE (fl : List Fl) (C : Ch) (rest : List Fl) (r : Bool × Ch) (w : List Wr) (l' : List Fl) : Prop where
 ok : r.1 = true
 l : r.2.l = C.l ++ w
 yes : ∀ n, n ∈ putsOf rest → lookK r.2.files n = lookF l' n
 no : ∀ n, n ∉ putsOf rest → lookK r.2.files n = lookK C.files n ∧ lookF l' n = lookF rest n
 kf : (keysK r.2.files).Nodup
 names : l'.map (·.name) = rest.map (·.name)
theorem lays_bad {C : Ch} {n : List UInt8} {s : Int} (h : s < 0 ∨ C.free.length < needN (C.file n).data.length) : C.lays n s = (false, C) := by
 unfold Ch.lays;rw [if_pos h]
theorem lay_eq {fl : List Fl} (hs : Srt fl) (hsl : ∀ x ∈ fl, 0 ≤ x.slot) : ∀ (rest : List Fl) (C : Ch), Srt rest → (∀ x ∈ rest, x.put = true → (C.file x.name).data = x.data) → (keysK C.files).Nodup →
  (laidF fl (slotsFree C.taken) C.free rest = none → (layNames (wasOf fl) C (putsOf rest)).1 = false) ∧
  ∀ w l', laidF fl (slotsFree C.taken) C.free rest = some (w, l') → LayE fl C rest (layNames (wasOf fl) C (putsOf rest)) w l' := by
 intro rest
 induction rest with
 | nil =>
  intro C _ _ hk;refine ⟨fun h => (by cases h), fun w l' h => ?_⟩
  cases h
  exact ⟨rfl, (List.append_nil _).symm, fun n h => (by cases h), fun n _ => ⟨rfl, rfl⟩, hk, rfl⟩
 | cons x xs ih =>
  intro C hr hd hk;have hxn : ∀ y ∈ xs, x.name ≠ y.name := fun y hy e => by
   have := hr.head y hy;rw [e] at this;exact List.lt_irrefl _ this
  cases hx : x.put with
  | false =>
   obtain ⟨i1, i2⟩ := ih C hr.cons (fun y hy => hd y (List.mem_cons_of_mem _ hy)) hk;rw [laidF_no hx, putsOf_no hx];refine ⟨fun h => i1 (Option.map_eq_none_iff.1 h), fun w l' h => ?_⟩;obtain ⟨p, hp, he⟩ := Option.map_eq_some_iff.1 h
   cases he
   obtain ⟨a1, a2, a3, a4, a5, a6⟩ := i2 p.1 p.2 hp;refine ⟨a1, a2, fun n hn => ?_, fun n hn => ⟨?_, ?_⟩, a5, by rw [List.map_cons, List.map_cons, a6]⟩
   ·rw [putsOf_no hx] at hn;rw [a3 n hn, lookF_cons, if_neg];obtain ⟨y, hy, rfl, -⟩ := mem_putsOf.1 hn;exact hxn y hy
   ·rw [putsOf_no hx] at hn;exact (a4 n hn).1
   ·rw [putsOf_no hx] at hn;rw [lookF_cons, lookF_cons, (a4 n hn).2]
  | true =>
   rw [putsOf_yes hx];have hdx := hd x (by simp) hx
   obtain ⟨g, hg⟩ : ∃ g, g = C.give (wasOf fl) x.name := ⟨_, rfl⟩;have hgs := give_same (C := C) (was := wasOf fl) (n := x.name);rw [← hg] at hgs;have hfile : g.2.file = C.file := by funext n; unfold Ch.file; rw [hgs.1]
   have hL : layNames (wasOf fl) C (x.name :: putsOf xs) = if (g.2.lays x.name g.1).1 then layNames (wasOf fl) (g.2.lays x.name g.1).2 (putsOf xs) else (false, (g.2.lays x.name g.1).2) := by
    rw [hg]; rfl
   have hbad : (g.1 < 0 ∨ C.free.length < needN x.data.length) → (layNames (wasOf fl) C (x.name :: putsOf xs)).1 = false := by
    intro h;rw [hL, lays_bad (by rw [hfile, hdx, hgs.2.1]; exact h)]
    rfl
   have hsg : (findF fl x.name < 0 ∧ slotsFree C.taken = [] → g.1 < 0) ∧ (¬ (findF fl x.name < 0 ∧ slotsFree C.taken = []) → 0 ≤ g.1 ∧ g.1 = (if 0 ≤ findF fl x.name then (nth fl (findF fl x.name).toNat).slot else nth (slotsFree C.taken) 0) ∧
     slotsFree g.2.taken = if 0 ≤ findF fl x.name then slotsFree C.taken else (slotsFree C.taken).drop 1) := by
    by_cases h0 : findF fl x.name < 0
    ·have h1 : lookK (wasOf fl) x.name = none := by rw [wasOf_look hs, findF_neg.1 h0]; rfl
     have h2 : g = C.slot := by rw [hg, Ch.give, h1]
     have h3 : ¬ 0 ≤ findF fl x.name := by omega
     cases hf : slotsFree C.taken with
     | nil =>
      rw [h2, slot_none hf];exact ⟨fun _ => (show (-1 : Int) < 0 by decide), fun h => absurd ⟨h0, rfl⟩ h⟩
     | cons i s =>
      obtain ⟨h4, h5⟩ := slot_some hf;have h6 : i ∈ slotsFree C.taken := by rw [hf]; simp
      rw [h2, h4, if_neg h3, if_neg h3];exact ⟨fun h => (by cases h.2), fun _ => ⟨(mem_slotsFree.1 h6).1.1, rfl, h5⟩⟩
    ·have h3 : 0 ≤ findF fl x.name := by omega
     obtain ⟨h4, h5⟩ := findF_nth h3;have h1 : lookK (wasOf fl) x.name = some (nth fl (findF fl x.name).toNat).slot := by rw [wasOf_look hs, h5]; rfl
     have h2 : g = ((nth fl (findF fl x.name).toNat).slot, C) := by rw [hg, Ch.give, h1]
     rw [h2, if_pos h3, if_pos h3];exact ⟨fun h => absurd h.1 h0, fun _ => ⟨hsl _ (lookF_some h5).1, rfl, rfl⟩⟩
   by_cases hb : (findF fl x.name < 0 ∧ slotsFree C.taken = []) ∨ C.free.length < needN x.data.length
   ·rw [laidF_bad hx hb];exact ⟨fun _ => hbad (hb.elim (fun h => .inl (hsg.1 h)) .inr), fun w l' h => by cases h⟩
   ·obtain ⟨s1, s2, s3⟩ := hsg.2 fun h => hb (.inl h);have hfr : ¬ C.free.length < needN x.data.length := fun h => hb (.inr h);rw [laidF_yes hx hb];obtain ⟨y, hy⟩ : ∃ y, y = laidY fl (slotsFree C.taken) C.free x := ⟨_, rfl⟩;have hy' : (C.file x.name).laid x.name g.1 (C.free.take (needN x.data.length)) = y := by
     rw [hy, laidY, ← s2];unfold Fl.laid;rw [hdx]
    have hlays : g.2.lays x.name g.1 = (true, { g.2 with free := C.free.drop (needN x.data.length), l := C.l ++ laidW y, files := updK C.files x.name y }) := by
     unfold Ch.lays;rw [hfile, hgs.2.1, hgs.2.2.1, hgs.1, if_neg (by rw [hdx]; omega), hdx, hy']
     have e1 : y.data = x.data := by rw [← hy']; exact hdx
     have e2 : y.places = C.free.take (needN x.data.length) := by rw [← hy']; rfl
     have e3 : y.slot = g.1 := by rw [← hy']; rfl
     unfold laidW;rw [e1, e2, e3, List.append_assoc]
    have hyn : y.name = x.name := by rw [hy]; rfl
    rw [hL, hlays, ← hy];have hI := ih { g.2 with free := C.free.drop (needN x.data.length), l := C.l ++ laidW y, files := updK C.files x.name y } hr.cons (fun z hz hzp => ?_) (nodup_upd hk)
    ·have e4 : slotsFree ({ g.2 with free := C.free.drop (needN x.data.length), l := C.l ++ laidW y, files := updK C.files x.name y } : Ch).taken = if 0 ≤ findF fl x.name then slotsFree C.taken else (slotsFree C.taken).drop 1 := s3;rw [e4] at hI;obtain ⟨i1, i2⟩ := hI;rw [if_pos rfl];refine ⟨fun h => i1 (Option.map_eq_none_iff.1 h), fun w l' h => ?_⟩;obtain ⟨p, hp, he⟩ := Option.map_eq_some_iff.1 h
     cases he
     obtain ⟨a1, a2, a3, a4, a5, a6⟩ := i2 p.1 p.2 hp;have hno : x.name ∉ putsOf xs := fun e => by
      obtain ⟨z, hz, e, -⟩ := mem_putsOf.1 e;exact hxn z hz e.symm
     refine ⟨a1, by rw [a2, List.append_assoc], fun n hn => ?_, fun n hn => ?_, a5, by rw [List.map_cons, List.map_cons, a6, hyn]⟩
     ·rw [putsOf_yes hx] at hn;rw [lookF_cons, hyn];by_cases hnx : x.name = n
      ·subst hnx;rw [if_pos rfl, (a4 _ hno).1];show lookK (updK _ _ _) _ = _;rw [lookK_upd, if_pos rfl]
      ·rw [if_neg hnx];exact a3 n ((List.mem_cons.1 hn).elim (fun e => absurd e.symm hnx) id)
     ·rw [putsOf_yes hx] at hn;have hnx : ¬ x.name = n := fun e => hn (by simp [e])
      have hn2 : n ∉ putsOf xs := fun e => hn (List.mem_cons_of_mem _ e);refine ⟨(a4 n hn2).1.trans ?_, ?_⟩
      ·show lookK (updK _ _ _) _ = _;rw [lookK_upd, if_neg fun e => hnx e.symm]
      ·rw [lookF_cons, lookF_cons, hyn, if_neg hnx, if_neg hnx, (a4 n hn2).2]
    ·show ((lookK (updK C.files x.name y) z.name).getD .nil).data = z.data;rw [lookK_upd, if_neg fun e => hxn z hz e.symm];exact hd z (List.mem_cons_of_mem _ hz) hzp
structure Wl (fl : List Fl) (many : Int) : Prop where
 srt : Srt fl
 fil : ∀ x ∈ fl, x.put = false ∧ x.size = x.data.length ∧ 0 ≤ x.slot ∧ x.slot < 40
 slots : (fl.map (·.slot)).Nodup
 room : roomIs (nodesOf fl) many = true
theorem Wl.gnodes {fl : List Fl} {many : Int} (h : Wl fl many) : gnodes fl = nodesOf fl := by
 unfold Go.VM.gnodes nodesOf;refine List.map_congr_left fun x hx => ?_;unfold Fl.gnd Fl.nd;rw [(h.fil x hx).2.1]
theorem Wl.left {fl : List Fl} {many : Int} (h : Wl fl many) : leftOf' fl many = freeOf (nodesOf fl) many := by
 unfold leftOf';rw [if_pos h.room]
theorem roomIs_out {l : List Nd} {many : Int} (h : roomIs l many = true) : l.length ≤ 40 ∧ 0 ≤ many ∧ many ≤ 2000 ∧ Gd l many := by
 unfold roomIs at h;simp only [Bool.and_eq_true, decide_eq_true_eq] at h;exact ⟨h.1.1.1, h.1.1.2, h.1.2, h.2⟩
theorem ndIs_out {x : Nd} (h : ndIs x = true) : isName x.name = true ∧ 0 ≤ x.size ∧ x.size ≤ 600 ∧ (x.places.length : Int) = need x.size ∧ x.places.all placeOk = true ∧ x.places.Nodup := by
 unfold ndIs nodeIs at h;simp only [Bool.and_eq_true, decide_eq_true_eq] at h;exact ⟨h.1.1.1.1.1, h.1.1.1.1.2, h.1.1.1.2, h.1.1.2, h.1.2, h.2⟩
theorem Wl.nd {fl : List Fl} {many : Int} (h : Wl fl many) {x : Fl} (hx : x ∈ fl) : ndIs x.nd = true := (roomIs_out h.room).2.2.2.1 _ (List.mem_map_of_mem hx)
theorem Wl.data {fl : List Fl} {many : Int} (h : Wl fl many) {x : Fl} (hx : x ∈ fl) : x.data.length ≤ 600 := by
 have h1 := (ndIs_out (h.nd hx)).2.2.1;have h2 := (h.fil x hx).2.1;have h3 : x.size ≤ 600 := h1;omega
theorem Wl.len {fl : List Fl} {many : Int} (h : Wl fl many) : fl.length ≤ 40 := by
 have := (roomIs_out h.room).1;simpa [nodesOf] using this
theorem slots_taken {fl : List Fl} : slotsTo fl 40 = slotsFree (takenOf fl) := by
 unfold slotsTo slotsFree;congr 1;funext i;rw [Bool.eq_iff_iff, List.all_eq_true, decide_eq_true_eq, mem_takenOf];constructor
 ·rintro h ⟨x, hx, e⟩;have := h x hx;rw [decide_eq_true_eq] at this;exact this e
 ·intro h x hx;rw [decide_eq_true_eq];exact fun e => h ⟨x, hx, e⟩
theorem Srt.of_names {l l' : List Fl} (h : Srt l) (e : l'.map (·.name) = l.map (·.name)) : Srt l' := by
 have h1 : (l.map (·.name)).Pairwise fun a b => a < b := List.pairwise_map.2 h;rw [← e] at h1;exact List.pairwise_map.1 h1
theorem sortF_perm {l l' : List Fl} (hs : Srt l') (hp : l.Perm l') : sortF l = l' := by
 have h3 : (sortF l).Perm l' := (List.mergeSort_perm _ _).trans hp;refine List.Perm.eq_of_pairwise (le := fun a b => leS a.name b.name = true) (fun a b ha hb h1 h2 => ?_) (List.pairwise_mergeSort (le := fun a b : Fl => leS a.name b.name) (fun a b c => leS_trans a.name b.name c.name) (fun a b => leS_total a.name b.name) _) (List.Pairwise.imp (fun {a b} hab => ?_) hs) h3
 ·simp only [leS, decide_eq_true_eq] at h1 h2;have e := List.le_antisymm h1 h2;have h4 := lookF_mem hs (h3.mem_iff.1 ha);have h5 := lookF_mem hs hb;rw [e, h5] at h4;exact (Option.some.inj h4).symm
 ·simp only [leS, decide_eq_true_eq];exact fun e => List.lt_irrefl _ (List.lt_trans hab e)
theorem files_perm {m : List (List UInt8 × Fl)} {l : List Fl} (hk : (keysK m).Nodup) (hs : Srt l) (h : ∀ n, lookK m n = lookF l n) : (m.map (·.2)).Perm l ∧ (m.map (·.2.name)).Nodup := by
 have h1 : ∀ p ∈ m, p.2.name = p.1 := fun p hp => by
  have h2 : lookK m p.1 = some p.2 := (lookK_mem hk).2 hp;rw [h] at h2;exact (lookF_some h2).2
 have h2 : m.map (·.2.name) = keysK m := List.map_congr_left h1;have h3 : (m.map (·.2.name)).Nodup := by rw [h2]; exact hk
 refine ⟨(List.perm_ext_iff_of_nodup ?_ ?_).2 fun x => ?_, h3⟩
 ·have h4 : ((m.map (·.2)).map (·.name)).Nodup := by rw [List.map_map]; exact h3
  exact List.Pairwise.of_map (·.name) (fun a b hab e => hab (congrArg Fl.name e)) h4
 ·exact List.Pairwise.imp (fun {a b} hab e => by rw [e] at hab; exact List.lt_irrefl _ hab) hs
 ·constructor
  ·intro hx;obtain ⟨p, hp, rfl⟩ := List.mem_map.1 hx;have h5 : lookK m p.1 = some p.2 := (lookK_mem hk).2 hp;rw [h] at h5;exact (lookF_some h5).1
  ·intro hx;have h5 := lookF_mem hs hx;rw [← h] at h5;exact List.mem_map.2 ⟨_, (lookK_mem hk).1 h5, rfl⟩
theorem rel_file {fl l : List Fl} {C : Ch} (h : RelC fl C l) {x : Fl} (hx : x ∈ l) : (C.file x.name).data = x.data := by
 unfold Ch.file;rw [h.files, lookF_mem h.srt hx];show (fileOf x).data = _;unfold fileOf;split <;> rfl
theorem lay_all {fl l : List Fl} {C : Ch} {many : Int} (hw : Wl fl many) (hr : RelC fl C l) (ht : C.taken = takenOf fl) (hf : C.free = leftOf' fl many) (hl : C.l = []) :
  (laidF fl (slotsTo fl 40) (freeOf (gnodes fl) many) l = none → (C.lay fl).1 = false) ∧
  ∀ w l', laidF fl (slotsTo fl 40) (freeOf (gnodes fl) many) l = some (w, l') → (C.lay fl).1 = decide ((w ++ goneF fl l').length ≤ 150) ∧ (C.lay fl).2.l = w ++ goneF fl l' ∧ sortF ((C.lay fl).2.files.map (·.2)) = l' ∧
   ((C.lay fl).2.files.map (·.2.name)).Nodup ∧ (C.lay fl).2.files.length = l'.length ∧ l'.map (·.name) = l.map (·.name) := by
 rw [slots_taken, hw.gnodes, ← hw.left, ← ht, ← hf];obtain ⟨h1, h2⟩ := lay_eq hw.srt (fun x hx => (hw.fil x hx).2.2.1) l C hr.srt (fun x hx _ => rel_file hr hx) hr.kf;rw [← put_names hr] at h1 h2;refine ⟨fun h => ?_, fun w l' h => ?_⟩
 ·have := h1 h;unfold Ch.lay;rw [if_neg (by rw [this]; exact Bool.false_ne_true)]
 ·obtain ⟨a1, a2, a3, a4, a5, a6⟩ := h2 w l' h;rw [put_names hr] at a1 a2 a3 a4 a5;rw [hl, List.nil_append] at a2;have hlay : C.lay fl = (decide ((w ++ goneW (layNames (wasOf fl) C (putsOf l)).2.files fl).length ≤ 150), { (layNames (wasOf fl) C (putsOf l)).2 with l := w ++ goneW (layNames (wasOf fl) C (putsOf l)).2.files fl }) := by
   unfold Ch.lay;rw [put_names hr, if_pos a1, a2]
  have hs' : Srt l' := hr.srt.of_names a6;have hlk : ∀ n, lookK (layNames (wasOf fl) C (putsOf l)).2.files n = lookF l' n := by
   intro n;by_cases hn : n ∈ putsOf l
   ·exact a3 n hn
   ·rw [(a4 n hn).1, (a4 n hn).2, hr.files]
    cases hx : lookF l n with
    | none => rfl
    | some x =>
     have hxp : x.put = false := by
      cases hp : x.put with
      | false => rfl
      | true => exact absurd (mem_putsOf.2 ⟨x, (lookF_some hx).1, (lookF_some hx).2, hp⟩) hn
     show some (fileOf x) = _;unfold fileOf;rw [hxp]; rfl
  have hg : goneW (layNames (wasOf fl) C (putsOf l)).2.files fl = goneF fl l' := by
   unfold goneW goneF;congr 2;funext x;rw [hlk, Bool.eq_iff_iff, decide_eq_true_eq, findF_neg, Option.isNone_iff_eq_none]
  obtain ⟨p1, p2⟩ := files_perm a5 hs' hlk;rw [hlay, hg];refine ⟨rfl, rfl, sortF_perm hs' p1, p2, ?_, a6⟩;have := p1.length_eq;rw [List.length_map] at this;exact this
theorem doP_eq {fl : List Fl} {many : Int} {ops : List FOp} (hw : Wl fl many) : doP fl many ops = doR fl many ops := by
 obtain ⟨h1, h2⟩ := doesL_rel (ops := ops) (begin_rel (many := many) hw.srt fun x hx => (hw.fil x hx).1);unfold doP doR;rw [h1];by_cases h0 : (aftF fl ops).1 = 0
 ·rw [if_neg (c := (aftF fl ops).1 ≠ 0) (fun h => h h0), if_neg (c := (aftF fl ops).1 ≠ 0) (fun h => h h0)];have hsm := doesL_same (C := beginC fl many) (ops := ops);obtain ⟨h3, h4⟩ := lay_all hw (h2 h0) hsm.1 hsm.2.1 hsm.2.2
  cases hl : laidF fl (slotsTo fl 40) (freeOf (gnodes fl) many) (aftF fl ops).2 with
  | none =>
   rw [if_pos (h3 hl)]
  | some p =>
   obtain ⟨a1, a2, a3, -, -⟩ := h4 p.1 p.2 hl;rw [a1, a2, a3];show _ = if 150 < (p.1 ++ goneF fl p.2).length then (5, [], fl) else (0, p.1 ++ goneF fl p.2, p.2);by_cases h9 : (p.1 ++ goneF fl p.2).length ≤ 150
   ·rw [if_neg (by simpa using h9), if_neg (by omega)]
   ·rw [if_pos (by simpa using h9), if_pos (by omega)]
 ·rw [if_pos h0, if_pos h0]
theorem doesL_put {ops : List FOp} : ∀ {C : Ch}, (doesL C ops).2.put.length ≤ C.put.length + ops.length := by
 induction ops with
 | nil => exact fun {C} => Nat.le_refl _
 | cons o os ih =>
  intro C;have hu : ∀ {l : List (List UInt8 × Unit)}, (updK l o.name ()).length ≤ l.length + 1 := fun {l} => by
   induction l with
   | nil => exact Nat.le_refl _
   | cons p l ih => rw [updK]; split <;> simp only [List.length_cons] <;> omega
  have he : ∀ {l : List (List UInt8 × Unit)}, (eraK l o.name).length ≤ l.length := fun {l} => by
   induction l with
   | nil => exact Nat.le_refl _
   | cons p l ih => rw [eraK]; split <;> simp only [List.length_cons] <;> omega
  have h1 : (C.does o).2.put.length ≤ C.put.length + 1 := by
   unfold Ch.does;split
   ·split
    ·exact Nat.le_trans he (Nat.le_succ _)
    ·exact Nat.le_succ _
   ·split
    ·exact Nat.le_succ _
    ·exact hu
  have h2 := ih (C := (C.does o).2);show (if (C.does o).1 = 0 then doesL (C.does o).2 os else C.does o).2.put.length ≤ _;simp only [List.length_cons];split <;> omega
theorem do_fine {fl : List Fl} {many : Int} {ops : List FOp} (hw : Wl fl many) (hops : ops.length ≤ 1000) (C : Ch) (hC : doesL (beginC fl many) ops = (0, C)) :
  Fine C 0 ∧ C.put.length ≤ 1000 ∧ ((C.lay fl).1 = true → (C.lay fl).2.l.length ≤ 150 ∧ ((C.lay fl).2.files.map (·.2.name)).Nodup ∧ (C.lay fl).2.files.length ≤ 1000000) := by
 obtain ⟨h1, h2⟩ := doesL_rel (ops := ops) (begin_rel (many := many) hw.srt fun x hx => (hw.fil x hx).1);have hsm := doesL_same (C := beginC fl many) (ops := ops);have hpl := doesL_put (C := beginC fl many) (ops := ops);rw [hC] at h1 h2 hsm hpl;have hr := h2 h1.symm;refine ⟨⟨fun n => ?_, ?_, by rw [hsm.2.2]; exact Nat.le_refl 0⟩, Nat.le_trans hpl (by show 0 + ops.length ≤ 1000; omega), fun hl => ?_⟩
 ·unfold Ch.file;rw [hr.files]
  cases hx : lookF (aftF fl ops).2 n with
  | none => exact Nat.zero_le _
  | some x =>
   have hm := (lookF_some hx).1;have : (fileOf x).data = x.data := by unfold fileOf; split <;> rfl
   show (fileOf x).data.length ≤ 600;rw [this]
   cases hp : x.put with
   | false => exact hw.data (hr.old x hm hp)
   | true => exact (hr.new x hm hp).2
 ·rw [hsm.2.1];show (leftOf' fl many).length ≤ _;rw [hw.left];have h3 := freeTo_length (l := nodesOf fl) (n := (many - 40).toNat);have h4 := (roomIs_out hw.room).2.2.1;unfold freeOf;omega
 ·obtain ⟨h3, h4⟩ := lay_all hw hr hsm.1 hsm.2.1 hsm.2.2
  cases he : laidF fl (slotsTo fl 40) (freeOf (gnodes fl) many) (aftF fl ops).2 with
  | none => rw [h3 he] at hl; cases hl
  | some p =>
   obtain ⟨a1, a2, a3, a4, a5, a6⟩ := h4 p.1 p.2 he;rw [a1, decide_eq_true_eq] at hl;refine ⟨by rw [a2]; exact hl, a4, ?_⟩
   have h7 : p.2.length = (aftF fl ops).2.length := by simpa using congrArg List.length a6
   have h8 := aftF_len (l := fl) (ops := ops);have h9 := hw.len;rw [a5, h7];omega
def ApartF (x y : Fl) : Prop := x.slot ≠ y.slot ∧ ∀ p ∈ x.places, p ∉ y.places
theorem ApartF.symm {x y : Fl} (h : ApartF x y) : ApartF y x := ⟨Ne.symm h.1, fun p hp hq => h.2 p hq hp⟩
theorem pw_mem {α : Type} {R : α → α → Prop} (hsym : ∀ a b, R a b → R b a) {l : List α} (h : l.Pairwise R) {a b : α} (ha : a ∈ l) (hb : b ∈ l) (hne : a ≠ b) : R a b := by
 induction l with
 | nil => cases ha
 | cons c l ih =>
  obtain ⟨h1, h2⟩ := List.pairwise_cons.1 h;rcases List.mem_cons.1 ha with ea | ha'
  ·rcases List.mem_cons.1 hb with eb | hb'
   ·exact absurd (ea.trans eb.symm) hne
   ·rw [ea]; exact h1 b hb'
  ·rcases List.mem_cons.1 hb with eb | hb'
   ·rw [eb]; exact hsym _ _ (h1 a ha')
   ·exact ih h2 ha' hb'
theorem placesOf_pw {l : List Fl} : (placesOf (nodesOf l)).Nodup ↔ (∀ x ∈ l, x.places.Nodup) ∧ l.Pairwise fun x y => ∀ p ∈ x.places, p ∉ y.places := by
 unfold placesOf nodesOf;rw [List.flatMap_map];unfold List.Nodup;rw [List.pairwise_flatMap];refine and_congr Iff.rfl ⟨fun h => List.Pairwise.imp (fun {a b} hab p hp hq => hab p hp p hq rfl) h, fun h => List.Pairwise.imp (fun {a b} hab p hp q hq (e : p = q) => hab p hp (by rw [e]; exact hq)) h⟩
theorem Wl.apart {fl : List Fl} {many : Int} (h : Wl fl many) {x y : Fl} (hx : x ∈ fl) (hy : y ∈ fl) (hn : x.name ≠ y.name) : ApartF x y := by
 have hne : x ≠ y := fun e => hn (by rw [e])
 have h1 : fl.Pairwise fun a b => a.slot ≠ b.slot := List.pairwise_map.1 h.slots;have h2 := (placesOf_pw.1 (roomIs_out h.room).2.2.2.2.2.2).2;exact ⟨pw_mem (fun a b hab => Ne.symm hab) h1 hx hy hne, pw_mem (R := fun x y : Fl => ∀ p ∈ x.places, p ∉ y.places) (fun a b hab p hp hq => hab p hq hp) h2 hx hy hne⟩
theorem Wl.rng {fl : List Fl} {many : Int} (h : Wl fl many) {x : Fl} (hx : x ∈ fl) : ∀ p ∈ x.places, 40 ≤ p ∧ p < many := fun p hp =>
 (roomIs_out h.room).2.2.2.2.2.1 p (List.mem_flatMap.2 ⟨x.nd, List.mem_map_of_mem hx, hp⟩)
theorem few_in {l : List Int} : ∀ {n : Nat}, l.Nodup → (∀ i ∈ l, 0 ≤ i ∧ i < n) → l.length ≤ n := by
 intro n
 induction n generalizing l with
 | zero =>
  intro _ h
  cases l with
  | nil => exact Nat.le_refl _
  | cons i l => have := h i (by simp); omega
 | succ n ih =>
  intro hn h;have h1 := ih (l := l.erase (n : Int)) (hn.sublist List.erase_sublist) fun i hi => by
   have h2 := h i (List.mem_of_mem_erase hi);have h3 : i ≠ (n : Int) := fun e => by
    subst e;exact (List.Nodup.not_mem_erase hn) hi
   omega
  have h4 := List.length_erase (a := (n : Int)) (l := l);split at h4 <;> omega
theorem room_mk {fl : List Fl} {many : Int} (hs : (fl.map (·.name)).Nodup) (h1 : ∀ x ∈ fl, 0 ≤ x.slot ∧ x.slot < 40) (h2 : ∀ x ∈ fl, ndIs x.nd = true) (h3 : ∀ x ∈ fl, ∀ p ∈ x.places, 40 ≤ p ∧ p < many)
  (h4 : fl.Pairwise ApartF) (hm : 0 ≤ many ∧ many ≤ 2000) : roomIs (nodesOf fl) many = true := by
 have hsl : (fl.map (·.slot)).Nodup := List.pairwise_map.2 (List.Pairwise.imp (fun {a b} hab => hab.1) h4);have hlen : fl.length ≤ 40 := by
  have := few_in (n := 40) hsl fun i hi => by
   obtain ⟨x, hx, rfl⟩ := List.mem_map.1 hi;exact h1 x hx
  rwa [List.length_map] at this
 have hg : Gd (nodesOf fl) many := by
  refine ⟨fun x hx => ?_, ?_, fun p hp => ?_, ?_⟩
  ·obtain ⟨y, hy, rfl⟩ := List.mem_map.1 hx;exact h2 y hy
  ·show ((fl.map Fl.nd).map (·.name)).Nodup;rw [List.map_map];exact hs
  ·obtain ⟨x, hx, hpx⟩ := List.mem_flatMap.1 hp;obtain ⟨y, hy, rfl⟩ := List.mem_map.1 hx;exact h3 y hy p hpx
  ·exact placesOf_pw.2 ⟨fun x hx => (ndIs_out (h2 x hx)).2.2.2.2.2, List.Pairwise.imp (fun {a b} hab => hab.2) h4⟩
 unfold roomIs;have h0 : (nodesOf fl).length ≤ 40 := by unfold nodesOf; rw [List.length_map]; exact hlen
 simp [h0, hm.1, hm.2, hg]
theorem wl_mk {fl : List Fl} {many : Int} (hs : Srt fl) (h1 : ∀ x ∈ fl, x.put = false ∧ x.size = x.data.length ∧ 0 ≤ x.slot ∧ x.slot < 40) (h2 : ∀ x ∈ fl, ndIs x.nd = true) (h3 : ∀ x ∈ fl, ∀ p ∈ x.places, 40 ≤ p ∧ p < many)
  (h4 : fl.Pairwise ApartF) (hm : 0 ≤ many ∧ many ≤ 2000) : Wl fl many :=
 ⟨hs, h1, List.pairwise_map.2 (List.Pairwise.imp (fun {_ _} hab => hab.1) h4), room_mk hs.nodup (fun x hx => (h1 x hx).2.2) h2 h3 h4 hm⟩
structure Bare (fl : List Fl) (many : Int) (s f : List Int) : Prop where
 sn : s.Nodup
 s : ∀ i ∈ s, (0 ≤ i ∧ i < 40) ∧ ∀ x ∈ fl, x.slot ≠ i
 fn : f.Nodup
 f : ∀ p ∈ f, (40 ≤ p ∧ p < many) ∧ ∀ x ∈ fl, p ∉ x.places
theorem Bare.drop {fl : List Fl} {many : Int} {s f s' : List Int} {n : Nat} (h : Bare fl many s f) (hs : s'.Sublist s) : Bare fl many s' (f.drop n) :=
 ⟨h.sn.sublist hs, fun i hi => h.s i (hs.subset hi), h.fn.sublist (List.drop_sublist _ _), fun p hp => h.f p (List.mem_of_mem_drop hp)⟩
structure Laid (fl : List Fl) (many : Int) (s f : List Int) (l' : List Fl) : Prop where
 fil : ∀ y ∈ l', y.put = false ∧ y.size = y.data.length ∧ 0 ≤ y.slot ∧ y.slot < 40
 nd : ∀ y ∈ l', ndIs y.nd = true ∧ ∀ p ∈ y.places, 40 ≤ p ∧ p < many
 slot : ∀ y ∈ l', (y.slot ∈ s ∧ findF fl y.name < 0) ∨ ∃ z ∈ fl, z.name = y.name ∧ z.slot = y.slot
 places : ∀ y ∈ l', (∀ p ∈ y.places, p ∈ f) ∨ y ∈ fl
 apart : l'.Pairwise ApartF
theorem need_nat {n : Nat} : need (n : Int) = (needN n : Nat) ∧ 0 ≤ need (n : Int) := by
 have : 0 ≤ need (n : Int) := by
  unfold need;split
  ·exact Int.le_refl _
  ·have : 0 ≤ ((n : Int) - 1).tdiv 64 := Int.tdiv_nonneg (by omega) (by decide)
   omega
 exact ⟨by unfold needN; omega, this⟩
theorem laid_wl {fl : List Fl} {many : Int} (hw : Wl fl many) : ∀ (rest : List Fl) (s f : List Int) (w : List Wr) (l' : List Fl), Bare fl many s f → Srt rest → (∀ x ∈ rest, x.put = false → x ∈ fl) → (∀ x ∈ rest, x.put = true → isName x.name = true ∧ x.data.length ≤ 600) →
  laidF fl s f rest = some (w, l') → Laid fl many s f l' ∧ l'.map (·.name) = rest.map (·.name) := by
 intro rest
 induction rest with
 | nil =>
  intro s f w l' _ _ _ _ h
  cases h
  exact ⟨⟨fun y h => (by cases h), fun y h => (by cases h), fun y h => (by cases h), fun y h => (by cases h), List.Pairwise.nil⟩, rfl⟩
 | cons x xs ih =>
  intro s f w l' hb hr ho hn h;have hxn : ∀ y ∈ xs, x.name ≠ y.name := fun y hy e => by
   have := hr.head y hy;rw [e] at this;exact List.lt_irrefl _ this
  have hname : ∀ {l'' : List Fl}, l''.map (·.name) = xs.map (·.name) → ∀ y ∈ l'', x.name ≠ y.name := by
   intro l'' e y hy;have h1 : y.name ∈ xs.map (·.name) := by rw [← e]; exact List.mem_map_of_mem hy
   obtain ⟨z, hz, e2⟩ := List.mem_map.1 h1;rw [← e2];exact hxn z hz
  cases hx : x.put with
  | false =>
   rw [laidF_no hx] at h;obtain ⟨p, hp, he⟩ := Option.map_eq_some_iff.1 h
   cases he
   obtain ⟨⟨i1, i2, i3, i4, i5⟩, i6⟩ := ih s f p.1 p.2 hb hr.cons (fun y hy => ho y (List.mem_cons_of_mem _ hy)) (fun y hy => hn y (List.mem_cons_of_mem _ hy)) hp;have hxf := ho x (by simp) hx
   have hnm := hname i6;refine ⟨⟨fun y hy => ?_, fun y hy => ?_, fun y hy => ?_, fun y hy => ?_, List.pairwise_cons.2 ⟨fun y hy => ⟨?_, ?_⟩, i5⟩⟩, by rw [List.map_cons, List.map_cons, i6]⟩
   ·rcases List.mem_cons.1 hy with rfl | hy
    ·exact hw.fil _ hxf
    ·exact i1 y hy
   ·rcases List.mem_cons.1 hy with rfl | hy
    ·exact ⟨hw.nd hxf, hw.rng hxf⟩
    ·exact i2 y hy
   ·rcases List.mem_cons.1 hy with rfl | hy
    ·exact .inr ⟨_, hxf, rfl, rfl⟩
    ·exact i3 y hy
   ·rcases List.mem_cons.1 hy with rfl | hy
    ·exact .inr hxf
    ·exact i4 y hy
   ·rcases i3 y hy with ⟨h1, -⟩ | ⟨z, hz, e1, e2⟩
    ·exact fun e => (hb.s _ h1).2 x hxf e
    ·rw [← e2];exact (hw.apart hxf hz (by rw [e1]; exact hnm y hy)).1
   ·rcases i4 y hy with h1 | h1
    ·exact fun p hp hq => (hb.f p (h1 p hq)).2 x hxf hp
    ·exact (hw.apart hxf h1 (hnm y hy)).2
  | true =>
   by_cases hbad : (findF fl x.name < 0 ∧ s = []) ∨ f.length < needN x.data.length
   ·rw [laidF_bad hx hbad] at h; cases h
   ·rw [laidF_yes hx hbad] at h;obtain ⟨p, hp, he⟩ := Option.map_eq_some_iff.1 h;obtain ⟨y0, hy0⟩ : ∃ y0, y0 = laidY fl s f x := ⟨_, rfl⟩;rw [← hy0] at he
    cases he
    have hsub : (if 0 ≤ findF fl x.name then s else s.drop 1).Sublist s := by split; exact List.Sublist.refl _; exact List.drop_sublist _ _
    obtain ⟨⟨i1, i2, i3, i4, i5⟩, i6⟩ := ih _ _ p.1 p.2 (hb.drop (n := needN x.data.length) hsub) hr.cons (fun y hy => ho y (List.mem_cons_of_mem _ hy)) (fun y hy => hn y (List.mem_cons_of_mem _ hy)) hp;have hnm := hname i6;obtain ⟨n1, n2⟩ := hn x (by simp) hx
    have e0 : y0.name = x.name := by rw [hy0]; rfl
    have e1 : y0.places = f.take (needN x.data.length) := by rw [hy0]; rfl
    have e2 : y0.data = x.data ∧ y0.size = x.data.length ∧ y0.put = false := by rw [hy0]; exact ⟨rfl, rfl, rfl⟩
    have e3 : y0.slot = if 0 ≤ findF fl x.name then (nth fl (findF fl x.name).toNat).slot else nth s 0 := by rw [hy0]; rfl
    have hslot : (∃ z ∈ fl, z.name = x.name ∧ z.slot = y0.slot ∧ (if 0 ≤ findF fl x.name then s else s.drop 1) = s) ∨ ((y0.slot ∈ s ∧ y0.slot ∉ (if 0 ≤ findF fl x.name then s else s.drop 1)) ∧ findF fl x.name < 0) := by
     by_cases h0 : 0 ≤ findF fl x.name
     ·rw [if_pos h0] at e3 ⊢;have := lookF_some (findF_nth h0).2;exact .inl ⟨_, this.1, this.2, e3.symm, rfl⟩
     ·rw [if_neg h0] at e3 ⊢
      cases hs : s with
      | nil => exact absurd (.inl ⟨by omega, hs⟩) hbad
      | cons i s' =>
       rw [hs] at e3;have h1 := hb.sn;rw [hs] at h1;have e4 : y0.slot = i := e3;rw [e4];exact .inr ⟨⟨by simp, (List.nodup_cons.1 h1).1⟩, by omega⟩
    have hsl40 : 0 ≤ y0.slot ∧ y0.slot < 40 := by
     rcases hslot with ⟨z, hz, -, e, -⟩ | ⟨⟨h1, -⟩, -⟩
     ·rw [← e]; exact (hw.fil z hz).2.2
     ·exact (hb.s _ h1).1
    have hin : ∀ q ∈ y0.places, q ∈ f := by rw [e1]; exact fun q hq => List.mem_of_mem_take hq
    have hm2 := (roomIs_out hw.room).2.2.1;have hnd : ndIs y0.nd = true := by
     have h1 : (y0.nd.places.length : Int) = need y0.nd.size := by
      show (y0.places.length : Int) = need y0.size;rw [e1, e2.2.1, need_nat.1, List.length_take, Nat.min_eq_left (Nat.le_of_not_lt fun h => hbad (.inr h))]
     have h2 : y0.nd.places.all placeOk = true := by
      rw [List.all_eq_true];intro q hq;have := (hb.f q (hin q hq)).1;unfold placeOk;simp only [Bool.and_eq_true, decide_eq_true_eq];omega
     have h3 : y0.nd.places.Nodup := by
      show y0.places.Nodup;rw [e1];exact hb.fn.sublist (List.take_sublist _ _)
     have h4 : isName y0.nd.name = true := by show isName y0.name = true; rw [e0]; exact n1
     have h5 : 0 ≤ y0.nd.size ∧ y0.nd.size ≤ 600 := by show 0 ≤ y0.size ∧ y0.size ≤ 600; rw [e2.2.1]; omega
     unfold ndIs nodeIs;simp only [h1, h2, h3, h4, h5.1, h5.2, decide_true, Bool.and_self]
    refine ⟨⟨fun y hy => ?_, fun y hy => ?_, fun y hy => ?_, fun y hy => ?_, List.pairwise_cons.2 ⟨fun y hy => ⟨?_, ?_⟩, i5⟩⟩, by rw [List.map_cons, List.map_cons, i6, e0]⟩
    ·rcases List.mem_cons.1 hy with rfl | hy
     ·exact ⟨e2.2.2, by rw [e2.2.1, e2.1], hsl40⟩
     ·exact i1 y hy
    ·rcases List.mem_cons.1 hy with rfl | hy
     ·exact ⟨hnd, fun q hq => (hb.f q (hin q hq)).1⟩
     ·exact i2 y hy
    ·rcases List.mem_cons.1 hy with rfl | hy
     ·rcases hslot with ⟨z, hz, h1, h2, -⟩ | h1
      ·exact .inr ⟨z, hz, h1.trans e0.symm, h2⟩
      ·exact .inl ⟨h1.1.1, by rw [e0]; exact h1.2⟩
     ·rcases i3 y hy with h1 | h1
      ·exact .inl ⟨hsub.subset h1.1, h1.2⟩
      ·exact .inr h1
    ·rcases List.mem_cons.1 hy with rfl | hy
     ·exact .inl hin
     ·rcases i4 y hy with h1 | h1
      ·exact .inl fun q hq => List.mem_of_mem_drop (h1 q hq)
      ·exact .inr h1
    ·rcases i3 y hy with ⟨h1, -⟩ | ⟨z', hz', h1, h2⟩
     ·rcases hslot with ⟨z, hz, -, h3, h4⟩ | ⟨⟨-, h3⟩, -⟩
      ·rw [h4] at h1;rw [← h3];exact fun e => (hb.s _ h1).2 z hz e
      ·exact fun e => h3 (e ▸ h1)
     ·rcases hslot with ⟨z, hz, h5, h3, h4⟩ | ⟨⟨h3, -⟩, -⟩
      ·rw [← h3, ← h2];exact (hw.apart hz hz' (by rw [h5, h1]; exact hnm y hy)).1
      ·rw [← h2];exact fun e => (hb.s _ h3).2 z' hz' e.symm
    ·rw [e1];rcases i4 y hy with h1 | h1
     ·intro q hq hq2;have h2 := h1 q hq2;have h3 := hb.fn;rw [← List.take_append_drop (needN x.data.length) f] at h3;exact (List.nodup_append.1 h3).2.2 q hq q h2 rfl
     ·exact fun q hq => (hb.f q (List.mem_of_mem_take hq)).2 y h1
theorem bare_of {fl : List Fl} {many : Int} (hw : Wl fl many) : Bare fl many (slotsTo fl 40) (freeOf (gnodes fl) many) := by
 rw [slots_taken, hw.gnodes];refine ⟨slotsFree_nodup, fun i hi => ?_, freeTo_nodup, fun p hp => ?_⟩
 ·obtain ⟨h1, h2⟩ := mem_slotsFree.1 hi;exact ⟨h1, fun x hx e => h2 (mem_takenOf.2 ⟨x, hx, e⟩)⟩
 ·obtain ⟨h1, h2⟩ := mem_freeTo.1 hp;exact ⟨by omega, fun x hx e => h2 (List.mem_flatMap.2 ⟨x.nd, List.mem_map_of_mem hx, e⟩)⟩
theorem wl_many {fl : List Fl} {many : Int} (hw : Wl fl many) : 0 ≤ many ∧ many ≤ 2000 := ⟨(roomIs_out hw.room).2.1, (roomIs_out hw.room).2.2.1⟩
theorem doR_wl {fl : List Fl} {many : Int} {ops : List FOp} (hw : Wl fl many) : Wl (doR fl many ops).2.2 many := by
 obtain ⟨h1, h2⟩ := doesL_rel (ops := ops) (begin_rel (many := many) hw.srt fun x hx => (hw.fil x hx).1);unfold doR;by_cases h0 : (aftF fl ops).1 = 0
 ·rw [if_neg (c := (aftF fl ops).1 ≠ 0) (fun h => h h0)]
  cases hl : laidF fl (slotsTo fl 40) (freeOf (gnodes fl) many) (aftF fl ops).2 with
  | none => exact hw
  | some p =>
   show Wl (if 150 < (p.1 ++ goneF fl p.2).length then (5, [], fl) else (0, p.1 ++ goneF fl p.2, p.2) : Int × List Wr × List Fl).2.2 many;split
   ·exact hw
   ·have hr := h2 h0;obtain ⟨⟨a1, a2, a3, a4, a5⟩, a6⟩ := laid_wl hw _ _ _ p.1 p.2 (bare_of hw) hr.srt hr.old hr.new hl;exact wl_mk (hr.srt.of_names a6) a1 (fun x hx => (a2 x hx).1) (fun x hx => (a2 x hx).2) a5 (wl_many hw)
 ·rw [if_pos h0];exact hw
theorem insF_perm {l : List Fl} {f : Fl} : (insF l f).Perm (f :: l) := by
 unfold insF;rw [List.append_assoc, List.singleton_append];exact List.perm_middle.trans (by rw [List.take_append_drop])
theorem foldl_ins : ∀ {l r : List Fl}, Srt r → (l.map (·.name)).Nodup → (∀ x ∈ l, ∀ y ∈ r, y.name ≠ x.name) → Srt (l.foldl insF r) ∧ (l.foldl insF r).Perm (l ++ r) := by
 intro l
 induction l with
 | nil => exact fun h _ _ => ⟨h, List.Perm.refl _⟩
 | cons x l ih =>
  intro r hr hn hd;rw [List.map_cons] at hn;obtain ⟨n1, n2⟩ := List.nodup_cons.1 hn;obtain ⟨h1, h2⟩ := ih (hr.ins (f := x) (hd x (by simp))) n2 fun y hy z hz => by
   rcases mem_insF'.1 hz with hz | rfl
   ·exact hd y (List.mem_cons_of_mem _ hy) z hz
   ·exact fun e => n1 (e ▸ List.mem_map_of_mem hy)
  refine ⟨h1, h2.trans ?_⟩;exact (insF_perm.append_left l).trans List.perm_middle
theorem scan_all {d : Dk} : ∀ {k : Nat} {l : List Fl}, scanTo d k = some l → (∀ x ∈ l, x.put = false ∧ 0 ≤ x.slot ∧ x.slot < k) ∧ l.Pairwise fun a b => a.slot < b.slot := by
 intro k
 induction k with
 | zero =>
  intro l h
  cases h
  exact ⟨fun x h => (by cases h), List.Pairwise.nil⟩
 | succ k ih =>
  intro l h;rw [scanTo] at h
  cases hk : scanTo d k with
  | none => rw [hk] at h; cases h
  | some l0 =>
   rw [hk] at h;obtain ⟨h1, h2⟩ := ih hk;have h1' : ∀ x ∈ l0, x.put = false ∧ 0 ≤ x.slot ∧ x.slot < (k + 1 : Nat) := fun x hx => ⟨(h1 x hx).1, (h1 x hx).2.1, by have := (h1 x hx).2.2; omega⟩
   rw [Option.bind_some] at h;split at h
   ·cases h
   ·split at h
    ·cases h; exact ⟨h1', h2⟩
    ·cases h
     refine ⟨fun x hx => ?_, List.pairwise_append.2 ⟨h2, List.pairwise_singleton _ _, fun a ha b hb => ?_⟩⟩
     ·rcases List.mem_append.1 hx with hx | hx
      ·exact h1' x hx
      ·rw [List.mem_singleton.1 hx];exact ⟨rfl, Int.natCast_nonneg _, by show (k : Int) < (k + 1 : Nat); omega⟩
     ·rw [List.mem_singleton.1 hb];exact (h1 a ha).2.2
theorem files_wl {d : Dk} {n : Nat} {l : List Fl} (hw : Ok d n) (h : scanTo d 40 = some l) (hr : roomIs (nodesOf l) d.many = true) :
  sortF (l.map (fillF d)) = (l.map (fillF d)).foldl insF [] ∧ Wl (sortF (l.map (fillF d))) d.many := by
 obtain ⟨h1, h2⟩ := scan_all h;have hnodes : nodesOf (l.map (fillF d)) = nodesOf l := by
  unfold nodesOf;rw [List.map_map];rfl
 obtain ⟨g1, g2, g3, g4, g5, g6, g7⟩ := roomIs_out hr;have hnm : ((l.map (fillF d)).map (·.name)).Nodup := by
  have : (nodesOf l).map (·.name) = (l.map (fillF d)).map (·.name) := by
   unfold nodesOf;rw [List.map_map, List.map_map];rfl
  rw [← this];exact g5
 obtain ⟨p1, p2⟩ := foldl_ins (l := l.map (fillF d)) (r := []) List.Pairwise.nil hnm (fun x _ y hy => (by cases hy))
 rw [List.append_nil] at p2;have he := sortF_perm p1 p2.symm;refine ⟨he, ?_⟩;rw [he];have hmem : ∀ x ∈ (l.map (fillF d)).foldl insF [], ∃ y ∈ l, x = fillF d y := fun x hx => by
  obtain ⟨y, hy, e⟩ := List.mem_map.1 (p2.mem_iff.1 hx);exact ⟨y, hy, e.symm⟩
 refine wl_mk p1 (fun x hx => ?_) (fun x hx => ?_) (fun x hx p hp => ?_) ?_ ⟨g2, g3⟩
 ·obtain ⟨y, hy, rfl⟩ := hmem x hx;obtain ⟨k1, k2, -, -⟩ := nd_held hw hr hy;refine ⟨(h1 y hy).1, ?_, (h1 y hy).2⟩;show y.size = (((held d y.places).take y.size.toNat).length : Nat);rw [List.length_take];omega
 ·obtain ⟨y, hy, rfl⟩ := hmem x hx;show ndIs y.nd = true;exact g4 _ (List.mem_map_of_mem hy)
 ·obtain ⟨y, hy, rfl⟩ := hmem x hx;exact g6 p (List.mem_flatMap.2 ⟨y.nd, List.mem_map_of_mem hy, hp⟩)
 ·have a1 : (l.map (fillF d)).Pairwise fun a b => a.slot ≠ b.slot := List.pairwise_map.2 (List.Pairwise.imp (fun {a b} hab e => by rw [show a.slot = b.slot from e] at hab; exact Int.lt_irrefl _ hab) h2)
  have a2 : (l.map (fillF d)).Pairwise fun x y => ∀ p ∈ x.places, p ∉ y.places := (placesOf_pw.1 (by rw [hnodes]; exact g7)).2
  have a3 : (l.map (fillF d)).Pairwise ApartF := List.Pairwise.imp (fun {a b} hab => ⟨hab.1, hab.2⟩) (a1.and a2);exact (List.Perm.pairwise_iff (fun {x y} h => ApartF.symm h) p2).2 a3
theorem filesD_eq {d : Dk} {n : Nat} (hw : Ok d n) : filesD d = filesG d ∧ ((filesD d).1 = 0 → Wl (filesD d).2 d.many) := by
 unfold filesD filesG;by_cases h0 : d.many < 41
 ·rw [if_pos h0, if_pos h0];exact ⟨rfl, fun h => (by cases h)⟩
 ·rw [if_neg h0, if_neg h0]
  cases hs : scanTo d 40 with
  | none => exact ⟨rfl, fun h => (by cases h)⟩
  | some l =>
   show (if roomIs (nodesOf l) d.many then (0, sortF (l.map (fillF d))) else (13, [])) = (if roomIs (nodesOf l) d.many then (0, (l.map (fillF d)).foldl insF []) else (13, []) : Int × List Fl) ∧ ((if roomIs (nodesOf l) d.many then (0, sortF (l.map (fillF d))) else (13, []) : Int × List Fl).1 = 0 → Wl (if roomIs (nodesOf l) d.many then (0, sortF (l.map (fillF d))) else (13, []) : Int × List Fl).2 d.many);by_cases hr : roomIs (nodesOf l) d.many = true
   ·obtain ⟨e, k⟩ := files_wl hw hs hr;rw [if_pos hr, if_pos hr, e];rw [e] at k;exact ⟨rfl, fun _ => k⟩
   ·rw [if_neg hr, if_neg hr];exact ⟨rfl, fun h => (by cases h)⟩
end Go.VM
