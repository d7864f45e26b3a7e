/- The machine of values over the program of chapter 5: its settings, with the library's sorts, and the two places where a map is ranged over. No condition. -/
import Derived.Test.YtmahmajoelmmeaaGreatTy
import Derived.Test.YtmahmajoelmmeaaGreatSo
import Derived.Below
import Derived.ProofKit
namespace Go.VM
open Go.Proofs Go.RowKit
set_option maxRecDepth 4000
def shrs : List Nat := [93, 29, 123, 65, 24, 124, 23, 63, 70, 104, 143, 144, 145, 152, 30, 126, 127, 25, 26, 146, 147, 87, 74, 66, 56, 40, 79]
def shared (f : Nat) : Bool := shrs.elem f
def lnds : List Nat := [34, 36, 103, 128, 83, 61, 68, 69, 33, 82, 45, 49, 51, 101, 62, 90, 91, 48, 99, 57, 31, 11, 46, 86, 14, 42, 43, 80, 81, 44, 12, 32, 54, 20, 28, 55, 21, 10]
def lends : Nat → Bool := fun f => lnds.elem f
def rdos : List Nat := [38, 39, 17, 13, 60, 27, 22, 97]
def reads : Nat → Bool := fun f => rdos.elem f
def bors : List Nat := [58]
def borrows : Nat → Bool := fun f => bors.elem f
def maks : List Nat := [53]
def makes : Nat → Bool := fun f => maks.elem f
noncomputable def cf0 : Cfg := ⟨Tryz.prog, fun f => if shared f then .shr else if lends f then .lnd else if reads f then .rdo else if borrows f then .bor else if makes f then .mak else .val, fun _ => none, fun f => bif Nat.beq f 40 then some (sortFileF 41) else bif Nat.beq f 79 then some sortStrF else none, fun _ => none⟩
theorem cf0_P : cf0.P = Tryz.prog := rfl
theorem cf0_shr {f : FuncId} (h : shared f = true) : cf0.mode f = .shr := by
 show (if shared f = true then Mode.shr else if lends f = true then .lnd else if reads f = true then .rdo else if borrows f = true then .bor else if makes f = true then .mak else .val) = .shr;rw [h]; rfl
theorem P1s0 {f : FuncId} {args : List LV} {S : St} {Q : LV → St → Prop} (h : shared f = true) : PC cf0 f args S Q ↔ SQ cf0 f args S Q := PC_shr (cf0_shr h)
attribute [simp] cf0_P P1s0 lends lnds reads rdos borrows bors makes maks closeV toD toD1 dataV data1 shared shrs allocT buildT fillT dOf? D.isKey makeMapT
theorem enters_ofF {P : Program} {g : FuncId} {fn : Func} {c : Code} (h : P.funcs[g]? = some fn) (hb : fn.body = some c) (hn : (fn.name == "runtime.NumGoroutine") = false) : Enters P g := by
 intro args w;have h1 : fn.name ≠ "runtime.NumGoroutine" := by simpa using hn
 simp [callFunc, h, h1, hb]
theorem names : (Tryz.prog.funcs.all fun f => !(f.name == "runtime.NumGoroutine")) = true := by kernel_rfl
theorem mixed : Tryz.prog.follows .mixedOrders = true := by kernel_rfl
theorem all_enter (g : FuncId) (fn : Func) (c : Code) (h : Tryz.prog.funcs[g]? = some fn) (hb : fn.body = some c) : Enters Tryz.prog g := by
 refine enters_ofF h hb ?_;have := names;rw [Array.all_eq_true] at this;obtain ⟨hg, hx⟩ := Array.getElem?_eq_some_iff.1 h;have := this g hg;rw [hx] at this;simpa using this
theorem yid_none : Tryz.prog.funcs[YID]? = none := Array.getElem?_eq_none (Nat.le_of_ble_eq_true (by kernel_rfl))
theorem yid_val {x : FuncId → Option (List D → Res LV)} {m : FuncId → Option (List LV → St → Res (LV × St))} {q : FuncId → Option Alt} : (⟨Tryz.prog, fun f => if shared f then .shr else if lends f then .lnd else if reads f then .rdo else if borrows f then .bor else if makes f then .mak else .val, x, m, q⟩ : Cfg).mode YID = .val := by
 have h1 : shared YID = false := by decide
 have h2 : lends YID = false := by decide
 have h3 : reads YID = false := by decide
 show (if shared YID = true then Mode.shr else if lends YID = true then .lnd else if reads YID = true then .rdo else if borrows YID = true then .bor else if makes YID = true then .mak else .val) = .val;rw [h1, h2, h3, show borrows YID = false by decide, show makes YID = false by decide]; rfl
theorem fars_ok (g : FuncId) (x : List LV → St → Res (LV × St)) (h : cf0.far g = some x) : FarSays Tryz.prog g x := by
 change (bif Nat.beq g _ then _ else bif Nat.beq g _ then _ else none) = some x at h
 cases h1 : Nat.beq g 40 with
 | true =>
  rw [h1] at h
  cases h
  rw [Nat.eq_of_beq_eq_true h1];exact far_file
 | false =>
  rw [h1] at h
  cases h2 : Nat.beq g 79 with
  | true =>
   rw [h2] at h
   cases h
   rw [Nat.eq_of_beq_eq_true h2];exact far_str
  | false => rw [h2] at h; cases h
theorem good0 : cf0.Good Tryz.prog where
 prog := rfl
 mixed := mixed
 yid := ⟨yid_val, yid_none⟩
 enters := all_enter
 ext g x h := by cases h
 far := fars_ok
 alt g x h := by cases h
theorem far40 {S : St} {Q : LV → St → Prop} {args : List LV} (h : (sortFileF 41 args S).holds fun r => Q r.1 r.2) : SQ cf0 40 args S Q := S_far Tryz.func40 rfl h
theorem far79 {S : St} {Q : LV → St → Prop} {args : List LV} (h : (sortStrF args S).holds fun r => Q r.1 r.2) : SQ cf0 79 args S Q := S_far Tryz.func79 rfl h
def cloneX : List D → Res LV
 | [.sl xs] => if xs = [] ∨ (sized 1 xs ∧ xs.length ≤ 1000000) then .ok (.d (.sl xs)) else .no
 | _ => .no
theorem clone_more {xs : List D} (h0 : xs ≠ []) (h1 : sized 1 xs) (h2 : xs.length ≤ 1000000) : VQ cf0 122 [.sl xs] fun v => v = .d (.sl xs) := by
 refine V_intro rfl (S_intro Tryz.func122 rfl rfl (Nat.le_of_ble_eq_true rfl) ?_);obtain ⟨x, l, rfl⟩ : ∃ x l, xs = x :: l := by
  cases xs with
  | nil => exact absurd rfl h0
  | cons x l => exact ⟨x, l, rfl⟩
 have hb : binT Tryz.prog .eql 39 (some false) (.d (.sl (x :: l))) (.lit []) = .ok (.d (.bool false)) := by
  simp [binT, Tryz.underlying39, eqNil, isNilS]
 have h2' : l.length + 1 ≤ 1000000 := by simpa using h2
 simp [hb, grow_lit0];rw [sized_cons] at h1;exact ⟨h1, by omega, by omega⟩
theorem clone_says : Says Tryz.prog 122 cloneX := by
 intro ds vs w St htop hds;unfold cloneX;split
 case h_2 => exact ⟨(by intro h; cases h), fun r h => by cases h⟩
 rename_i xs;split
 case isFalse => exact ⟨(by intro h; cases h), fun r h => by cases h⟩
 rename_i hc;refine ⟨(by intro h; cases h), fun r h hd => ?_⟩
 cases h
 refine ⟨all_enter _ _ _ Tryz.func122 rfl, ?_⟩;by_cases h0 : xs = []
 ·subst h0;obtain ⟨hl, hh⟩ := hds
  match vs, hl with
  | [v], _ =>
  have hv := hh 0 _ v rfl rfl;have hg : ∀ w', Below w.heap.size w w' → Grows w St w' St := fun w' hb => ⟨hb.size, hb.os, hb.tape, hb.output, hb.block, fun _ h => h, fun _ _ h => h, fun b h => Nat.lt_of_lt_of_le (htop b h) hb.size⟩;have key : ∀ a cap, v = .slice a 0 cap → Answers Tryz.prog 122 [v] w fun v w' => ∃ St', Grows w St w' St' ∧ LVRel w' (gst0 St') (.d (.sl [])) v := by
   rintro a cap rfl;unfold Answers
   cases a with
   | none =>
    refine Calls.mono (Any.slices_Clone_int_nil Tryz.cloneI 0 cap w) fun e w' he => ?_;obtain ⟨rfl, rfl⟩ := he;exact ⟨St, hg _ (Below.refl _ _), .d _ _ (.empty none 0 (by decide))⟩
   | some a =>
    refine Calls.mono (Any.slices_Clone_int_zero Tryz.cloneI a cap w) fun e w' he => ?_;obtain ⟨v', rfl, ho, hne, hb⟩ := he;refine ⟨St, hg _ hb, ?_⟩;rcases ho.2 with ⟨rfl, _⟩ | ⟨g, cap', cur, rfl, _, _, _, hm, _⟩
    ·exact .d _ _ (.empty none 0 (by decide))
    ·exact .d _ _ (.empty _ _ hm)
  cases hv with
  | empty a cap _ => exact key a cap rfl
  | sl _ b off cap sz _ _ _ _ _ _ _ _ => exact key _ cap rfl
 ·have h1 := hc.resolve_left h0;obtain ⟨n, hn⟩ := clone_more h0 h1.1 h1.2;obtain ⟨k1, k2⟩ := v_sound good0 (ev_sound good0 n) _ _ vs w St htop hds
  cases hr : callV cf0 n 122 [.sl xs] with
  | no => rw [hr] at hn; exact hn.elim
  | vac => exact absurd hr k1
  | ok r =>
   rw [hr] at hn;have hr' : r = .d (.sl xs) := hn;subst hr';exact (k2 _ hr rfl).2
noncomputable def layC : Code := (Tryz.f44.body).getD .skip
noncomputable def doC : Code := (Tryz.f12.body).getD .skip
theorem lay_split : layC = chain (cutC 4 layC) (.seq (.seq (fstC (fstC (restC 4 layC))) (sndC (fstC (restC 4 layC)))) (chain (cutC 1 (sndC (restC 4 layC))) (restC 6 layC))) := rfl
theorem do_split : doC = chain (cutC 7 doC) (.seq (.seq (fstC (fstC (restC 7 doC))) (sndC (fstC (restC 7 doC)))) (chain (cutC 1 (sndC (restC 7 doC))) (restC 9 doC))) := rfl
noncomputable def layL : MapLoop Tryz.prog 98 (opsC (fstC (fstC (restC 4 layC)))) 4 (sndC (fstC (restC 4 layC))) where
 t := 91
 rI := 30
 rM := 29
 rN := 31
 rE := 32
 rX := 33
 nops := lpN (sndC (fstC (restC 4 layC)))
 eops := lpE (sndC (fstC (restC 4 layC)))
 rest := lpR (sndC (fstC (restC 4 layC)))
 bi := lpB (sndC (fstC (restC 4 layC)))
 bj := lpJ (sndC (fstC (restC 4 layC)))
 i1 := lpI (sndC (fstC (restC 4 layC)))
 i2 := lpK (sndC (fstC (restC 4 layC)))
 o := (opsC (fstC (fstC (restC 4 layC)))).getD 4 default
 on := (lpN (sndC (fstC (restC 4 layC)))).getD 0 default
 ox := (lpN (sndC (fstC (restC 4 layC)))).getD 1 default
 oe := (lpE (sndC (fstC (restC 4 layC)))).getD 0 default
 size := rfl
 at_ := rfl
 op := ⟨rfl, rfl, rfl⟩
 ty := ⟨_, _, Tryz.underlying91⟩
 nx := ⟨rfl, rfl, rfl, rfl, rfl, rfl, rfl⟩
 en := ⟨rfl, rfl, rfl, rfl⟩
 ok := ⟨by kernel_rfl, by kernel_rfl, by decide, by decide, by decide, by decide⟩
 ne := ⟨by decide, by decide⟩
 code := rfl
theorem merge_perm {α : Type} {le : α → α → Bool} (ht : ∀ a b c, le a b = true → le b c = true → le a c = true) (hto : ∀ a b, (le a b || le b a) = true) {l l' : List α} (hp : l.Perm l') (ha : ∀ a ∈ l, ∀ b ∈ l, le a b = true → le b a = true → a = b) : l.mergeSort le = l'.mergeSort le := by
 refine List.Perm.eq_of_pairwise (le := fun a b => le a b = true) (fun a b h1 h2 h3 h4 => ?_) (List.pairwise_mergeSort ht hto l) (List.pairwise_mergeSort ht hto l') ((List.mergeSort_perm l le).trans (hp.trans (List.mergeSort_perm l' le).symm));exact ha a ((List.mergeSort_perm l le).mem_iff.1 h1) b (hp.mem_iff.2 ((List.mergeSort_perm l' le).mem_iff.1 h2)) h3 h4
theorem key_inj {α β : Type} {l : List α} {k : α → β} (h : (l.map k).Nodup) {a b : α} (ha : a ∈ l) (hb : b ∈ l) (e : k a = k b) : a = b := by
 obtain ⟨i, hi, rfl⟩ := List.getElem_of_mem ha;obtain ⟨j, hj, rfl⟩ := List.getElem_of_mem hb;have := (List.getElem?_inj (i := i) (j := j) (by simpa using hi) h).1 (by simp [hi, hj, e])
 subst this;rfl
theorem merge_str {l l' : List (List UInt8)} (hp : l.Perm l') : l.mergeSort leS = l'.mergeSort leS := merge_perm leS_trans leS_total hp fun a _ b _ h1 h2 => by
 simp only [leS, decide_eq_true_eq] at h1 h2;exact List.le_antisymm h1 h2
def layEnv (e : Env) (n : Nat) (ss : List (List UInt8)) : Env := fun i => if i = 7 then (if ss = [] then .lit [] else .ar (.arr (n + ss.length)) 1 0 ss.length) else if i = 8 ∨ (30 ≤ i ∧ i ≤ 40) then .un else e i
noncomputable def laySt (S : St) (ss : List (List UInt8)) : St := ⟨fun j => if j < S.next then S.obj j else if ss ≠ [] ∧ j = S.next + ss.length then .arr 1 ((ss.mergeSort leS).map .str) false else .dead, S.next + 1 + ss.length, S.clk, S.esc⟩
open Classical in
noncomputable def layMac (e : Env) (S : St) : Option (Env × St) := match e 29 with
 | .mp id => match S.obj id with
  | .mp _ es => match strsOf (es.map (·.1)) with
   | some ss => if id < S.next ∧ es.length ≤ 1000000 ∧ e 7 = .lit [] then some (layEnv e S.next ss, laySt S ss) else none
   | none => none
  | _ => none
 | _ => none
structure LayJ (e : Env) (S : St) (id : Nat) (es : List (D × D)) (vi : List Nat) (e1 : Env) (S1 : St) : Prop where
 it : e1 30 = .ptr S.next 0
 env : ∀ i, i ≠ 7 → i ≠ 8 → ¬ (30 ≤ i ∧ i ≤ 40) → e1 i = e i
 next : S1.next = S.next + 1 + vi.length
 clk : S1.clk = S.clk
 obj : ∀ j, j < S.next → j ≠ id → S1.obj j = S.obj j
 row : e1 7 = if vi = [] then .lit [] else .ar (.arr (S.next + vi.length)) 1 0 vi.length
 arr : vi ≠ [] → S1.obj (S.next + vi.length) = .arr 1 (vi.map fun i => (nth es i).1) false
 len : vi.Nodup ∧ ∀ i ∈ vi, i < es.length
theorem visit_le {n : Nat} {vi : List Nat} (h : vi.Nodup ∧ ∀ i ∈ vi, i < n) : vi.length ≤ n := by
 have := List.Nodup.length_le_of_subset h.1 (l₂ := List.range n) fun i hi => List.mem_range.2 (h.2 i hi);simpa using this
theorem visit_more {n i : Nat} {vi : List Nat} (h : vi.Nodup ∧ ∀ i ∈ vi, i < n) (hi : i < n) (hn : i ∉ vi) : (vi ++ [i]).Nodup ∧ ∀ j ∈ vi ++ [i], j < n :=
 ⟨List.nodup_append.2 ⟨h.1, by simp, fun x hx y hy e => by simp at hy; subst hy; exact hn (e ▸ hx)⟩, fun j hj => by
  rcases List.mem_append.1 hj with h1 | h1
  ·exact h.2 j h1
  ·simp at h1; omega⟩
theorem nth_is {α : Type} [Inhabited α] {l : List α} {i : Nat} {x : α} (h : l[i]? = some x) : nth l i = x := by simp [nth, h]
theorem lay_seg : SegOk Tryz.prog 98 (opsC (fstC (fstC (restC 4 layC)))) 4 (sndC (fstC (restC 4 layC))) (cutC 1 (sndC (restC 4 layC))) layMac := by
 refine segOk_map good0 layL (fun c hc => ?_) fun e S e' S' h => ?_
 ·have : (cutC 1 (sndC (restC 4 layC))).all (okCodeT true 98) = true := by kernel_rfl
  exact List.all_eq_true.1 this c hc
 unfold layMac at h;split at h
 case h_2 => cases h
 rename_i id hid;split at h
 case h_2 => cases h
 rename_i ks es hob;split at h
 case h_2 => cases h
 rename_i ss hss;split at h
 case isFalse => cases h
 rename_i hc;obtain ⟨hlt, hlen, h7⟩ := hc
 cases h
 have hks : ∀ (i : Nat) (p : D × D), es[i]? = some p → ∃ s, p.1 = .str s := by
  intro i p hp;have h1 := strsOf_eq hss;have h2 : (es.map (·.1))[i]? = some p.1 := by rw [List.getElem?_map, hp]; rfl
  rw [h1, List.getElem?_map] at h2
  cases h3 : ss[i]? with
  | none => rw [h3] at h2; cases h2
  | some s => rw [h3] at h2; exact ⟨s, (Option.some.inj h2).symm⟩
 refine ⟨id, ks, es, hid, hob, LayJ e S id es, ?_, fun vi e1 S1 j => j.it, fun vi i p e1 S1 j hp hni => ?_, fun vi e1 S1 j hnd hcov => ?_⟩
 ·refine ⟨rfl, fun i h1 h2 h3 => ?_, rfl, rfl, fun j h1 h2 => ?_, h7, fun h => absurd rfl h, List.nodup_nil, fun i h => (by cases h)⟩
  ·show (if i = 30 then _ else e i) = e i;rw [if_neg (by omega)]
  ·show (if j = S.next then _ else if j = id then _ else S.obj j) = S.obj j;rw [if_neg (by omega), if_neg h2]
 ·obtain ⟨s, hs⟩ := hks i p hp;obtain ⟨j1, j2, j3, j4, j5, j6, j7, j8⟩ := j;have hil : i < es.length := (List.getElem?_eq_some_iff.1 hp).1;have hvl : vi.length ≤ 1000000 := Nat.le_trans (visit_le j8) hlen;have hnx : S1.next = S.next + (vi.length + 1) := by omega
  refine step_PL (o0 := _) (os := [_, _]) rfl (c := .region _ (List.toArray [_, _, _, _, _]) false) rfl ?_;rw [show layL.rX = 33 from rfl, show layL.rE = 32 from rfl, show layL.rN = 31 from rfl];simp [hs];by_cases hv : vi = []
  ·subst hv;rw [j6, if_pos rfl];simp [grow_lit0, fits];refine ⟨by simp [j1], fun i h1 h2 h3 => ?_, by simp [j3], by simp [j4], fun j h1 h2 => ?_, by simp [hnx], fun _ => ?_, visit_more j8 hil hni⟩
   ·have := j2 i h1 h2 h3;simp [show ¬ i = 31 by omega, show ¬ i = 32 by omega, show ¬ i = 33 by omega, show ¬ i = 34 by omega, show ¬ i = 35 by omega, show ¬ i = 36 by omega, show ¬ i = 37 by omega, show ¬ i = 38 by omega, h1, h2, this]
   ·have := j5 j h1 h2;simp [show ¬ j = S1.next by omega, this]
   ·simp [hnx, nth_is hp, hs]
  ·rw [j6, if_neg hv];simp [grow_ar, arrT, j7 hv, fits];refine ⟨by omega, by simp [j1], fun i h1 h2 h3 => ?_, by simp [j3]; omega, by simp [j4], fun j h1 h2 => ?_, by simp [hnx], fun _ => ?_, visit_more j8 hil hni⟩
   ·have := j2 i h1 h2 h3;simp [show ¬ i = 31 by omega, show ¬ i = 32 by omega, show ¬ i = 33 by omega, show ¬ i = 34 by omega, show ¬ i = 35 by omega, show ¬ i = 36 by omega, show ¬ i = 37 by omega, show ¬ i = 38 by omega, h1, h2, this]
   ·have := j5 j h1 h2;simp [show ¬ j = S1.next by omega, show ¬ j = S.next + vi.length by omega, this]
   ·simp [hnx, nth_is hp, hs]
 ·obtain ⟨j1, j2, j3, j4, j5, j6, j7, j8⟩ := j;refine seg_PX (c := .region _ (List.toArray [_, _]) false) rfl ?_;rw [show layL.rE = 32 from rfl, show layL.rN = 31 from rfl];simp;have hse := strsOf_eq hss;have hsl : ss.length = es.length := by
   have := congrArg List.length hse;simpa using this.symm
  have hvl : vi.length = es.length := by
   have := (visit_perm hnd hcov).length_eq;simpa using this
  refine far79 ?_;by_cases hv : vi = []
  ·have h0 : ss = [] := List.eq_nil_of_length_eq_zero (by rw [hsl, ← hvl, hv]; rfl)
   have h1 : es = [] := List.eq_nil_of_length_eq_zero (by rw [← hvl, hv]; rfl)
   rw [j6, if_pos hv];subst hv h0 h1;simp [sortStrF, sortStrT];refine ⟨fun i => ?_, ⟨by simp [laySt, j3], by simp [laySt, j4]⟩, fun j => ?_⟩
   ·by_cases h7 : i = 7
    ·left; subst h7; simp [layEnv, j6]
    ·by_cases h8 : i = 8 ∨ (30 ≤ i ∧ i ≤ 40)
     ·right; simp [layEnv, h7, h8]
     ·left;have := j2 i h7 (by omega) (by omega)
      simp [layEnv, h7, h8, show ¬ i = 31 by omega, show ¬ i = 32 by omega, show ¬ i = 39 by omega, show ¬ i = 40 by omega, this]
   ·by_cases hj : j < S.next
    ·left;by_cases hji : j = id
     ·subst hji; simp [laySt, hlt, hob]
     ·simp [laySt, hj, hji, j5 j hj hji]
    ·right; simp [laySt, hj]
  ·have h0 : ss ≠ [] := fun h => hv (List.eq_nil_of_length_eq_zero (by rw [hvl, ← hsl, h]; rfl))
   rw [j6, if_neg hv];have hne : ¬ S.next + vi.length = id := by omega
   have hxs : (vi.map fun i => (nth es i).1) = (vi.map (nth ss)).map .str := by
    rw [List.map_map];refine List.map_congr_left fun i hi => ?_;have hi' : i < es.length := (hcov i).1 hi;have h2 : (es.map (·.1))[i]? = (ss.map D.str)[i]? := by rw [hse]
    simp only [List.getElem?_map, List.getElem?_eq_getElem hi', List.getElem?_eq_getElem (show i < ss.length by omega), Option.map_some, Option.some.injEq] at h2
    simp [nth, hi', show i < ss.length by omega, h2]
   have hms : (vi.map (nth ss)).mergeSort leS = ss.mergeSort leS := merge_str (visit_perm hnd fun i => by rw [hcov, hsl])
   have hob2 : (S1.set id (.mp ks es)).obj (S.next + vi.length) = .arr 1 ((vi.map (nth ss)).map .str) false := by simp [hne, j7 hv, hxs]
   simp only [sortStrF, sortStrT, arrT, setT, T.run, hob2, strsOf_map, if_true, hms];simp only [List.map_map, List.length_map, show vi.length < 4611686018427387904 by omega, and_self, if_true, T.bind, T.run]
   simp;refine ⟨fun i => ?_, ⟨by simp [laySt, j3]; omega, by simp [laySt, j4]⟩, fun j => ?_⟩
   ·by_cases h7 : i = 7
    ·left; subst h7; simp [layEnv, h0, hsl, hvl, j6, hv]
    ·by_cases h8 : i = 8 ∨ (30 ≤ i ∧ i ≤ 40)
     ·right; simp [layEnv, h7, h8]
     ·left;have := j2 i h7 (by omega) (by omega)
      simp [layEnv, h7, h8, show ¬ i = 31 by omega, show ¬ i = 32 by omega, show ¬ i = 39 by omega, show ¬ i = 40 by omega, this]
   ·by_cases hj : j < S.next
    ·left;by_cases hji : j = id
     ·subst hji; simp [laySt, hlt, hob, show ¬ j = S.next + vi.length by omega]
     ·simp [laySt, hj, hji, j5 j hj hji, show ¬ j = S.next + vi.length by omega]
    ·by_cases hja : j = S.next + vi.length
     ·left;subst hja;simp [laySt, h0, hsl, hvl];intro h;omega
     ·right;simp [laySt, hj, hsl, ← hvl, hja]
noncomputable def doL : MapLoop Tryz.prog 72 (opsC (fstC (fstC (restC 7 doC)))) 4 (sndC (fstC (restC 7 doC))) where
 t := 90
 rI := 52
 rM := 51
 rN := 53
 rE := 54
 rX := 55
 nops := lpN (sndC (fstC (restC 7 doC)))
 eops := lpE (sndC (fstC (restC 7 doC)))
 rest := lpR (sndC (fstC (restC 7 doC)))
 bi := lpB (sndC (fstC (restC 7 doC)))
 bj := lpJ (sndC (fstC (restC 7 doC)))
 i1 := lpI (sndC (fstC (restC 7 doC)))
 i2 := lpK (sndC (fstC (restC 7 doC)))
 o := (opsC (fstC (fstC (restC 7 doC)))).getD 4 default
 on := (lpN (sndC (fstC (restC 7 doC)))).getD 0 default
 ox := (lpN (sndC (fstC (restC 7 doC)))).getD 1 default
 oe := (lpE (sndC (fstC (restC 7 doC)))).getD 0 default
 size := rfl
 at_ := rfl
 op := ⟨rfl, rfl, rfl⟩
 ty := ⟨_, _, Tryz.underlying90⟩
 nx := ⟨rfl, rfl, rfl, rfl, rfl, rfl, rfl⟩
 en := ⟨rfl, rfl, rfl, rfl⟩
 ok := ⟨by kernel_rfl, by kernel_rfl, by decide, by decide, by decide, by decide⟩
 ne := ⟨by decide, by decide⟩
 code := rfl
def doEnv (e : Env) : Env := fun i => if i = 11 ∨ 52 ≤ i then .un else e i
noncomputable def doSt (S : St) (fid : Nat) (c0 : LV) (fs : List D) : St := ⟨fun j => if j < S.next then (if j = fid then .cells [c0, if fs = [] then .lit [] else .own (S.clk + 1100 * fs.length - 100) 5 (fs.mergeSort leK) false] else S.obj j) else .dead, S.next + 1 + 1101 * fs.length, S.clk + 1100 * fs.length, S.esc⟩
open Classical in
noncomputable def doMac (e : Env) (S : St) : Option (Env × St) := match e 51, e 0 with
 | .mp id, .ptr fid 0 => match S.obj id, S.obj fid with
  | .mp _ es, .cells [c0, c1] => if id < S.next ∧ fid < S.next ∧ id ≠ fid ∧ es.length ≤ 1000000 ∧ c1 = .lit [] ∧ (∀ x ∈ es.map (·.2), fileK x ≠ none) ∧ ((es.map (·.2)).map keyK).Nodup then some (doEnv e, doSt S fid c0 (es.map (·.2))) else none
  | _, _ => none
 | _, _ => none
structure DoJ (e : Env) (S : St) (id fid : Nat) (c0 : LV) (es : List (D × D)) (vi : List Nat) (e1 : Env) (S1 : St) : Prop where
 it : e1 52 = .ptr S.next 0
 env : ∀ i, i ≠ 11 → ¬ 52 ≤ i → e1 i = e i
 next : S1.next = S.next + 1 + 1101 * vi.length
 clk : S1.clk = S.clk + 1100 * vi.length
 obj : ∀ j, j < S.next → j ≠ id → j ≠ fid → S1.obj j = S.obj j
 cell : S1.obj fid = .cells [c0, if vi = [] then .lit [] else .own (S.clk + 1100 * vi.length - 100) 5 (vi.map fun i => (nth es i).2) false]
 len : vi.Nodup ∧ ∀ i ∈ vi, i < es.length
theorem fileK_some {x : D} (h : fileK x ≠ none) : ∃ a n b p q, x = .agg [.int .i64 a, .str n, .int .i64 b, .sl p, .sl q] := by
 unfold fileK at h;split at h
 case h_2 => exact absurd rfl h
 rename_i a n b p q;exact ⟨a, n, b, p, q, rfl⟩
theorem do_seg : SegOk Tryz.prog 72 (opsC (fstC (fstC (restC 7 doC)))) 4 (sndC (fstC (restC 7 doC))) (cutC 1 (sndC (restC 7 doC))) doMac := by
 refine segOk_map good0 doL (fun c hc => ?_) fun e S e' S' h => ?_
 ·have : (cutC 1 (sndC (restC 7 doC))).all (okCodeT true 72) = true := by kernel_rfl
  exact List.all_eq_true.1 this c hc
 unfold doMac at h;split at h
 case h_2 => cases h
 rename_i id fid hid hfid;split at h
 case h_2 => cases h
 rename_i ks es c0 c1 hob hof;split at h
 case isFalse => cases h
 rename_i hc;obtain ⟨hlt, hlf, hne, hlen, h1, hfile, hnd0⟩ := hc;subst h1
 cases h
 refine ⟨id, ks, es, hid, hob, DoJ e S id fid c0 es, ?_, fun vi e1 S1 j => j.it, fun vi i p e1 S1 j hp hni => ?_, fun vi e1 S1 j hnd hcov => ?_⟩
 ·refine ⟨rfl, fun i h1 h2 => ?_, rfl, rfl, fun j h1 h2 h3 => ?_, ?_, List.nodup_nil, fun i h => (by cases h)⟩
  ·show (if i = 52 then _ else e i) = e i;rw [if_neg (by omega)]
  ·show (if j = S.next then _ else if j = id then _ else S.obj j) = S.obj j;rw [if_neg (by omega), if_neg h2]
  ·show (if fid = S.next then _ else if fid = id then _ else S.obj fid) = _;rw [if_neg (by omega), if_neg (fun h => hne h.symm)]
   exact hof
 ·obtain ⟨j1, j2, j3, j4, j5, j6, j8⟩ := j;have hil : i < es.length := (List.getElem?_eq_some_iff.1 hp).1;have hvl : vi.length ≤ 1000000 := Nat.le_trans (visit_le j8) hlen;obtain ⟨fa, fn, fb, fp, fq, hx⟩ := fileK_some (hfile p.2 (List.mem_map.2 ⟨p, List.mem_of_getElem? hp, rfl⟩));have hr0 : e1 0 = .ptr fid 0 := by rw [j2 0 (by decide) (by decide)]; exact hfid
  have hfn : ¬ fid = S1.next := by omega
  refine step_PL (o0 := _) (os := [_, _, _]) rfl (c := .region _ (List.toArray [_, _, _, _, _, _, _, _, _, _, _]) true) rfl ?_;rw [show doL.rX = 55 from rfl, show doL.rE = 54 from rfl, show doL.rN = 53 from rfl];simp [hx];refine X_draw (by decide) ?_
  have q4 : ∀ k m, ¬ fid = S1.next + k + m := fun k m => by omega
  have q5 : ∀ k m, ¬ S1.next + k + m = fid := fun k m => by omega
  have q6 : ¬ S1.next = S1.next + 1 + 700 := by omega
  have q8 : ¬ S1.next = fid := by omega
  by_cases hv : vi = []
  ·rw [if_pos hv] at j6;simp [hr0, hfn, j6, nilCheckT, q4, q5, q6, q8, grow_lit0];refine ⟨⟨by decide, by decide⟩, ?_⟩
   refine ⟨by simp [j1], fun i h1 h2 => ?_, by simp [j3]; omega, by simp [j4]; omega, fun j h1 h2 h3 => ?_, ?_, visit_more j8 hil hni⟩
   ·have := j2 i h1 h2;simp [show ¬ i = 53 by omega, show ¬ i = 54 by omega, show ¬ i = 55 by omega, show ¬ i = 56 by omega, show ¬ i = 57 by omega, show ¬ i = 58 by omega, show ¬ i = 59 by omega, show ¬ i = 60 by omega, show ¬ i = 61 by omega, show ¬ i = 62 by omega, show ¬ i = 63 by omega, show ¬ i = 64 by omega, show ¬ i = 65 by omega, show ¬ i = 66 by omega, h1, this]
   ·have := j5 j h1 h2 h3;simp [startD, h3, show ¬ j = S1.next by omega, show ¬ j = S1.next + 1 + 700 by omega, this]
   ·simp [startD, nth_is hp, hx, j4, hv]
    try omega
  ·rw [if_neg hv] at j6;simp [hr0, hfn, j6, nilCheckT, q4, q5, q6, q8, grow_ar];refine ⟨by omega, ⟨by decide, by decide⟩, ?_⟩
   refine ⟨by simp [j1], fun i h1 h2 => ?_, by simp [j3]; omega, by simp [j4]; omega, fun j h1 h2 h3 => ?_, ?_, visit_more j8 hil hni⟩
   ·have := j2 i h1 h2;simp [show ¬ i = 53 by omega, show ¬ i = 54 by omega, show ¬ i = 55 by omega, show ¬ i = 56 by omega, show ¬ i = 57 by omega, show ¬ i = 58 by omega, show ¬ i = 59 by omega, show ¬ i = 60 by omega, show ¬ i = 61 by omega, show ¬ i = 62 by omega, show ¬ i = 63 by omega, show ¬ i = 64 by omega, show ¬ i = 65 by omega, show ¬ i = 66 by omega, h1, this]
   ·have := j5 j h1 h2 h3;simp [startD, h3, show ¬ j = S1.next by omega, show ¬ j = S1.next + 1 + 700 by omega, this]
   ·simp [startD, nth_is hp, hx, j4, hv]
    try omega
 ·obtain ⟨j1, j2, j3, j4, j5, j6, j8⟩ := j;have hr0 : e1 0 = .ptr fid 0 := by rw [j2 0 (by decide) (by decide)]; exact hfid
  refine seg_PX (c := .region _ (List.toArray [_, _, _, _, _]) false) rfl ?_;rw [show doL.rE = 54 from rfl, show doL.rN = 53 from rfl];have q1 : ¬ fid = id := fun h => hne h.symm;have hvl : vi.length = es.length := by
   have := (visit_perm hnd hcov).length_eq;simpa using this
  by_cases hv : vi = []
  ·rw [if_pos hv] at j6;simp [hr0, j6, nilCheckT, q1];refine far40 ?_;have h1 : es = [] := List.eq_nil_of_length_eq_zero (by rw [← hvl, hv]; rfl)
   subst hv h1;simp [sortFileF, sortFileT];refine ⟨fun i => ?_, ⟨by simp [doSt, j3], by simp [doSt, j4]⟩, fun j => ?_⟩
   ·by_cases h8 : i = 11 ∨ 52 ≤ i
    ·right; simp [doEnv, h8]
    ·left;have := j2 i (by omega) (by omega)
     simp [doEnv, h8, show ¬ i = 53 by omega, show ¬ i = 54 by omega, show ¬ i = 67 by omega, show ¬ i = 68 by omega, show ¬ i = 69 by omega, show ¬ i = 70 by omega, show ¬ i = 71 by omega, this]
   ·by_cases hj : j < S.next
    ·left;by_cases hji : j = id
     ·subst hji; simp [doSt, hlt, hob, hne]
     ·by_cases hjf : j = fid
      ·subst hjf; simp [doSt, hlf, j6, hji]
      ·simp [doSt, hj, hji, hjf, j5 j hj hji hjf]
    ·right; simp [doSt, hj]
  ·rw [if_neg hv] at j6;simp [hr0, j6, nilCheckT, q1];refine far40 ?_;have h0 : es.map (·.2) ≠ [] := fun h => hv (List.eq_nil_of_length_eq_zero (by have := congrArg List.length h; simpa [hvl] using this))
   have hpm : (vi.map fun i => (nth es i).2).Perm (es.map (·.2)) := by
    have := (visit_perm hnd hcov).map (·.2);simpa [List.map_map, Function.comp_def] using this
   have hms : (vi.map fun i => (nth es i).2).mergeSort leK = (es.map (·.2)).mergeSort leK := by
    refine merge_perm (fun a b c => leS_trans (keyK a) (keyK b) (keyK c)) (fun a b => leS_total (keyK a) (keyK b)) hpm fun a ha b hb h1 h2 => ?_;simp only [leS, decide_eq_true_eq] at h1 h2;exact key_inj hnd0 (hpm.mem_iff.1 ha) (hpm.mem_iff.1 hb) (List.le_antisymm h1 h2)
   have hob2 : (S1.set id (.mp ks es)).obj fid = .cells [c0, .own (S.clk + 1100 * vi.length - 100) 5 (vi.map fun i => (nth es i).2) false] := by simp [q1, j6]
   have hn2 : (vi.map fun i => (nth es i).2).map keyK |>.Nodup := (hpm.map keyK).nodup_iff.2 hnd0;have hf2 : ∀ x ∈ vi.map fun i => (nth es i).2, fileK x ≠ none := fun x hx => hfile x (hpm.mem_iff.1 hx);have hlv : (vi.map fun i => (nth es i).2).length = vi.length := List.length_map ..;simp only [sortFileF, sortFileT, arrT, setT, T.run, hob2, if_true, List.getElem?_cons_succ, List.getElem?_cons_zero];rw [if_pos ⟨trivial, hlv.symm, trivial, by omega, hf2, hn2⟩]
   simp only [T.bind, T.run, hob2, hms];simp;refine ⟨fun i => ?_, ⟨by simp [doSt, j3]; omega, by simp [doSt, j4]; omega⟩, fun j => ?_⟩
   ·by_cases h8 : i = 11 ∨ 52 ≤ i
    ·right; simp [doEnv, h8]
    ·left;have := j2 i (by omega) (by omega)
     simp [doEnv, h8, show ¬ i = 53 by omega, show ¬ i = 54 by omega, show ¬ i = 67 by omega, show ¬ i = 68 by omega, show ¬ i = 69 by omega, show ¬ i = 70 by omega, show ¬ i = 71 by omega, this]
   ·by_cases hj : j < S.next
    ·left;by_cases hji : j = id
     ·subst hji; simp [doSt, hlt, hob, hne]
     ·by_cases hjf : j = fid
      ·subst hjf;have h00 : es ≠ [] := fun h => h0 (by rw [h]; rfl)
       simp [doSt, hlf, h00, hvl]
      ·simp [doSt, hj, hji, hjf, j5 j hj hji hjf]
    ·right; simp [doSt, hj]
noncomputable def layAlt : Alt := altOf layC 4 4 1 layMac
noncomputable def doAlt : Alt := altOf doC 7 4 1 doMac
theorem lay_ok : AltOk Tryz.prog 98 layAlt layC := altOk_of lay_split rfl (Nat.le_of_ble_eq_true (by kernel_rfl)) (fun i hi => by
 match i, hi with
 | 0, _ => rfl
 | 1, _ => rfl
 | 2, _ => rfl
 | 3, _ => rfl) lay_seg
theorem do_ok : AltOk Tryz.prog 72 doAlt doC := altOk_of do_split rfl (Nat.le_of_ble_eq_true (by kernel_rfl)) (fun i hi => by
 match i, hi with
 | 0, _ => rfl
 | 1, _ => rfl
 | 2, _ => rfl
 | 3, _ => rfl) do_seg
end Go.VM
