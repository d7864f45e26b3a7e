/- The machine of values, part 4: Go code run on plain data, and that what it answers is what the program answers. No condition. -/
import Derived.Test.YtmahmajoelmmeaaGreatVmC
import Derived.Shelf.SlSortCmp.WholeK
import Derived.Shelf.SlSortCmp.NoneTotal
import Derived.Shelf.SortG.Plain
import Derived.Shelf.SortG.SortNone
section
namespace Go.VM
open Go.RowKit Go.Proofs Go.Shelf
variable {w w' w0 w1 w2 : World} {G G' G0 G1 G2 : Gh} {S S' S1 S2 : Go.VM.St} {P : Program}
theorem anew_get {c F : Array Value} {off k : Nat} : (Go.Sort.putCells id off F c)[k]? = (c[k]?).map fun x => if off ≤ k ∧ k < off + F.size then F[k - off]! else x := by
 simp [Go.Sort.putCells, Array.getElem?_mapIdx]
theorem row_anew {l : Loc} {sz n : Nat} {xs xs' : List D} {F : Array Value} {os : Array Go.Obj} (hr : Rel w G S) (hl : Live S l sz xs false) (hcap : 0 < G.cap l) (hlen : xs'.length = xs.length) (hFs : F.size = xs.length * sz)
  (hw' : w' = Go.Sort.grow (Go.Sort.putRow id (Go.Sort.ahead w n) (G.addr l).1 (G.addr l).2 F) os)
  (hF : ∀ (i j : Nat) (x d : D), xs'[i]? = some x → x.cells[j]? = some d → ∃ v, F[i * sz + j]? = some v ∧ Rep w G.St d v)
  (hz : ∀ x ∈ xs', x.cells.length = sz) (ho : ∀ x ∈ xs', ∀ d ∈ x.cells, d.one = true) : Rel w' G (S.putArr l sz xs' false) ∧ Ext w G w' G := by
 have ha := hr.live hl;obtain ⟨c, e, f, hh, hsz, hrow, hown⟩ := ha.row hcap;simp only [Bool.false_eq_true, if_false] at hown;generalize hb : (G.addr l).1 = blk at hh hown hw';generalize hoff : (G.addr l).2 = off at hsz hrow hw';have hbs : blk < w.heap.size := lt_size hh;have hns : ¬ G.St blk := (hr.wf.own blk l hown.1).2;have hblk : w'.heap[blk]? = some (.cells (Go.Sort.putCells id off F c) e f) := by
  rw [hw', Go.Sort.heap_grow_old _ _ (by simpa [Go.Sort.putRow, Go.Sort.mapBlock, Go.Sort.ahead] using hbs)]
  simp [Go.Sort.putRow, Go.Sort.mapBlock, Go.Sort.ahead, Array.getElem?_modify, hh, Go.Sort.onCells]
 have hoth : ∀ b, b < w.heap.size → b ≠ blk → w'.heap[b]? = w.heap[b]? := by
  intro b hb2 hne;rw [hw', Go.Sort.heap_grow_old _ _ (by simpa [Go.Sort.putRow, Go.Sort.mapBlock, Go.Sort.ahead] using hb2)]
  simp [Go.Sort.putRow, Go.Sort.mapBlock, Go.Sort.ahead, Array.getElem?_modify, Ne.symm hne]
 have hgs : w.heap.size ≤ w'.heap.size := by rw [hw']; simp [Go.Sort.grow, Go.Sort.putRow, Go.Sort.mapBlock, Go.Sort.ahead]
 have hx : Ext w G w' G := ⟨hgs, by rw [hw']; rfl, by rw [hw']; rfl, by rw [hw']; rfl, fun b hb2 hno _ => hoth b hb2 (fun e => by rw [e, hown.1] at hno; cases hno),
  fun b hlt c e f hh2 => ⟨f, (hoth b (lt_size hh2) (fun e => hns (e ▸ hr.wf.lt b hlt))).trans hh2⟩, fun _ h => h, fun _ h => h, fun _ h => ⟨h, rfl, rfl, rfl⟩, fun _ _ h => h, fun _ _ h => .inl h, fun _ _ h => h⟩
 refine ⟨hr.putArr hx (fun b l' hb2 hne => ⟨hoth b (hr.wf.own b l' hb2).1 (fun e => ?_), hb2⟩) ⟨fun b l' hb2 => ⟨Nat.lt_of_lt_of_le (hr.wf.own b l' hb2).1 hgs, (hr.wf.own b l' hb2).2⟩, fun b hb2 => Nat.lt_of_lt_of_le (hr.wf.st b hb2) hgs, hr.wf.lt, hr.wf.max⟩ hl hlen ?_, hx⟩
 ·rw [e, hown.1] at hb2;exact hne (Option.some.inj hb2).symm
 ·refine ⟨ha.dom, ha.esz, hz, ho, by rw [hlen]; exact ha.len, fun _ => ⟨Go.Sort.putCells id off F c, e, f, by rw [hb]; exact hblk, by rw [hoff]; simpa [Go.Sort.putCells] using hsz, fun i j x d hx2 hd => ?_, ?_⟩⟩
  ·obtain ⟨v, hv, hrep⟩ := hF i j x d hx2 hd;have hlt := (Array.getElem?_eq_some_iff.1 hv).1;have hcl : off + i * sz + j < c.size := by
    have := ha.len;have h2 : xs.length * sz ≤ G.cap l * sz := Nat.mul_le_mul_right _ this;omega
   refine ⟨v, ?_, hrep.ext hr.wf hx⟩;rw [hoff, anew_get, Array.getElem?_eq_getElem hcl];have e1 : off + i * sz + j - off = i * sz + j := by omega
   simp only [Option.map_some, e1];rw [if_pos ⟨by omega, by omega⟩]
   rw [getElem!_pos F _ hlt];exact (Array.getElem?_eq_getElem hlt).symm.trans hv
  ·simp only [Bool.false_eq_true, if_false];rw [hb];refine ⟨hown.1, fun k hk => hown.2 k (by simpa [Go.Sort.putCells] using hk)⟩
def strsOf : List D → Option (List (List UInt8))
 | [] => some []
 | .str s :: xs => (strsOf xs).map (s :: ·)
 | _ => none
theorem strsOf_eq : ∀ {xs : List D} {ss : List (List UInt8)}, strsOf xs = some ss → xs = ss.map .str := by
 intro xs
 induction xs with
 | nil => intro ss h; cases h; rfl
 | cons x xs ih =>
  intro ss h;unfold strsOf at h;split at h
  ·rename_i e; cases e
  ·rename_i s xs' e
   cases e
   cases hs : strsOf xs with
   | none => rw [hs] at h; cases h
   | some t => rw [hs] at h; cases h; rw [ih hs]; rfl
  ·cases h
theorem strsOf_map (ss : List (List UInt8)) : strsOf (ss.map .str) = some ss := by
 induction ss with
 | nil => rfl
 | cons s ss ih => simp [strsOf, ih]
def leS (x y : List UInt8) : Bool := decide (x ≤ y)
noncomputable def sortStrT : LV → T LV
 | .lit [] => .ret (.tup [])
 | .ar l sz 0 n => if sz = 1 then arrT l fun sz' xs fz => match strsOf xs with
  | some ss => if fz = false ∧ n = xs.length ∧ sz' = 1 ∧ n < 4611686018427387904 then (setT l 1 ((ss.mergeSort leS).map .str) false).bind fun _ => .ret (.tup []) else .no
  | none => .no else .no
 | _ => .no
noncomputable def sortStrF (args : List LV) (S : Go.VM.St) : Res (LV × Go.VM.St) := match args with
 | [x] => (sortStrT x).run S
 | _ => .no
theorem putRow_map {α : Type} [Inhabited α] (enc : α → Value) (w : World) (blk off : Nat) (d : Array α) : Go.Sort.putRow enc w blk off d = Go.Sort.putRow id w blk off (d.map enc) := by
 unfold Go.Sort.putRow;congr 1;funext c;unfold Go.Sort.putCells;congr 1;funext k x;simp only [Array.size_map];split
 ·rename_i h;have hk : k - off < d.size := by omega
  rw [getElem!_pos d _ hk, getElem!_pos (d.map enc) _ (by simpa using hk)]
  simp
 ·rfl
theorem unit_rel : LVRel w G (.tup []) (.tuple #[]) := .tup [] #[] rfl (fun i c v h => by simp at h)
theorem sortStr_says {f : FuncId} (hE : Enters P f)
  (hS : ∀ (blk off cap : Nat) (ss : List (List UInt8)) (w : World), Go.Sort.Holds encStr w blk off ss.toArray → blk < w.heap.size → ss.length < 4611686018427387904 → Calls P f #[.slice (some ⟨blk, off, none⟩) ss.length cap] w fun e w' => e = .returned (.tuple #[]) ∧ ∃ n os, w' = Go.Sort.grow (Go.Sort.putRow encStr (Go.Sort.ahead w n) blk off (ss.mergeSort leS).toArray) os)
  (hN : ∀ (p : Option Addr) (cap : Nat) (w : World), Calls P f #[.slice p 0 cap] w fun e w' => e = .returned (.tuple #[]) ∧ w' = w) : FarSays P f sortStrF := by
 intro args vs w G S hr hf ha;have hnone : ∀ (p : Option Addr) (cap : Nat), Answers P f [.slice p 0 cap] w fun v w' => ∃ G', LVRel w' G' (.tup []) v ∧ Rel w' G' S ∧ Ext w G w' G' ∧ Fresh G' S := fun p cap => by
  unfold Answers;refine Calls.mono (hN p cap w) fun e w' he => ?_;obtain ⟨rfl, rfl⟩ := he;exact ⟨G, unit_rel, hr, Ext.refl w' G, hf⟩
 unfold sortStrF;split
 case h_2 => exact ⟨(by intro h; cases h), fun r S' h => by cases h⟩
 rename_i x;obtain ⟨hl, hh⟩ := ha
 match vs, hl with
 | [v], _ =>
 have hx : LVRel w G x v := hh 0 x v rfl rfl;unfold sortStrT;split
 ·refine ⟨(by intro h; cases h), fun r S' h => ?_⟩
  cases h
  cases hx with
  | lit _ a h _ _ => exact ⟨hE, hnone a 0⟩
 ·rename_i l sz n _;split
  case isFalse => exact ⟨(by intro h; cases h), fun r S' h => by cases h⟩
  rename_i hsz;subst hsz;refine ⟨fun h => ?_, fun r S' h => ?_⟩
  ·refine (clean_arr (fun sz' xs fz => ?_)).run h;split
   ·split
    ·exact clean_bind (clean_set) fun _ => clean_ret _
    ·trivial
   ·trivial
  ·obtain ⟨sz', xs, fz, hlive, h2⟩ := arrT_run h;split at h2
   case h_2 => cases h2
   rename_i ss hss;split at h2
   case isFalse => cases h2
   rename_i hc;obtain ⟨rfl, rfl, rfl, hbig⟩ := hc;obtain ⟨_, S1, h3, h4⟩ := T.bind_ok h2;rw [setT_run hlive] at h3
   cases h3
   cases h4
   refine ⟨hE, ?_⟩;have hxs := strsOf_eq hss;have hml : (ss.mergeSort leS).length = ss.length := (List.mergeSort_perm ss leS).length_eq
   cases hx with
   | ar _ _ _ _ cap a hd hs hb hcc hadr =>
   have hfresh : Fresh G (S.putArr l 1 ((ss.mergeSort leS).map .str) false) := by
    have hp := putArr_next S l 1 ((ss.mergeSort leS).map .str) false;intro l' hl';have := hf l' hl'
    cases l' with
    | arr id => rw [hp.1]; exact this
    | cell id off v => rw [hp.2]; exact this
   by_cases h0 : xs = []
   ·subst h0;have hss0 : ss = [] := by cases ss with | nil => rfl | cons a b => cases hxs
    subst hss0;have hn := hnone a cap;refine Calls.mono hn fun e w' he => ?_
    cases e with
    | returned v =>
     obtain ⟨G', p1, p2, p3, p4⟩ := he;refine ⟨G', p1, ?_, p3, ?_⟩
     ·have := (p2.putArr (Ext.refl w' G') (Keep.refl w' G' _) p2.wf hlive (xs' := []) (fz' := false) rfl (p2.live hlive));simpa using this
     ·have hp := putArr_next S l 1 ((List.mergeSort ([] : List (List UInt8)) leS).map .str) false;intro l' hl';have := p4 l' hl'
      cases l' with
      | arr id => rw [hp.1]; exact this
      | cell id off v => rw [hp.2]; exact this
    | _ => exact he.elim
   ·have hpos : 0 < xs.length := List.length_pos_iff.2 h0;have hcap : 0 < cap := by omega
    have hG : 0 < G.cap l := by omega
    have ha := hadr hcap;subst ha;have har := hr.live hlive;obtain ⟨c, e, fr, k1, k2, k3, k4⟩ := har.row hG;simp only [Bool.false_eq_true, if_false] at k4;simp only [Nat.zero_mul, Nat.add_zero];have hsl : ss.length = xs.length := by rw [hxs]; simp
    have hcell : ∀ j, j < ss.length → c[(G.addr l).2 + j]? = some (encStr (ss[j]!)) := by
     intro j hj;have hx1 : xs[j]? = some (.str ss[j]!) := by rw [hxs]; simp [hj]
     obtain ⟨v, hv, hrep⟩ := k3 j 0 _ (.str ss[j]!) hx1 rfl;simp only [Nat.mul_one, Nat.add_zero] at hv;rw [hv];generalize ss[j]! = s at hrep
     cases hrep with
     | str s h => simp [encStr]
    have hholds : Go.Sort.Holds encStr w (G.addr l).1 (G.addr l).2 ss.toArray := by
     intro j hj;have hj : j < ss.length := by simpa using hj
     refine ⟨?_, ?_⟩
     ·rw [cell_of k1, hcell j hj]; simp
     ·rw [frozen_of k1];have hlt : (G.addr l).2 + j < c.size := by
       have h5 := har.len;simp only [Nat.mul_one] at k2;omega
      have := k4.2 _ hlt;simpa using this
    have hcall := hS (G.addr l).1 (G.addr l).2 cap ss w hholds (lt_size k1) (by omega)
    rw [hsl] at hcall;refine Calls.mono hcall fun e w' he => ?_;obtain ⟨rfl, n, os, rfl⟩ := he;rw [putRow_map];have hF : ∀ (i j : Nat) (x d : D), ((ss.mergeSort leS).map D.str)[i]? = some x → x.cells[j]? = some d → ∃ v, ((ss.mergeSort leS).toArray.map encStr)[i * 1 + j]? = some v ∧ Rep w G.St d v := by
     intro i j x d hx hd;rw [List.getElem?_map] at hx
     cases hm : (ss.mergeSort leS)[i]? with
     | none => rw [hm] at hx; cases hx
     | some s =>
      rw [hm] at hx
      cases hx
      cases j with
      | succ j => simp [D.cells] at hd
      | zero =>
       simp [D.cells] at hd;subst hd;refine ⟨encStr s, by simp [hm], ?_⟩
       have hmem : s ∈ ss := (List.mergeSort_perm ss leS).mem_iff.1 (List.mem_of_getElem? hm);obtain ⟨k, hk, rfl⟩ := List.getElem_of_mem hmem;obtain ⟨v, hv, hrep⟩ := k3 k 0 (.str ss[k]) (.str ss[k]) (by rw [hxs]; simp [hk]) rfl
       have := hcell k hk;simp only [Nat.mul_one, Nat.add_zero] at hv;rw [hv] at this;have e1 : v = encStr ss[k] := by simpa [hk] using this
       rw [← e1]; exact hrep
    have hz : ∀ x ∈ (ss.mergeSort leS).map D.str, x.cells.length = 1 := by
     intro x hx;obtain ⟨s, _, rfl⟩ := List.mem_map.1 hx; rfl
    have ho : ∀ x ∈ (ss.mergeSort leS).map D.str, ∀ d ∈ x.cells, d.one = true := by
     intro x hx d hd;obtain ⟨s, _, rfl⟩ := List.mem_map.1 hx;simp [D.cells] at hd; subst hd; rfl
    obtain ⟨p1, p2⟩ := row_anew (w := w) (n := n) (os := os) (F := (ss.mergeSort leS).toArray.map encStr) (xs' := (ss.mergeSort leS).map .str) hr hlive hG (by simp [hml, hsl]) (by simp [hml, hsl]) rfl hF hz ho
    exact ⟨G, unit_rel, p1, p2, hfresh⟩
 ·exact ⟨(by intro h; cases h), fun r S' h => by cases h⟩
theorem leS_trans : ∀ a b c : List UInt8, leS a b = true → leS b c = true → leS a c = true := fun a b c h1 h2 => by simp only [leS, decide_eq_true_eq] at *; exact List.le_trans h1 h2
theorem leS_total : ∀ a b : List UInt8, (leS a b || leS b a) = true := fun a b => by simp only [leS, Bool.or_eq_true, decide_eq_true_eq]; exact List.le_total a b
theorem sort_pair {α β : Type} [Inhabited β] {ka : α → List UInt8} {kb : β → List UInt8} {R : α → β → Prop} {xs : List α} {d d' : Array β} (hs : d.size = xs.length) (hR : ∀ (i : Nat) (x : α), xs[i]? = some x → R x d[i]!) (hk : ∀ x y, R x y → ka x = kb y)
  (hnd : (xs.map ka).Nodup) (hp : Go.Sort.PermIn 0 d.size d d') (hsd : Go.Sort.SortedIn (fun x y => decide (kb x < kb y)) 0 d.size d') : ∀ (i : Nat) (x : α), (xs.mergeSort fun x y => leS (ka x) (ka y))[i]? = some x → R x d'[i]! := by
 obtain ⟨hsz, _, hperm⟩ := hp;have e1 : d'.extract 0 d.size = d' := by rw [← hsz]; simp
 have e2 : d.extract 0 d.size = d := by simp
 rw [e1, e2] at hperm;have hxd : d.toList.map kb = xs.map ka := by
  apply List.ext_getElem?
  intro i;rw [List.getElem?_map, List.getElem?_map];by_cases hi : i < xs.length
  ·have h1 := hR i xs[i] (List.getElem?_eq_getElem hi);have h2 : d.toList[i]? = some d[i]! := by rw [Array.getElem?_toList, getElem!_pos d i (by omega)]; exact Array.getElem?_eq_getElem (by omega)
   rw [h2, List.getElem?_eq_getElem hi];simp [hk _ _ h1]
  ·have : d.toList[i]? = none := List.getElem?_eq_none (by simp; omega)
   rw [this, List.getElem?_eq_none (by omega)]
   rfl
 have hnames : (xs.mergeSort fun x y => leS (ka x) (ka y)).map ka = d'.toList.map kb := by
  have p1 : ((xs.mergeSort fun x y => leS (ka x) (ka y)).map ka).Perm (d'.toList.map kb) := by
   refine ((List.mergeSort_perm xs _).map ka).trans ?_;rw [← hxd];exact (hperm.map kb).symm
  refine List.Perm.eq_of_pairwise (le := fun a b => leS a b = true) (fun a b _ _ h1 h2 => ?_) ?_ ?_ p1
  ·simp only [leS, decide_eq_true_eq] at h1 h2;exact List.le_antisymm h1 h2
  ·rw [List.pairwise_map];exact List.pairwise_mergeSort (le := fun x y => leS (ka x) (ka y)) (fun a b c => leS_trans (ka a) (ka b) (ka c)) (fun a b => leS_total (ka a) (ka b)) xs
  ·rw [List.pairwise_map, List.pairwise_iff_getElem];intro i j hi hj hij;have hi' : i < d'.size := by simpa using hi
   have hj' : j < d'.size := by simpa using hj
   have := hsd i j (Nat.zero_le _) hij (by omega)
   rw [getElem!_pos d' j hj', getElem!_pos d' i hi'] at this;simp only [decide_eq_false_iff_not, List.not_lt] at this;simpa [leS] using this
 intro i x hx;have hi : i < (xs.mergeSort fun x y => leS (ka x) (ka y)).length := (List.getElem?_eq_some_iff.1 hx).1;have hil : i < d'.size := by
  have h1 := congrArg List.length hnames;simp only [List.length_map, Array.length_toList] at h1;omega
 have hn := congrArg (fun l => l[i]?) hnames;simp only [List.getElem?_map, hx, Option.map_some, Array.getElem?_toList, Array.getElem?_eq_getElem hil] at hn;have hn : ka x = kb d'[i] := Option.some.inj hn;have hxm : x ∈ xs := (List.mergeSort_perm xs _).mem_iff.1 (List.mem_of_getElem? hx);obtain ⟨m, hm, rfl⟩ := List.getElem_of_mem hxm;have hdm : d'[i] ∈ d.toList := hperm.mem_iff.1 (by simp)
 obtain ⟨k, hkl, hke⟩ := List.getElem_of_mem hdm;have hkl' : k < d.size := by simpa using hkl
 have hkx : k < xs.length := by omega
 have h1 := hR k xs[k] (List.getElem?_eq_getElem hkx);have h2 : d[k]! = d'[i] := by rw [getElem!_pos d k hkl', ← hke]; simp
 rw [h2] at h1;have h3 : ka xs[k] = ka xs[m] := (hk _ _ h1).trans hn.symm;have h4 : k = m := by
  refine (List.getElem?_inj (i := k) (j := m) (by simpa using hkx) hnd).1 ?_
  rw [List.getElem?_map, List.getElem?_map, List.getElem?_eq_getElem hkx, List.getElem?_eq_getElem hm];exact congrArg some h3
 subst h4;rw [getElem!_pos d' i hil];exact h1
structure FV where
 a : Int
 n : List UInt8
 b : Int
 p : {v : Value // v.oneCell' = true}
 q : {v : Value // v.oneCell' = true}
instance : Inhabited FV := ⟨⟨0, [], 0, ⟨.bool true, rfl⟩, ⟨.bool true, rfl⟩⟩⟩
def encFV (x : FV) : List Value := [.int .i64 x.a, encStr x.n, .int .i64 x.b, x.p.1, x.q.1]
def fileK : D → Option (List UInt8)
 | .agg [.int .i64 _, .str n, .int .i64 _, .sl _, .sl _] => some n
 | _ => none
def keyK (x : D) : List UInt8 := (fileK x).getD []
def leK (x y : D) : Bool := leS (keyK x) (keyK y)
open Classical in
noncomputable def sortFileT : LV → T LV
 | .lit [] => .ret (.tup [])
 | .ar l sz 0 n => if sz = 5 then arrT l fun sz' xs fz => if fz = false ∧ n = xs.length ∧ sz' = 5 ∧ n < 4611686018427387904 ∧ (∀ x ∈ xs, fileK x ≠ none) ∧ (xs.map keyK).Nodup then (setT l 5 (xs.mergeSort leK) false).bind fun _ => .ret (.tup []) else .no else .no
 | _ => .no
noncomputable def sortFileF (g : FuncId) (args : List LV) (S : Go.VM.St) : Res (LV × Go.VM.St) := match args with
 | [x, .fn g' []] => if g' = g then (sortFileT x).run S else .no
 | _ => .no
def FileRel (w : World) (St : Nat → Prop) (x : D) (y : FV) : Prop := ∃ p q, x = .agg [.int .i64 y.a, .str y.n, .int .i64 y.b, .sl p, .sl q] ∧ Rep w St (.str y.n) (encStr y.n) ∧ Rep w St (.sl p) y.p.1 ∧ Rep w St (.sl q) y.q.1
theorem file_key {St : Nat → Prop} {x : D} {y : FV} (h : FileRel w St x y) : keyK x = y.n := by
 obtain ⟨p, q, rfl, _⟩ := h; rfl
theorem sl_one {St : Nat → Prop} {p : List D} {v : Value} (h : Rep w St (.sl p) v) : v.oneCell' = true := by cases h <;> rfl
theorem file_at {St : Nat → Prop} {x : D} {c : Array Value} {o : Nat} (hk : fileK x ≠ none) (h : ∀ (j : Nat) (d : D), x.cells[j]? = some d → ∃ v, c[o + j]? = some v ∧ Rep w St d v) :
  ∃ y, FileRel w St x y ∧ ∀ j v, (encFV y)[j]? = some v → c[o + j]? = some v := by
 unfold fileK at hk;split at hk
 case h_2 => exact absurd rfl hk
 rename_i a n b p q;obtain ⟨v0, h0, r0⟩ := h 0 _ rfl;obtain ⟨v1, h1, r1⟩ := h 1 _ rfl;obtain ⟨v2, h2, r2⟩ := h 2 _ rfl;obtain ⟨v3, h3, r3⟩ := h 3 _ rfl;obtain ⟨v4, h4, r4⟩ := h 4 _ rfl
 cases r0
 cases r2
 have e1 : v1 = encStr n := by cases r1 with | str s h => simp [encStr]
 refine ⟨⟨a, n, b, ⟨v3, sl_one r3⟩, ⟨v4, sl_one r4⟩⟩, ⟨p, q, rfl, by rw [← e1]; exact r1, r3, r4⟩, fun j v hv => ?_⟩
 match j with
 | 0 => simp [encFV] at hv; subst hv; exact h0
 | 1 => simp [encFV] at hv; subst hv; rw [← e1]; exact h1
 | 2 => simp [encFV] at hv; subst hv; exact h2
 | 3 => simp [encFV] at hv; subst hv; exact h3
 | 4 => simp [encFV] at hv; subst hv; exact h4
 | j + 5 => simp [encFV] at hv
theorem file_back {St : Nat → Prop} {x : D} {y : FV} (h : FileRel w St x y) : x.cells.length = 5 ∧ (∀ d ∈ x.cells, d.one = true) ∧ ∀ (j : Nat) (d : D), x.cells[j]? = some d → ∃ v, (encFV y)[j]? = some v ∧ Rep w St d v := by
 obtain ⟨p, q, rfl, r1, r3, r4⟩ := h;refine ⟨rfl, fun d hd => ?_, fun j d hd => ?_⟩
 ·simp [D.cells] at hd;rcases hd with rfl | rfl | rfl | rfl | rfl <;> rfl
 ·match j with
  | 0 => simp [D.cells] at hd; subst hd; exact ⟨_, rfl, .int _ _⟩
  | 1 => simp [D.cells] at hd; subst hd; exact ⟨_, rfl, r1⟩
  | 2 => simp [D.cells] at hd; subst hd; exact ⟨_, rfl, .int _ _⟩
  | 3 => simp [D.cells] at hd; subst hd; exact ⟨_, rfl, r3⟩
  | 4 => simp [D.cells] at hd; subst hd; exact ⟨_, rfl, r4⟩
  | j + 5 => simp [D.cells] at hd
theorem sortFile_says {f g : FuncId} (hE : Enters P f)
  (hS : ∀ (blk off cap : Nat) (d : Array FV) (w : World), Go.Sort.HoldsK encFV 5 w blk off d → blk < w.heap.size → d.size < 4611686018427387904 → Calls P f #[.slice (some ⟨blk, off, none⟩) d.size cap, .func (.func g) #[] #[]] w fun e w' => e = .returned (.tuple #[]) ∧ ∃ d' n os, Go.Sort.PermIn 0 d.size d d' ∧ Go.Sort.SortedIn (fun x y => decide (x.n < y.n)) 0 d.size d' ∧ w' = sortWorldK encFV 5 w blk off n d' os)
  (hN : ∀ (p : Option Addr) (cap : Nat) (w : World), Calls P f #[.slice p 0 cap, .func (.func g) #[] #[]] w fun e w' => e = .returned (.tuple #[]) ∧ w' = w) : FarSays P f (sortFileF g) := by
 intro args vs w G S hr hf ha;have hnone : ∀ (p : Option Addr) (cap : Nat), Answers P f [.slice p 0 cap, .func (.func g) #[] #[]] w fun v w' => ∃ G', LVRel w' G' (.tup []) v ∧ Rel w' G' S ∧ Ext w G w' G' ∧ Fresh G' S := fun p cap => by
  unfold Answers;refine Calls.mono (hN p cap w) fun e w' he => ?_;obtain ⟨rfl, rfl⟩ := he;exact ⟨G, unit_rel, hr, Ext.refl w' G, hf⟩
 unfold sortFileF;split
 case h_2 => exact ⟨(by intro h; cases h), fun r S' h => by cases h⟩
 rename_i x g';split
 case isFalse => exact ⟨(by intro h; cases h), fun r S' h => by cases h⟩
 rename_i hgg;subst hgg;obtain ⟨hl, hh⟩ := ha
 match vs, hl with
 | [v, u], _ =>
 have hx : LVRel w G x v := hh 0 x v rfl rfl;have hu : u = .func (.func g') #[] #[] := by
  have := hh 1 _ u rfl rfl
  cases this with
  | fn _ _ cs hl _ =>
   have : cs = #[] := Array.eq_empty_of_size_eq_zero hl.symm;rw [this]
 subst hu;unfold sortFileT;split
 ·refine ⟨(by intro h; cases h), fun r S' h => ?_⟩
  cases h
  cases hx with
  | lit _ a h _ _ => exact ⟨hE, hnone a 0⟩
 ·rename_i l sz n _;split
  case isFalse => exact ⟨(by intro h; cases h), fun r S' h => by cases h⟩
  rename_i hsz;subst hsz;refine ⟨fun h => ?_, fun r S' h => ?_⟩
  ·refine (clean_arr (fun sz' xs fz => ?_)).run h;split
   ·exact clean_bind clean_set fun _ => clean_ret _
   ·trivial
  ·obtain ⟨sz', xs, fz, hlive, h2⟩ := arrT_run h;split at h2
   case isFalse => cases h2
   rename_i hc;obtain ⟨rfl, rfl, rfl, hbig, hfile, hnd⟩ := hc;obtain ⟨_, S1, h3, h4⟩ := T.bind_ok h2;rw [setT_run hlive] at h3
   cases h3
   cases h4
   refine ⟨hE, ?_⟩;have hml : (xs.mergeSort leK).length = xs.length := (List.mergeSort_perm xs leK).length_eq
   cases hx with
   | ar _ _ _ _ cap a hd hs hb hcc hadr =>
   have hfresh : ∀ {G' : Gh}, Fresh G' S → Fresh G' (S.putArr l 5 (xs.mergeSort leK) false) := by
    intro G' h;have hp := putArr_next S l 5 (xs.mergeSort leK) false;intro l' hl';have := h l' hl'
    cases l' with
    | arr id => rw [hp.1]; exact this
    | cell id off v => rw [hp.2]; exact this
   by_cases h0 : xs = []
   ·subst h0;refine Calls.mono (hnone a cap) fun e w' he => ?_
    cases e with
    | returned v =>
     obtain ⟨G', p1, p2, p3, p4⟩ := he;refine ⟨G', p1, ?_, p3, hfresh p4⟩;have := (p2.putArr (Ext.refl w' G') (Keep.refl w' G' _) p2.wf hlive (xs' := []) (fz' := false) rfl (p2.live hlive));simpa using this
    | _ => exact he.elim
   ·have hpos : 0 < xs.length := List.length_pos_iff.2 h0;have hcap : 0 < cap := by omega
    have hG : 0 < G.cap l := by omega
    have ha := hadr hcap;subst ha;have har := hr.live hlive;obtain ⟨c, e, fr, k1, k2, k3, k4⟩ := har.row hG;simp only [Bool.false_eq_true, if_false] at k4;simp only [Nat.zero_mul, Nat.add_zero];have hy : ∀ i : Nat, ∃ y : FV, ∀ x, xs[i]? = some x → FileRel w G.St x y ∧ ∀ j v, (encFV y)[j]? = some v → c[(G.addr l).2 + i * 5 + j]? = some v := by
     intro i;by_cases hi : i < xs.length
     ·obtain ⟨y, h1, h2⟩ := file_at (w := w) (St := G.St) (c := c) (o := (G.addr l).2 + i * 5) (hfile xs[i] (by simp)) (fun j d hd => k3 i j xs[i] d (List.getElem?_eq_getElem hi) hd)
      refine ⟨y, fun x hx => ?_⟩;rw [List.getElem?_eq_getElem hi] at hx
      cases hx
      exact ⟨h1, h2⟩
     ·exact ⟨default, fun x hx => by rw [List.getElem?_eq_none (by omega)] at hx; cases hx⟩
    obtain ⟨Y, hY⟩ := Classical.axiomOfChoice hy
    let d : Array FV := (Array.range xs.length).map Y
    have hds : d.size = xs.length := by simp [d]
    have hdi : ∀ i, i < xs.length → d[i]! = Y i := by
     intro i hi;rw [getElem!_pos d i (by omega)]
     simp [d]
    have hlen5 : ∀ y : FV, (encFV y).length = 5 := fun _ => rfl;have hholds : Go.Sort.HoldsK encFV 5 w (G.addr l).1 (G.addr l).2 d := by
     intro t ht;have ht : t < xs.length * 5 := by simpa [hds] using ht
     have hi : t / 5 < xs.length := by omega
     have hj : t % 5 < 5 := Nat.mod_lt _ (by decide)
     have hval : (Go.Sort.flatK encFV 5 d)[t]! = (encFV (Y (t / 5)))[t % 5]! := by
      rw [Go.Sort.get_flatK _ _ _ _ (by rw [hds]; exact ht), hdi _ hi]
     have hjs : (encFV (Y (t / 5)))[t % 5]? = some ((encFV (Y (t / 5)))[t % 5]!) := by
      rw [getElem!_pos (encFV (Y (t / 5))) (t % 5) (by rw [hlen5]; exact hj)]
      exact List.getElem?_eq_getElem _
     have hcell := (hY (t / 5) _ (List.getElem?_eq_getElem hi)).2 _ _ hjs;have et : (G.addr l).2 + t / 5 * 5 + t % 5 = (G.addr l).2 + t := by omega
     rw [et] at hcell;refine ⟨by rw [cell_of k1, hcell, hval]; rfl, ?_⟩
     rw [frozen_of k1];have hlt : (G.addr l).2 + t < c.size := (Array.getElem?_eq_some_iff.1 hcell).1;have := k4.2 _ hlt;simpa using this
    have hcall := hS (G.addr l).1 (G.addr l).2 cap d w hholds (lt_size k1) (by omega)
    rw [hds] at hcall;refine Calls.mono hcall fun e w' he => ?_;obtain ⟨rfl, d', n, os, hp, hsd, rfl⟩ := he;have hds' : d'.size = xs.length := by rw [hp.1, hds]
    have hpair := sort_pair (ka := keyK) (kb := FV.n) (R := FileRel w G.St) hds (fun i x hx => by
     have hi : i < xs.length := (List.getElem?_eq_some_iff.1 hx).1;rw [hdi i hi]; exact (hY i x hx).1) (fun x y h => file_key h) hnd (by rw [hds]; exact hp) (by rw [hds]; exact hsd)
    have hF : ∀ (i j : Nat) (x dd : D), (xs.mergeSort leK)[i]? = some x → x.cells[j]? = some dd → ∃ v, (Go.Sort.flatK encFV 5 d')[i * 5 + j]? = some v ∧ Rep w G.St dd v := by
     intro i j x dd hx hdd;have hrel := hpair i x hx;obtain ⟨f1, f2, f3⟩ := file_back hrel;have hj : j < 5 := by rw [← f1]; exact (List.getElem?_eq_some_iff.1 hdd).1
     have hi : i < xs.length := by rw [← hml]; exact (List.getElem?_eq_some_iff.1 hx).1
     obtain ⟨v, hv, hrep⟩ := f3 j dd hdd;refine ⟨v, ?_, hrep⟩;have ht : i * 5 + j < d'.size * 5 := by omega
     have hsz5 : i * 5 + j < (Go.Sort.flatK encFV 5 d').size := by simpa using ht
     have := Go.Sort.get_flatK encFV 5 d' (i * 5 + j) ht;rw [getElem!_pos (Go.Sort.flatK encFV 5 d') (i * 5 + j) hsz5] at this;rw [Array.getElem?_eq_getElem hsz5, this];have e1 : (i * 5 + j) / 5 = i := by omega
     have e2 : (i * 5 + j) % 5 = j := by omega
     rw [e1, e2, getElem!_pos (encFV d'[i]!) j (by rw [hlen5]; exact hj)]
     rw [List.getElem?_eq_getElem (by rw [hlen5]; exact hj)] at hv
     exact hv
    have hz : ∀ x ∈ xs.mergeSort leK, x.cells.length = 5 ∧ ∀ dd ∈ x.cells, dd.one = true := by
     intro x hx;obtain ⟨i, hi, rfl⟩ := List.getElem_of_mem hx;obtain ⟨f1, f2, _⟩ := file_back (hpair i _ (List.getElem?_eq_getElem hi));exact ⟨f1, f2⟩
    obtain ⟨p1, p2⟩ := row_anew (w := w) (n := n) (os := os) (F := Go.Sort.flatK encFV 5 d') (xs' := xs.mergeSort leK) hr hlive hG hml (by simp [hds']) rfl hF (fun x hx => (hz x hx).1) (fun x hx => (hz x hx).2)
    exact ⟨G, unit_rel, p1, p2, hfresh hf⟩
 ·exact ⟨(by intro h; cases h), fun r S' h => by cases h⟩
end Go.VM
end
section
namespace Go.VM
open Go.RowKit
variable {w w' w0 w1 w2 : World} {G G' G0 G1 G2 : Gh} {S S' S1 S2 : Go.VM.St} {P : Program}
def Weak (e1 : Env) (S1 : Go.VM.St) (e2 : Env) (S2 : Go.VM.St) : Prop := (∀ i, e2 i = e1 i ∨ e2 i = .un) ∧ (S1.next ≤ S2.next ∧ S1.clk ≤ S2.clk) ∧ ∀ id, S2.obj id = S1.obj id ∨ S2.obj id = .dead
theorem After.weak {a0 a : Act} {e1 e2 : Env} (h : After w0 G0 a0 e1 S1 w G a) (hw : Weak e1 S1 e2 S2) : After w0 G0 a0 e2 S2 w G a := by
 obtain ⟨h1, h2, h3⟩ := hw;refine ⟨⟨h.rel.wf, fun id => ?_⟩, fun i => ?_, h.ext, fun l hl => ?_, h.size, h.marks⟩
 ·rcases h3 id with e | e
  ·rw [e]; exact h.rel.obj id
  ·rw [e]; trivial
 ·rcases h1 i with e | e
  ·rw [e]; exact h.env i
  ·rw [e]; exact .un _
 ·have := h.fresh l hl
  cases l with
  | arr id => exact Nat.lt_of_lt_of_le this h2.1
  | cell id off v => exact Nat.lt_of_lt_of_le this h2.2
theorem seg_sound {cfg0 : Cfg} (hg : cfg0.Good P) {n : Nat} {a0 : Act} (hn : a0.tmps.size = n) {e2 : Env} : ∀ {seg : List Code} {e1 : Env} {S1 : Go.VM.St} {w : World} {G : Gh} {a : Act}, (∀ c ∈ seg, okCodeT true n c = true) → PXL cfg0 seg e1 S1 (fun x e3 S3 => x = .normal ∧ Weak e3 S3 e2 S2) → After w0 G0 a0 e1 S1 w G a →
  ∀ {m : Nat} {tail : Code} {Q : Exit → Act → World → Prop}, (∀ w' G' a', After w0 G0 a0 e2 S2 w' G' a' → tail.wpIn (Fr none) m P Q a' w') → (chain seg tail).wpIn (Fr none) m P Q a w := by
 intro seg
 induction seg with
 | nil =>
  intro e1 S1 w G a _ h hA m tail Q ht;obtain ⟨_, h⟩ := h;exact ht w G a (hA.weak h.2)
 | cons c seg ih =>
  intro e1 S1 w G a hok h hA m tail Q ht;obtain ⟨n1, h⟩ := h;simp only [runL] at h;have hev := ev_sound hg n1;obtain ⟨u1, u2⟩ := code_sound hg.prog hg.mixed (v_sound hg hev) hev true n1 n c (hok c List.mem_cons_self) w G S1 e1 a hA.rel hA.fresh hA.env (hA.size.trans hn)
  cases hco : pexec cfg0 (callV cfg0 n1) (ev cfg0 n1) n1 c e1 S1 with
  | vac => exact absurd hco u1
  | no => rw [hco] at h; exact h.elim
  | ok y =>
   obtain ⟨x, e3, S3⟩ := y;rw [hco] at h;have hx : x = .normal ∧ PXL cfg0 seg e3 S3 (fun x e4 S4 => x = .normal ∧ Weak e4 S4 e2 S2) := by
    cases x with
    | normal => exact ⟨rfl, n1, h⟩
    | exit id => exact absurd h.1 (by intro h; cases h)
    | ret => exact absurd h.1 (by intro h; cases h)
   obtain ⟨rfl, h'⟩ := hx;refine wpIn_seq (u2 _ e3 S3 hco none (fun _ => rfl) m _ fun w1 G1 a1 hA1 => ?_);exact ih (fun c hc => hok c (List.mem_cons_of_mem _ hc)) h' (hA.trans hA1) ht
theorem segOk_map {cfg0 : Cfg} (hg : cfg0.Good P) {n k : Nat} {ops : Array Oper} {blk : Code} (L : MapLoop P n ops k blk) {seg : List Code} (hok : ∀ c ∈ seg, okCodeT true n c = true) {g : Env → Go.VM.St → Option (Env × Go.VM.St)}
  (h : ∀ e S e' S', g e S = some (e', S') → ∃ id ks es, e L.rM = .mp id ∧ S.obj id = .mp ks es ∧ ∃ J : List Nat → Env → Go.VM.St → Prop, J [] (e.set L.rI (.ptr S.next 0)) ((S.set id .dead).alloc .dead) ∧ (∀ vi e1 S1, J vi e1 S1 → e1 L.rI = .ptr S.next 0) ∧
   (∀ (vi : List Nat) (i : Nat) (p : D × D) (e1 : Env) (S1 : Go.VM.St), J vi e1 S1 → es[i]? = some p → i ∉ vi → PO cfg0 ((L.eops.toList.drop 1).map (sop L.eops.toList)) (((e1.set L.rN (.tup [.d (.bool true), .d p.1, .d p.2])).set L.rE (.d (.bool true))).set L.rX (.tup [.d p.1, .d p.2])) S1
    fun e2 S2 => PX cfg0 L.rest e2 S2 fun x e3 S3 => x = .normal ∧ J (vi ++ [i]) e3 S3) ∧
   ∀ vi e1 S1, J vi e1 S1 → vi.Nodup → (∀ i, i ∈ vi ↔ i < es.length) → PXL cfg0 seg ((e1.set L.rN (.tup [.d (.bool false)])).set L.rE (.d (.bool false))) (S1.set id (.mp ks es)) fun x e3 S3 => x = .normal ∧ Weak e3 S3 e' S') : SegOk P n ops k blk seg g := by
 intro w G S e a hr hf he hn e' S' hgs m tail Q ht;obtain ⟨id, ks, es, hm, hob, J, h0, hJ, step, hfin⟩ := h e S e' S' hgs;refine map_loop hg L J hr hf he hn hm hob h0 hJ step fun vi e1 S1 w' G' a' j hnd hcov hA => ?_;exact seg_sound hg hn hok (hfin vi e1 S1 j hnd hcov) hA ht
theorem visit_perm {α : Type} [Inhabited α] {l : List α} {vi : List Nat} (h1 : vi.Nodup) (h2 : ∀ i, i ∈ vi ↔ i < l.length) : (vi.map (nth l)).Perm l := by
 have hp : vi.Perm (List.range l.length) := (List.perm_ext_iff_of_nodup h1 List.nodup_range).2 fun i => by rw [h2, List.mem_range]
 have := hp.map (nth l);rw [show (List.range l.length).map (nth l) = l from ?_] at this
 ·exact this
 ·apply List.ext_getElem
  ·simp
  ·intro i h3 h4;simp [nth, h4]
def cutC : Nat → Code → List Code
 | n + 1, .seq x c => x :: cutC n c
 | _, _ => []
def restC : Nat → Code → Code
 | n + 1, .seq _ c => restC n c
 | _, c => c
def fstC : Code → Code
 | .seq a _ => a
 | c => c
def sndC : Code → Code
 | .seq _ b => b
 | c => c
def opsC : Code → Array Oper
 | .region _ o _ => o
 | _ => #[]
def idC : Code → Nat
 | .region i _ _ => i
 | _ => 0
def altOf (c : Code) (n k m : Nat) (mac : Env → Go.VM.St → Option (Env × Go.VM.St)) : Alt :=
 ⟨cutC n c, idC (fstC (fstC (restC n c))), opsC (fstC (fstC (restC n c))), k, mac, restC (n + 1 + m) c⟩
theorem PX_weak {cfg : Cfg} {c : Code} {e : Env} {S : Go.VM.St} {Q Q' : Ex → Env → Go.VM.St → Prop} (h : PX cfg c e S Q) (hq : ∀ x e' S', Q x e' S' → Q' x e' S') : PX cfg c e S Q' := by
 obtain ⟨n, h⟩ := h;exact ⟨n, holds_mono (fun r hr => hq _ _ _ hr) h⟩
theorem PXL_chain {cfg : Cfg} {c : Code} {Q : Ex → Env → Go.VM.St → Prop} : ∀ {l : List Code} {e : Env} {S : Go.VM.St}, PX cfg (chain l c) e S Q → PXL cfg (l ++ [c]) e S Q := by
 intro l
 induction l with
 | nil =>
  intro e S h;refine PXL_cons (PX_weak h fun x e' S' hq => ?_)
  cases x with
  | normal => exact PXL_nil hq
  | exit id => exact hq
  | ret => exact hq
 | cons x l ih =>
  intro e S h;refine PXL_cons (PX_weak (PX_seq.1 h) fun y e' S' hq => ?_)
  cases y with
  | normal => exact ih hq
  | exit id => exact hq
  | ret => exact hq
theorem S_alt {cfg : Cfg} {S : Go.VM.St} {Q : LV → Go.VM.St → Prop} {f : FuncId} {args : List LV} {fn : Func} {c c' p : Code} {q : Alt} (hf : cfg.P.funcs[f]? = some fn) (hb : fn.body = some c) (hok : okCode fn.ntmps c = true) (hn : args.length ≤ fn.ntmps)
  (halt : cfg.alt f = some q) (hc : chain q.pre (.region q.id (q.ops.toList.take q.k).toArray false) = c') (hp : q.post = p)
  (h : PX cfg (hold c' .mk) (Env.init args) S (hold (fun x e' S' => match x with
   | .normal => ∃ e2 S2, q.mac e' S' = some (e2, S2) ∧ PX cfg (hold p .mk) e2 S2 (hold (fun x e' S' => x.ends (holdP ((resultV cfg.P e' S' fn.results.toList).holds (hold (fun v => Q v S') .mk)) .mk)) .mk)
   | x => x.ends (holdP ((resultV cfg.P e' S' fn.results.toList).holds (hold (fun v => Q v S') .mk)) .mk)) .mk)) (hfar : cfg.far f = none := by rfl) : SQ cfg f args S Q := by
 refine SQ_alt hf hb hok hn hfar halt (PXL_chain ?_);have e1 : q.head = .region q.id (q.ops.toList.take q.k).toArray false := by
  unfold Alt.head;congr 1
  apply Array.toList_inj.1
  simp
 rw [e1, hc];subst hp;exact PX_weak h fun x e' S' hq => by cases x <;> exact hq
theorem S_far {cfg : Cfg} {S : Go.VM.St} {Q : LV → Go.VM.St → Prop} {f : FuncId} {args : List LV} {fn : Func} {x : List LV → Go.VM.St → Res (LV × Go.VM.St)} (hf : cfg.P.funcs[f]? = some fn) (hx : cfg.far f = some x) (h : (x args S).holds fun r => Q r.1 r.2) : SQ cfg f args S Q := by
 refine ⟨1, ?_⟩;rw [ev_succ, hf];simp only [hx];exact h
theorem altOk_of {n0 n k m : Nat} {c : Code} {mac : Env → Go.VM.St → Option (Env × Go.VM.St)} (hc : c = chain (cutC n c) (.seq (.seq (fstC (fstC (restC n c))) (sndC (fstC (restC n c)))) (chain (cutC m (sndC (restC n c))) (restC (n + 1 + m) c))))
  (hr : fstC (fstC (restC n c)) = .region (idC (fstC (fstC (restC n c)))) (opsC (fstC (fstC (restC n c)))) false) (hk : k ≤ (opsC (fstC (fstC (restC n c)))).size) (hg : ∀ i, i < k → ((opsC (fstC (fstC (restC n c)))).getD i default).guard = none)
  (hs : SegOk P n0 (opsC (fstC (fstC (restC n c)))) k (sndC (fstC (restC n c))) (cutC m (sndC (restC n c))) mac) : AltOk P n0 (altOf c n k m mac) c := by
 refine ⟨hk, hg, sndC (fstC (restC n c)), cutC m (sndC (restC n c)), ?_, hs⟩;show c = chain (cutC n c) (.seq (.seq (.region (idC (fstC (fstC (restC n c)))) (opsC (fstC (fstC (restC n c)))) false) (sndC (fstC (restC n c)))) (chain (cutC m (sndC (restC n c))) (restC (n + 1 + m) c)));rw [← hr];exact hc
def lpB : Code → Nat
 | .block b _ => b
 | _ => 0
def lpI : Code → Nat
 | .block _ (.loop (.seq (.region i _ _) _)) => i
 | _ => 0
def lpN : Code → Array Oper
 | .block _ (.loop (.seq (.region _ o _) _)) => o
 | _ => #[]
def lpJ : Code → Nat
 | .block _ (.loop (.seq _ (.seq _ (.block b _)))) => b
 | _ => 0
def lpK : Code → Nat
 | .block _ (.loop (.seq _ (.seq _ (.block _ (.seq (.region i _ _) _))))) => i
 | _ => 0
def lpE : Code → Array Oper
 | .block _ (.loop (.seq _ (.seq _ (.block _ (.seq (.region _ o _) _))))) => o
 | _ => #[]
def lpR : Code → Code
 | .block _ (.loop (.seq _ (.seq _ (.block _ (.seq _ r))))) => r
 | _ => .skip
theorem step_PL {cfg : Cfg} {eops : Array Oper} {o0 : Oper} {os : List Oper} {rest c : Code} {e : Env} {S : Go.VM.St} {Q : Ex → Env → Go.VM.St → Prop} (he : eops.toList = o0 :: os) (hc : rest = c)
  (h : PL cfg (hold (o0 :: os) .mk) (hold os .mk) e S (hold (fun e2 S2 => PX cfg (hold c .mk) e2 S2 (hold Q .mk)) .mk)) : PO cfg ((eops.toList.drop 1).map (sop eops.toList)) e S fun e2 S2 => PX cfg rest e2 S2 Q := by
 rw [he, hc];exact h
theorem seg_PX {cfg : Cfg} {seg : List Code} {c : Code} {e : Env} {S : Go.VM.St} {Q : Ex → Env → Go.VM.St → Prop} (hs : seg = [c]) (h : PX cfg (hold c .mk) e S (hold Q .mk)) : PXL cfg seg e S Q := by
 rw [hs];exact PXL_chain (l := []) h
end Go.VM
end
section
namespace Go.VM
variable {cfg : Cfg} {S : St} {K : LV → St → List Nat → List Nat → Prop}
theorem ShD_2 {f : FuncId} {as' : List LV} {a b : Nat} {oa ob : Obj} (hr : as'.flatMap refs = [a]) (hab : a ≠ b) (hoa : S.obj a = oa) (hob : S.obj b = ob) (hra : objRefs oa = [b]) (hrb : objRefs ob = []) (hta : objTame [b, a] oa = true) (htb : objTame [b, a] ob = true) (ha : as'.all (argTame [b, a]) = true)
  (h : SQ cfg f as' (small [(b, ob), (a, oa)]) fun r S1 => TQ (closeV r) S1 fun r' S2 => dataV r' = true ∧ objTame [b, a] (S2.obj b) = true ∧ objTame [b, a] (S2.obj a) = true ∧
   K r' ⟨fun j => if j = a then stampO S.clk (S2.obj a) else if j = b then stampO S.clk (S2.obj b) else S.obj j, S.next, S.clk + 1, S.esc⟩ [a, b] [b, a]) : ShD cfg f as' S K := by
 subst hoa hob;obtain ⟨n, h⟩ := h;refine ⟨n, ?_⟩;have hb : ∀ c, shBody cfg n f as' [(b, S.obj b), (a, S.obj a)] c = (T.ofRes (runSh (ev cfg n) f as' [(b, S.obj b), (a, S.obj a)])).bind fun q => .put b (stampO c (q.2.obj b)) (.put a (stampO c (q.2.obj a)) (.ret q.1)) := by
  intro c;unfold shBody;rw [if_pos ⟨by simp [hta, htb], by simpa using ha⟩]
  rfl
 rw [TL_bind, hr];show TL (.get a fun o => gather 63 (objRefs o ++ []) [(a, o)]) S _;rw [TL_get, hra];show TL (if ([a].elem b) then _ else .get b fun o => gather 62 (objRefs o ++ []) [(b, o), (a, S.obj a)]) S _;have he : ([a].elem b) = false := by
  have hba : (b == a) = false := beq_false_of_ne (Ne.symm hab);simp [List.elem, hba]
 rw [he];simp only [Bool.false_eq_true, if_false];rw [TL_get, hrb];show TL (.tick fun c => shBody cfg n f as' [(b, S.obj b), (a, S.obj a)] c) S _;rw [TL_tick, hb];have hrun : (runSh (ev cfg n) f as' [(b, S.obj b), (a, S.obj a)]).holds fun q => dataV q.1 = true ∧ objTame [b, a] (q.2.obj b) = true ∧ objTame [b, a] (q.2.obj a) = true ∧ K q.1 ⟨fun j => if j = a then stampO S.clk (q.2.obj a) else if j = b then stampO S.clk (q.2.obj b) else S.obj j, S.next, S.clk + 1, S.esc⟩ [a, b] [b, a] := by
  unfold runSh;rw [holds_bind];refine holds_mono (fun q hq => ?_) h;rw [holds_bind];refine holds_mono (fun q' hq' => ?_) hq;have hc : dataV q'.1 = true ∧ allTame [(b, S.obj b), (a, S.obj a)] q'.2 = true := ⟨hq'.1, by simp [allTame, hq'.2.1, hq'.2.2.1]⟩
  rw [if_pos hc];exact hq'
 rw [TL_bind, TL_quiet (q_ofRes _), TQ_ofRes];refine holds_mono (fun q hq => ?_) hrun;have := hq.2.2.2;have e : (⟨fun j => if j = a then stampO S.clk (q.2.obj a) else if j = b then stampO S.clk (q.2.obj b) else S.obj j, S.next, S.clk + 1, S.esc⟩ : St) = (S.tick.set b (stampO S.clk (q.2.obj b))).set a (stampO S.clk (q.2.obj a)) := rfl;rw [e] at this;exact this
open Classical in
noncomputable def roBody (cfg : Cfg) (n : Nat) (f : FuncId) (as' : List LV) (objs : List (Nat × Obj)) : T LV :=
 if (objs.all fun p => objTame (objs.map (·.1)) p.2) = true ∧ (as'.all (argTame (objs.map (·.1)))) = true then
  (T.ofRes (runSh (ev cfg n) f as' objs)).bind fun q => if ∀ p ∈ objs, q.2.obj p.1 = p.2 then .ret q.1 else .no
 else .no
def RoD (cfg : Cfg) (f : FuncId) (as' : List LV) (S : St) (K : LV → St → List Nat → List Nat → Prop) : Prop :=
 ∃ n, TL ((gather 64 (as'.flatMap refs) []).bind fun objs => .tick fun _ => roBody cfg n f as' objs) S K
variable {e : Env}
theorem D1_ro {f : FuncId} {args : Array Operand} {ts : Array TypeId} (h : cfg.mode f = .rdo) : D1 cfg (.call ⟨.value (.func f), args, ts⟩) e S K ↔
  TL (T.mapL prep (args.toList.map (Operand.lv e))) S (hold (fun as' S' r w => RoD cfg f as' S' (hold (fun v S'' r' w' => K v S'' (r ++ r') (w ++ w')) .mk)) .mk) := by
 have hc : callee e (.call ⟨.value (.func f), args, ts⟩) = some (f, args.toList.map (Operand.lv e)) := by simp [callee, Operand.lv]
 unfold D1 stepD;simp only [hc, callT, h, callRo];have key : ∀ n, TL ((T.mapL prep (args.toList.map (Operand.lv e))).bind fun as' => (gather 64 (as'.flatMap refs) []).bind fun objs => .tick fun _ => roBody cfg n f as' objs) S K ↔
   TL (T.mapL prep (args.toList.map (Operand.lv e))) S fun as' S' r w => TL ((gather 64 (as'.flatMap refs) []).bind fun objs => .tick fun _ => roBody cfg n f as' objs) S' fun v S'' r' w' => K v S'' (r ++ r') (w ++ w') := by
  intro n;rw [TL_bind]; exact Iff.rfl
 constructor
 ·rintro ⟨n, hn⟩;have hn := (key n).1 hn;unfold TL at hn ⊢;refine holds_mono (fun r hr => ?_) hn;exact ⟨n, hr⟩
 ·intro hh;unfold TL at hh
  cases hr : (T.mapL prep (args.toList.map (Operand.lv e))).run S with
  | ok r =>
   rw [hr] at hh;obtain ⟨n, hn⟩ := hh;refine ⟨n, (key n).2 ?_⟩;unfold TL;rw [hr]; exact hn
  | no => rw [hr] at hh; exact hh.elim
  | vac =>
   refine ⟨0, (key 0).2 ?_⟩;unfold TL;rw [hr]; trivial
open Classical in
theorem RoD_2 {f : FuncId} {as' : List LV} {a b : Nat} {oa ob : Obj} (hr : as'.flatMap refs = [a]) (hab : a ≠ b) (hoa : S.obj a = oa) (hob : S.obj b = ob) (hra : objRefs oa = [b]) (hrb : objRefs ob = []) (hta : objTame [b, a] oa = true) (htb : objTame [b, a] ob = true) (ha : as'.all (argTame [b, a]) = true)
  (h : SQ cfg f as' (small [(b, ob), (a, oa)]) fun r S1 => TQ (closeV r) S1 fun r' S2 => dataV r' = true ∧ S2.obj b = ob ∧ S2.obj a = oa ∧ K r' S.tick [a, b] []) : RoD cfg f as' S K := by
 subst hoa hob;obtain ⟨n, h⟩ := h;refine ⟨n, ?_⟩;have hb : roBody cfg n f as' [(b, S.obj b), (a, S.obj a)] = (T.ofRes (runSh (ev cfg n) f as' [(b, S.obj b), (a, S.obj a)])).bind fun q => if ∀ p ∈ [(b, S.obj b), (a, S.obj a)], q.2.obj p.1 = p.2 then .ret q.1 else .no := by
  unfold roBody;rw [if_pos ⟨by simp [hta, htb], by simpa using ha⟩]
 rw [TL_bind, hr];show TL (.get a fun o => gather 63 (objRefs o ++ []) [(a, o)]) S _;rw [TL_get, hra];show TL (if ([a].elem b) then _ else .get b fun o => gather 62 (objRefs o ++ []) [(b, o), (a, S.obj a)]) S _;have he : ([a].elem b) = false := by
  have hba : (b == a) = false := beq_false_of_ne (Ne.symm hab);simp [List.elem, hba]
 rw [he];simp only [Bool.false_eq_true, if_false];rw [TL_get, hrb];show TL (.tick fun _ => roBody cfg n f as' [(b, S.obj b), (a, S.obj a)]) S _;rw [TL_tick, hb];have hrun : (runSh (ev cfg n) f as' [(b, S.obj b), (a, S.obj a)]).holds fun q => dataV q.1 = true ∧ q.2.obj b = S.obj b ∧ q.2.obj a = S.obj a ∧ K q.1 S.tick [a, b] [] := by
  unfold runSh;rw [holds_bind];refine holds_mono (fun q hq => ?_) h;rw [holds_bind];refine holds_mono (fun q' hq' => ?_) hq;have hc : dataV q'.1 = true ∧ allTame [(b, S.obj b), (a, S.obj a)] q'.2 = true := ⟨hq'.1, by simp [allTame, hq'.2.1, hq'.2.2.1, hta, htb]⟩
  rw [if_pos hc];exact hq'
 rw [TL_bind, TL_quiet (q_ofRes _), TQ_ofRes];refine holds_mono (fun q hq => ?_) hrun;have hall : ∀ p ∈ [(b, S.obj b), (a, S.obj a)], q.2.obj p.1 = p.2 := by
  intro p hp;simp only [List.mem_cons, List.not_mem_nil, or_false] at hp;rcases hp with rfl | rfl
  ·exact hq.2.1
  ·exact hq.2.2.1
 show TL (if ∀ p ∈ [(b, S.obj b), (a, S.obj a)], q.2.obj p.1 = p.2 then .ret q.1 else .no) S.tick _;rw [if_pos hall];exact hq.2.2.2
theorem D1_mapUpdate {t : TypeId} {m i v : Operand} : D1 cfg (.mapUpdate t m i v) e S K ↔ TL (mapUpdateT cfg.P t (Operand.lv e m) (Operand.lv e i) (Operand.lv e v)) S K := D1_op rfl
theorem D1_makeMap {t : TypeId} : D1 cfg (.makeMap t none) e S K ↔ TL (makeMapT cfg.P t) S K := D1_op rfl
theorem D1_box {t : TypeId} {x : Operand} : D1 cfg (.box t x) e S K ↔ TL (boxT (Operand.lv e x)) S K := D1_op rfl
attribute [simp] D1_mapUpdate D1_makeMap D1_box
variable {Q : LV → St → Prop}
def MQ (cfg : Cfg) (f : FuncId) (ds : List D) (R : Nat → List D → Nat → Prop) : Prop :=
 SQ cfg f (ds.map .d) .empty fun r S' => ∃ id sz xs n, r = .ar (.arr id) sz 0 n ∧ S'.obj id = .arr sz xs false ∧ n ≤ xs.length ∧ 0 < n ∧ R sz xs n
theorem makeV_holds {Sh : FuncId → List LV → St → Res (LV × St)} {f : FuncId} {ds : List D} {R : Nat × List D × Nat → Prop} : (makeV Sh f ds).holds R ↔ (Sh f (ds.map .d) .empty).holds fun r =>
  ∃ id sz xs n, r.1 = .ar (.arr id) sz 0 n ∧ r.2.obj id = .arr sz xs false ∧ n ≤ xs.length ∧ 0 < n ∧ R (sz, xs, n) := by
 unfold makeV;rw [holds_bind];constructor
 ·refine holds_mono fun r h => ?_;split at h
  ·rename_i id sz n h1;split at h
   ·rename_i sz' xs h2;split at h
    ·rename_i hc;obtain ⟨rfl, c1, c2⟩ := hc;exact ⟨id, _, xs, n, h1, h2, c1, c2, h⟩
    ·exact h.elim
   ·exact h.elim
  ·exact h.elim
 ·refine holds_mono fun r h => ?_;obtain ⟨id, sz, xs, n, h1, h2, h3, h4, h6⟩ := h;obtain ⟨r1, S1⟩ := r;simp only at h1 h2;subst h1;simp only [h2];rw [if_pos ⟨trivial, h3, h4⟩];exact h6
theorem D1_mak {f : FuncId} {args : Array Operand} {ts : Array TypeId} (h : cfg.mode f = .mak) : D1 cfg (.call ⟨.value (.func f), args, ts⟩) e S K ↔
  TL (T.mapL toD (args.toList.map (Operand.lv e))) S (hold (fun ds S' r w => MQ cfg f ds (hold (fun sz xs n => K (.ar (.arr S'.next) sz 0 n) (S'.alloc (.arr sz xs false)) r (w ++ [S'.next])) .mk)) .mk) := by
 have hc : callee e (.call ⟨.value (.func f), args, ts⟩) = some (f, args.toList.map (Operand.lv e)) := by simp [callee, Operand.lv]
 unfold D1 stepD;simp only [hc, callT, h];have : ∀ n, TL ((T.mapL toD (args.toList.map (Operand.lv e))).bind fun ds => (T.ofRes (makeV (ev cfg n) f ds)).bind fun p => .new (.arr p.1 p.2.1 false) fun id => .ret (.ar (.arr id) p.1 0 p.2.2) : T LV) S K ↔
   TL (T.mapL toD (args.toList.map (Operand.lv e))) S fun ds S' r w => (makeV (ev cfg n) f ds).holds fun p => K (.ar (.arr S'.next) p.1 0 p.2.2) (S'.alloc (.arr p.1 p.2.1 false)) r (w ++ [S'.next]) := by
  intro n;rw [TL_bind];have : ∀ ds S' r w, TL ((T.ofRes (makeV (ev cfg n) f ds)).bind fun p => .new (.arr p.1 p.2.1 false) fun id => .ret (.ar (.arr id) p.1 0 p.2.2) : T LV) S' (fun a S'' r' w' => K a S'' (r ++ r') (w ++ w')) ↔
    (makeV (ev cfg n) f ds).holds fun p => K (.ar (.arr S'.next) p.1 0 p.2.2) (S'.alloc (.arr p.1 p.2.1 false)) r (w ++ [S'.next]) := by
   intro ds S' r w
   cases makeV (ev cfg n) f ds with
   | ok p =>
    show K (.ar (.arr S'.next) p.1 0 p.2.2) (S'.alloc (.arr p.1 p.2.1 false)) (r ++ []) (w ++ [S'.next]) ↔ K (.ar (.arr S'.next) p.1 0 p.2.2) (S'.alloc (.arr p.1 p.2.1 false)) r (w ++ [S'.next]);rw [List.append_nil]
   | no => exact Iff.rfl
   | vac => exact Iff.rfl
  simp only [hold, this]
 simp only [this];unfold TL MQ SQ hold
 cases (T.mapL toD (args.toList.map (Operand.lv e))).run S with
 | ok r => exact ⟨fun ⟨n, h⟩ => ⟨n, makeV_holds.1 h⟩, fun ⟨n, h⟩ => ⟨n, makeV_holds.2 h⟩⟩
 | no => exact ⟨fun ⟨_, h⟩ => h, fun h => ⟨0, h⟩⟩
 | vac => exact ⟨fun ⟨_, h⟩ => h, fun h => ⟨0, h⟩⟩
theorem D1_bor {f : FuncId} {args : Array Operand} {ts : Array TypeId} (h : cfg.mode f = .bor) : D1 cfg (.call ⟨.value (.func f), args, ts⟩) e S K ↔
  TL (T.mapL peek (args.toList.map (Operand.lv e))) S (hold (fun ds S' r w => VQ cfg f ds (hold (fun v => flatV v = true ∧ K v S' r w) .mk)) .mk) := by
 have hc : callee e (.call ⟨.value (.func f), args, ts⟩) = some (f, args.toList.map (Operand.lv e)) := by simp [callee, Operand.lv]
 unfold D1 stepD;simp only [hc, callT, h];have : ∀ n, TL ((T.mapL peek (args.toList.map (Operand.lv e))).bind fun ds => (T.ofRes (callV cfg n f ds)).bind fun r => if flatV r = true then T.ret r else T.no) S K ↔
   TL (T.mapL peek (args.toList.map (Operand.lv e))) S fun ds S' r w => (callV cfg n f ds).holds fun v => flatV v = true ∧ K v S' r w := by
  intro n;rw [TL_bind];have : ∀ ds S' r w, TL ((T.ofRes (callV cfg n f ds)).bind fun r => if flatV r = true then T.ret r else T.no) S' (fun a S'' r' w' => K a S'' (r ++ r') (w ++ w')) ↔ (callV cfg n f ds).holds fun v => flatV v = true ∧ K v S' r w := by
   intro ds S' r w
   cases callV cfg n f ds with
   | ok v =>
    show TL (if flatV v = true then T.ret v else T.no) S' _ ↔ _;rw [TL_ite];simp [TL_ret, holds_ok]
   | no => exact Iff.rfl
   | vac => exact Iff.rfl
  simp only [hold, this]
 simp only [this];unfold TL VQ hold
 cases (T.mapL peek (args.toList.map (Operand.lv e))).run S with
 | ok r => exact Iff.rfl
 | no => exact ⟨fun ⟨_, h⟩ => h, fun h => ⟨0, h⟩⟩
 | vac => exact ⟨fun ⟨_, h⟩ => h, fun h => ⟨0, h⟩⟩
end Go.VM
end
