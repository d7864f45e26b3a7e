/- The machine of values, part 3: Go code run on plain data, and that what it answers is what the program answers. No condition. -/
import Derived.Test.YtmahmajoelmmeaaVmB
import Derived.WalkKit
import Derived.ProofKit
import Derived.OpenShut
import Derived.ShutString
import Derived.ChangeOld
import Derived.Below
/- The machine of values: rules to reckon with, for slices of any elements. No condition. -/
section
namespace Go.VM
variable {P : Program} {t : TypeId} {S : St} {α : Type}

/-- a slice's elements, by what stands for one -/
def rowD {α : Type} (enc : α → D) (l : List α) : List D := l.map enc
theorem rowD_length {enc : α → D} {l : List α} : (rowD enc l).length = l.length := by simp [rowD]
theorem rowD_nil {enc : α → D} : rowD enc [] = [] := rfl
theorem rowD_get [Inhabited α] {enc : α → D} {l : List α} {i : Nat} : (rowD enc l)[i]? = if i < l.length then some (enc (nth l i)) else none := by
  by_cases h : i < l.length
  · rw [rowD, List.getElem?_map, nth_get h, if_pos h]; rfl
  · rw [rowD, List.getElem?_map, nth_none h, if_neg h]; rfl
theorem rowD_append {enc : α → D} {a b : List α} : rowD enc a ++ rowD enc b = rowD enc (a ++ b) := by simp [rowD]
theorem rowD_snoc {enc : α → D} {a : List α} {x : α} : rowD enc (a ++ [x]) = rowD enc a ++ [enc x] := by simp [rowD]
theorem rowD_one {enc : α → D} {x : α} : rowD enc [x] = [enc x] := rfl
theorem rowD_cons {enc : α → D} {x : α} {l : List α} : rowD enc (x :: l) = enc x :: rowD enc l := rfl
theorem rowD_sub {enc : α → D} {l : List α} {i n : Nat} : sub (rowD enc l) i n = rowD enc ((l.drop i).take n) := by simp [sub, rowD, List.map_take, List.map_drop]
theorem rowD_set {enc : α → D} {l : List α} {i : Nat} {x : α} : (rowD enc l).set i (enc x) = rowD enc (l.set i x) := by simp [rowD, List.map_set]
theorem rowD_sized {enc : α → D} {l : List α} {n : Nat} (h : ∀ a, (enc a).cells.length = n) : sized n (rowD enc l) := by
  intro x hx
  obtain ⟨c, _, rfl⟩ := List.mem_map.1 hx
  exact h c
theorem sizedN_nil {n : Nat} : sized n [] ↔ True := by simp [sized]
theorem sizedN_cons {n : Nat} {x : D} {l : List D} : sized n (x :: l) ↔ x.cells.length = n ∧ sized n l := by simp [sized]
theorem sizedN_app {n : Nat} {a b : List D} : sized n (a ++ b) ↔ sized n a ∧ sized n b := by
  simp only [sized, List.mem_append]
  exact ⟨fun h => ⟨fun x hx => h x (.inl hx), fun x hx => h x (.inr hx)⟩, fun h x hx => hx.elim (h.1 x) (h.2 x)⟩
theorem sizedN_by {b : List UInt8} : sized 1 (byD b) ↔ True := iff_true_intro (byD_sized b)
theorem sizedN_in {b : List Int} : sized 1 (inD b) ↔ True := iff_true_intro (inD_sized b)
theorem fits_iff {n b : Nat} : fits n b ↔ n ≤ 70368744177664 ∧ n * b ≤ 70368744177664 := Iff.rfl
/-- if there is one -/
def onO {β γ : Type} (o : Option β) (k : β → T γ) : T γ := match o with | some b => k b | none => .no
theorem onO_some {β γ : Type} {b : β} {k : β → T γ} : onO (some b) k = k b := rfl
theorem onO_none {β γ : Type} {k : β → T γ} : onO none k = .no := rfl
theorem esz_none (h : tyElem P t = none) : esz P t = none := by simp [esz, h]
/-! places of elements -/
theorem ia_sl {xs : List D} {k : IntKind} {i : Int} : indexAddrT P t (.d (.sl xs)) (.d (.int k i)) = onO (esz P t) fun n => elemOf xs n i := by
  cases h : tyElem P t with
  | none => simp only [indexAddrT, h, esz_none h, onO_none]; cases tyArr P t <;> simp
  | some p => simp [indexAddrT, h, esz, onO]
theorem ia_lit {xs : List D} {k : IntKind} {i : Int} : indexAddrT P t (.lit xs) (.d (.int k i)) = onO (esz P t) fun n => elemOf xs n i := by
  cases h : tyElem P t with
  | none => simp only [indexAddrT, h, esz_none h, onO_none]; cases tyArr P t <;> simp
  | some p => simp [indexAddrT, h, esz, onO]
theorem ia_ar {l : Loc} {sz lo n : Nat} {k : IntKind} {i : Int} : indexAddrT P t (.ar l sz lo n) (.d (.int k i)) = onO (esz P t) fun es => if sz = es ∧ 0 ≤ i ∧ i < n then .ret (.elp l sz (lo + i.toNat) 0) else .no := by
  cases h : tyElem P t with
  | none => simp only [indexAddrT, h, esz_none h, onO_none]; cases tyArr P t <;> simp
  | some p => simp [indexAddrT, h, esz, onO]
theorem elem_row [Inhabited α] {enc : α → D} {l : List α} {es : Nat} {i : Int} : elemOf (rowD enc l) es i = if (0 ≤ i ∧ i < l.length) ∧ (enc (nth l i.toNat)).cells.length = es then .ret (.cp (enc (nth l i.toNat)).cells) else .no := by
  unfold elemOf
  rw [rowD_get]
  by_cases h0 : 0 ≤ i
  · by_cases hi : i < l.length
    · have hn : i.toNat < l.length := by omega
      simp [h0, hi, hn]
    · have hn : ¬ i.toNat < l.length := by omega
      simp [h0, hi, hn]
  · simp [h0]
theorem elem_byT {b : List UInt8} {i : Int} : elemOf (byD b) 1 i = if 0 ≤ i ∧ i < b.length then .ret (.cp [.int .u8 (nth b i.toNat).toNat]) else .no := by
  unfold elemOf
  rw [byD_get]
  by_cases h0 : 0 ≤ i
  · by_cases hi : i < b.length
    · have hn : i.toNat < b.length := by omega
      simp [h0, hi, hn, D.cells]
    · have hn : ¬ i.toNat < b.length := by omega
      simp [h0, hi, hn]
  · simp [h0]
theorem elem_inT {b : List Int} {i : Int} : elemOf (inD b) 1 i = if 0 ≤ i ∧ i < b.length then .ret (.cp [.int .i64 (nth b i.toNat)]) else .no := by
  unfold elemOf
  rw [inD_get]
  by_cases h0 : 0 ≤ i
  · by_cases hi : i < b.length
    · have hn : i.toNat < b.length := by omega
      simp [h0, hi, hn, D.cells]
    · have hn : ¬ i.toNat < b.length := by omega
      simp [h0, hi, hn]
  · simp [h0]
theorem ia_arr_ptr {id off : Nat} {k : IntKind} {i : Int} (h : tyElem P t = none) : indexAddrT P t (.ptr id off) (.d (.int k i)) = onO (tyArr P t) fun p => if 0 ≤ i ∧ i < p.1 then .ret (.ptr id (off + i.toNat * p.2.2)) else .no := by
  simp only [indexAddrT, h]
  cases tyArr P t <;> simp [onO]
theorem ia_arr_cp {cs : List D} {k : IntKind} {i : Int} (h : tyElem P t = none) : indexAddrT P t (.cp cs) (.d (.int k i)) = onO (tyArr P t) fun p => if 0 ≤ i ∧ i < p.1 then .ret (.cp (cs.drop (i.toNat * p.2.2))) else .no := by
  simp only [indexAddrT, h]
  cases tyArr P t <;> simp [onO]
/-! loads, stores -/
def onArr {β : Type} (o : Obj) (k : Nat → List D → Bool → T β) : T β := match o with | .arr sz xs fz => k sz xs fz | _ => .no
theorem onArr_arr {β : Type} {sz : Nat} {xs : List D} {fz : Bool} {k : Nat → List D → Bool → T β} : onArr (.arr sz xs fz) k = k sz xs fz := rfl
def onOwn {β : Type} (c : Option LV) (v : Nat) (k : Nat → List D → Bool → T β) : T β := match c with
  | some (.own v' sz xs fz) => if v = v' then k sz xs fz else .no
  | _ => .no
theorem onOwn_own {β : Type} {v v' sz : Nat} {xs : List D} {fz : Bool} {k : Nat → List D → Bool → T β} : onOwn (some (.own v' sz xs fz)) v k = if v = v' then k sz xs fz else .no := rfl
theorem arrT_arr {β : Type} {id : Nat} {k : Nat → List D → Bool → T β} : arrT (.arr id) k = .get id fun o => onArr o k := by
  simp only [arrT]
  congr
theorem arrT_cell {β : Type} {id off v : Nat} {k : Nat → List D → Bool → T β} : arrT (.cell id off v) k = .get id fun o => onCells o fun cs => onOwn cs[off]? v k := by
  simp only [arrT]
  congr
theorem setT_arr {id sz : Nat} {xs : List D} {fz : Bool} : setT (.arr id) sz xs fz = .put id (.arr sz xs fz) (.ret ()) := rfl
theorem setT_cell {id off v sz : Nat} {xs : List D} {fz : Bool} : setT (.cell id off v) sz xs fz = .get id fun o => onCells o fun cs => .put id (.cells (cs.set off (.own v sz xs fz))) (.ret ()) := by
  simp only [setT]
  congr
theorem killT_arr {id : Nat} : killT (.arr id) = .put id .dead (.ret ()) := rfl
theorem killT_cell {id off v : Nat} : killT (.cell id off v) = .get id fun o => onCells o fun cs => .put id (.cells (cs.set off .un)) (.ret ()) := by
  simp only [killT]
  congr
theorem stow_ar {id lo n sz : Nat} {l : Loc} : stow id (.ar l sz lo n) = arrT l fun sz xs fz => if lo + n ≤ xs.length then (if fz then .ret (.d (.sl (sub xs lo n))) else (killT l).bind fun _ => .tick fun v => .ret (.own v sz (sub xs lo n) false)) else .no := rfl
theorem toD_ar {l : Loc} {sz lo n : Nat} : toD (.ar l sz lo n) = arrT l fun sz xs fz => if lo + n ≤ xs.length then (if fz then .ret (.sl (sub xs lo n)) else (setT l sz xs true).bind fun _ => .ret (.sl (sub xs lo n))) else .no := rfl
theorem toD1_ar {l : Loc} {sz lo n : Nat} : toD1 (.ar l sz lo n) = arrT l fun sz xs fz => if lo + n ≤ xs.length then (if fz then .ret (.sl (sub xs lo n)) else (setT l sz xs true).bind fun _ => .ret (.sl (sub xs lo n))) else .no := rfl
theorem peek_ar {l : Loc} {sz lo n : Nat} : peek (.ar l sz lo n) = arrT l fun _ xs _ => if lo + n ≤ xs.length then .ret (.sl (sub xs lo n)) else .no := rfl
theorem peek1_ar {l : Loc} {sz lo n : Nat} : peek1 (.ar l sz lo n) = arrT l fun _ xs _ => if lo + n ≤ xs.length then .ret (.sl (sub xs lo n)) else .no := rfl
theorem not_frozen {β : Type} {x y : T β} : (if false = true then x else y) = y := rfl
theorem is_frozen {β : Type} {x y : T β} : (if true = true then x else y) = x := rfl
/-- what is read of an element -/
def ldE (g : Option Bool) (n : Nat) (x : Option D) (off : Nat) : T LV := match x with
  | some x => match g with
    | some true => if off + n ≤ x.cells.length then .ret (.d (.agg ((x.cells.drop off).take n))) else .no
    | some false => match x.cells[off]? with
      | some c => .ret (.d c)
      | none => .no
    | none => .no
  | none => .no
theorem load_elp {l : Loc} {s i off : Nat} : loadT P t (.elp l s i off) = arrT l fun _ xs _ => ldE (tyAgg P t) (tySize P t) xs[i]? off := by
  simp only [loadT, ldE]
  congr
theorem ldE_ite {g : Option Bool} {n : Nat} {c : Prop} [Decidable c] {x : D} {off : Nat} : ldE g n (if c then some x else none) off = if c then ldE g n (some x) off else .no := by
  by_cases h : c <;> simp [h, ldE]
theorem ldE_sc {n : Nat} {x : D} {off : Nat} : ldE (some false) n (some x) off = onO x.cells[off]? fun c => .ret (.d c) := by
  simp only [ldE, onO]
  cases x.cells[off]? <;> rfl
theorem ldE_row {n : Nat} {x : D} {off : Nat} : ldE (some true) n (some x) off = if off + n ≤ x.cells.length then .ret (.d (.agg ((x.cells.drop off).take n))) else .no := rfl
/-- an element is written -/
def stE (l : Loc) (sz : Nat) (xs : List D) (fz : Bool) (i off : Nat) (ds : List D) : T LV := if fz then .no else match xs[i]? with
  | some x => if off + ds.length ≤ x.cells.length then (setT l sz (xs.set i (putCells x off ds)) false).bind fun _ => .ret .un else .no
  | none => .no
theorem store_elp {v : LV} {l : Loc} {s i off : Nat} : storeT P t v (.elp l s i off) = if (tyAgg P t).isSome ∧ v.cells.length = tySize P t then (T.mapL toD1 v.cells).bind fun ds => arrT l fun sz xs fz => stE l sz xs fz i off ds else .no := rfl
theorem stE_by {l : Loc} {b : List UInt8} {i : Nat} {c : UInt8} : stE l 1 (byD b) false i 0 [.int .u8 c.toNat] = if i < b.length then (setT l 1 (byD (b.set i c)) false).bind fun _ => .ret .un else .no := by
  simp only [stE, byD_get, Bool.false_eq_true, if_false]
  by_cases h : i < b.length
  · simp [h, D.cells, putCells, byD_set]
  · simp [h]
theorem stE_in {l : Loc} {b : List Int} {i : Nat} {c : Int} : stE l 1 (inD b) false i 0 [.int .i64 c] = if i < b.length then (setT l 1 (inD (b.set i c)) false).bind fun _ => .ret .un else .no := by
  simp only [stE, inD_get, Bool.false_eq_true, if_false]
  by_cases h : i < b.length
  · simp [h, D.cells, putCells, inD_set]
  · simp [h]
/-- a slice of bytes, as an element -/
def sb (b : List UInt8) : D := .sl (byD b)
theorem sb_cells (b : List UInt8) : (sb b).cells = [.sl (byD b)] := rfl
theorem stE_sb {l : Loc} {b : List (List UInt8)} {i : Nat} {c : List UInt8} : stE l 1 (rowD sb b) false i 0 [.sl (byD c)] = if i < b.length then (setT l 1 (rowD sb (b.set i c)) false).bind fun _ => .ret .un else .no := by
  simp only [stE, rowD_get, Bool.false_eq_true, if_false]
  by_cases h : i < b.length
  · have e : (rowD sb b).set i (.sl (byD c)) = rowD sb (b.set i c) := rowD_set
    simp only [h, if_true, sb_cells]
    simp [putCells, sb, ← e]
  · simp [h]
/-! fields -/
/-- a part of a struct -/
def fldD (cs : List D) (o n : Nat) (g : Option Bool) : T LV := match g with
  | some true => if o + n ≤ cs.length then .ret (.d (.agg ((cs.drop o).take n))) else .no
  | some false => onO cs[o]? fun c => .ret (.d c)
  | none => .no
def fldL (cs : List LV) (o n : Nat) (g : Option Bool) : T LV := match g with
  | some true => if o + n ≤ cs.length then .ret (.agg ((cs.drop o).take n)) else .no
  | some false => onO cs[o]? .ret
  | none => .no
theorem field_d {f : Nat} {cs : List D} : fieldT P t f (.d (.agg cs)) = onO (tyField P t f) fun p => fldD cs p.1 p.2.2 (tyAgg P p.2.1) := by
  unfold fieldT
  cases tyField P t f with
  | none => rfl
  | some p =>
    obtain ⟨o, ft, n⟩ := p
    simp only [onO, fldD]
    cases tyAgg P ft with
    | none => rfl
    | some b =>
      cases b
      · simp only; cases cs[o]? <;> rfl
      · rfl
theorem field_agg {f : Nat} {cs : List LV} : fieldT P t f (.agg cs) = onO (tyField P t f) fun p => fldL cs p.1 p.2.2 (tyAgg P p.2.1) := by
  unfold fieldT
  cases tyField P t f with
  | none => rfl
  | some p =>
    obtain ⟨o, ft, n⟩ := p
    simp only [onO, fldL]
    cases tyAgg P ft with
    | none => rfl
    | some b =>
      cases b
      · simp only; cases cs[o]? <;> rfl
      · rfl
theorem fldD_sc {cs : List D} {o n : Nat} : fldD cs o n (some false) = onO cs[o]? fun c => .ret (.d c) := rfl
theorem fldD_row {cs : List D} {o n : Nat} : fldD cs o n (some true) = if o + n ≤ cs.length then .ret (.d (.agg ((cs.drop o).take n))) else .no := rfl
theorem fldL_sc {cs : List LV} {o n : Nat} : fldL cs o n (some false) = onO cs[o]? .ret := rfl
theorem fldL_row {cs : List LV} {o n : Nat} : fldL cs o n (some true) = if o + n ≤ cs.length then .ret (.agg ((cs.drop o).take n)) else .no := rfl
theorem fieldAddr_elp {l : Loc} {sz i off f : Nat} : fieldAddrT P t f (.elp l sz i off) = onO (tyField P t f) fun p => if p.2.2 = 0 then .no else .ret (.elp l sz i (off + p.1)) := by
  unfold fieldAddrT
  cases tyField P t f <;> rfl
theorem fieldAddr_cp {cs : List D} {f : Nat} : fieldAddrT P t f (.cp cs) = onO (tyField P t f) fun p => if p.2.2 = 0 then .no else .ret (.cp (cs.drop p.1)) := by
  unfold fieldAddrT
  cases tyField P t f <;> rfl
/-! cuts -/
theorem slice_sl {xs : List D} {lo hi mx : Option LV} : sliceT P t (.d (.sl xs)) lo hi mx = onO (esz P t) fun es => if sized es xs then cut xs.length lo hi mx fun l h => .ret (.d (.sl (sub xs l (h - l)))) else .no := by
  cases h : tyElem P t <;> simp [sliceT, h, esz, onO]
theorem slice_lit {xs : List D} {lo hi mx : Option LV} : sliceT P t (.lit xs) lo hi mx = onO (esz P t) fun es => if sized es xs then cut xs.length lo hi mx fun l h => .ret (.d (.sl (sub xs l (h - l)))) else .no := by
  cases h : tyElem P t <;> simp [sliceT, h, esz, onO]
theorem slice_arN {l : Loc} {sz o n : Nat} {lo hi mx : Option LV} : sliceT P t (.ar l sz o n) lo hi mx = onO (esz P t) fun es => if sz = es then cut n lo hi mx fun a b => .ret (.ar l sz (o + a) (b - a)) else .no := by
  cases h : tyElem P t <;> simp [sliceT, h, esz, onO]
theorem cut_3 {n : Nat} {a b : IntKind} {i j : Int} {k : Nat → Nat → T α} {Q : α → St → Prop} : TQ (cut n none (some (.d (.int a i))) (some (.d (.int b j))) k) S Q ↔ (0 ≤ i ∧ i ≤ j ∧ j ≤ n) ∧ TQ (k 0 i.toNat) S Q := by
  simp only [cut, bound]
  rw [TQ_ite]
  simp [and_assoc]
theorem sub_all {xs : List D} {n : Nat} (h : xs.length ≤ n) : sub xs 0 n = xs := by simp [sub, List.take_of_length_le h]
theorem wrap_byte (c : UInt8) : IntKind.i64.wrap (c.toNat : Int) = c.toNat := by
  have := c.toNat_lt
  exact wrap_i64 (by omega) (by omega)
/-! what is made, what grows -/
def mkZ (P : Program) (t : TypeId) : Option (Nat × Nat × D) := match tyElem P t with
  | some (e, es) => match zeroD P e with
    | some z => if z.cells.length = es then some (es, tyBytes P e, z) else none
    | none => none
  | none => none
def reps (n : Nat) (z : D) : List D := List.replicate n z
theorem reps_by {n : Nat} : reps n (.int .u8 0) = byD (zeros n) := rep_zero n
def ints0 (n : Nat) : List Int := List.replicate n 0
theorem reps_in {n : Nat} : reps n (.int .i64 0) = inD (ints0 n) := by simp [reps, inD, ints0]
theorem ints0_length {n : Nat} : (ints0 n).length = n := by simp [ints0]
theorem reps_length {n : Nat} {z : D} : (reps n z).length = n := by simp [reps]
theorem mk_of {k k' : IntKind} {n c : Int} : makeSliceT P t (.d (.int k n)) (.d (.int k' c)) = onO (mkZ P t) fun p => if 0 ≤ n ∧ n ≤ c ∧ c * p.2.1 ≤ 70368744177664 ∧ c ≤ 70368744177664 then
    .new (.arr p.1 (reps n.toNat p.2.2) false) fun id => .ret (.ar (.arr id) p.1 0 n.toNat) else .no := by
  unfold makeSliceT mkZ
  cases tyElem P t with
  | none => rfl
  | some p =>
    obtain ⟨e, es⟩ := p
    simp only
    cases zeroD P e with
    | none => rfl
    | some z =>
      simp only
      by_cases h : z.cells.length = es
      · simp [h, onO, reps]
      · simp [h, onO]
def appK (P : Program) (t t' : TypeId) : Option (Nat × Nat) := match tyElem P t with
  | some (e, es) => match zeroD P e with
    | some z => if z.cells.length = es ∧ (tyInt P t').isNone = true ∧ (P.underlying t').isSome = true then some (es, tyBytes P e) else none
    | none => none
  | none => none
theorem app_eq {t' : TypeId} {x y : LV} (h : (appK P t t').isSome = true) : appendT P #[t, t'] x y = onO (appK P t t') fun p => srcT p.1 y fun ys => growT p.1 p.2 x ys := by
  unfold appK at h ⊢
  cases he : tyElem P t with
  | none => simp [he] at h
  | some p =>
    obtain ⟨e, es⟩ := p
    cases hz : zeroD P e with
    | none => simp [he, hz] at h
    | some z =>
      by_cases hc : z.cells.length = es ∧ (tyInt P t').isNone = true ∧ (P.underlying t').isSome = true
      · have h2' : tyInt P t' = none := by simpa using hc.2.1
        have h1 := hc.1
        have h3 := hc.2.2
        subst h1
        simp [appendT, he, hz, h2', h3, onO]
      · simp only [he, hz, if_neg hc] at h; cases h
theorem src_lit {es : Nat} {xs : List D} {k : List D → T LV} : srcT es (.lit xs) k = if sized es xs then k xs else .no := rfl
theorem src_sl {es : Nat} {xs : List D} {k : List D → T LV} : srcT es (.d (.sl xs)) k = if sized es xs then k xs else .no := rfl
theorem src_str {es : Nat} {s : List UInt8} {k : List D → T LV} : srcT es (.d (.str s)) k = if es = 1 then k (byD s) else .no := rfl
theorem src_ar {es sz lo n : Nat} {l : Loc} {k : List D → T LV} : srcT es (.ar l sz lo n) k = arrT l fun _ xs _ => if lo + n ≤ xs.length ∧ sized es (sub xs lo n) then k (sub xs lo n) else .no := rfl
theorem grow_lit0 {es b : Nat} {ys : List D} : growT es b (.lit []) ys = if fits ys.length b then .new (.arr es ys false) fun id => .ret (.ar (.arr id) es 0 ys.length) else .no := by
  simp [growT, sized]
theorem grow_ar {l : Loc} {es es' b lo n : Nat} {ys : List D} : growT es b (.ar l es' lo n) ys = if es' = es then arrT l fun _ xs fz => if fz then .no else if lo + n ≤ xs.length ∧ fits (n + ys.length) b then
      (killT l).bind fun _ => .new (.arr es (sub xs lo n ++ ys) false) fun id => .ret (.ar (.arr id) es 0 (n + ys.length)) else .no else .no := rfl
/-! results -/
section
variable {e : Env} {Q : LV → Prop} {K : List LV → Prop}
theorem res_V {rs : List ResultVar} : (resultV P e S rs).holds Q ↔ (resultL P e S rs).holds (hold (fun vs => Q (tupV vs)) .mk) := by
  unfold resultV
  rw [holds_bind]; exact Iff.rfl
theorem res_nil : (resultL P e S []).holds K ↔ K [] := Iff.rfl
theorem res_tmp {t : Tmp} {rs : List ResultVar} : (resultL P e S (.tmp t :: rs)).holds K ↔ (resultL P e S rs).holds (hold (fun vs => K (e t :: vs)) .mk) := by
  simp only [resultL, result1, Res.bind]
  cases resultL P e S rs <;> exact Iff.rfl
theorem res_cell {a : Tmp} {t : TypeId} {rs : List ResultVar} : (resultL P e S (.cell a t :: rs)).holds K ↔ TQ (loadT P t (e a)) S (hold (fun v _ => (resultL P e S rs).holds (hold (fun vs => K (v :: vs)) .mk)) .mk) := by
  simp only [resultL, result1]
  unfold TQ
  cases (loadT P t (e a)).run S with
  | ok r =>
    show ((resultL P e S rs).bind fun vs => Res.ok (r.1 :: vs)).holds K ↔ _
    rw [holds_bind]; exact Iff.rfl
  | no => exact Iff.rfl
  | vac => exact Iff.rfl
theorem tupV_one {v : LV} : tupV [v] = v := rfl
theorem tupV_nil : tupV [] = .tup [] := rfl
theorem tupV_more {v u : LV} {l : List LV} : tupV (v :: u :: l) = .tup (v :: u :: l) := rfl
end
theorem fetchL_nil {id off : Nat} : fetchL id off [] = [] := rfl
theorem fetchL_cons {id off : Nat} {c : LV} {cs : List LV} : fetchL id off (c :: cs) = fetch id off c :: fetchL id (off + 1) cs := rfl
theorem take_drop_all {α : Type} {l : List α} {k : Nat} : (l.drop k).take (l.length - k) = l.drop k := List.take_of_length_le (by simp)
theorem nth_drop {α : Type} [Inhabited α] {l : List α} {k i : Nat} : nth (l.drop k) i = nth l (k + i) := by simp [nth]
theorem nth_take {α : Type} [Inhabited α] {l : List α} {n i : Nat} (h : i < n) : nth (l.take n) i = nth l i := by simp [nth, h]
theorem okb_d {x : D} : (LV.d x).okb = true := rfl
theorem okb_lit {x : List D} : (LV.lit x).okb = true := rfl
theorem okb_ar {l : Loc} {a b c : Nat} : (LV.ar l a b c).okb = true := rfl
theorem okb_agg {cs : List LV} : (LV.agg cs).okb = true := rfl
theorem okb_ptr {a b : Nat} : (LV.ptr a b).okb = true := rfl
def idx (n : Nat) : List Nat := List.range n
theorem idx_zero : idx 0 = [] := rfl
theorem idx_succ {n : Nat} : idx (n + 1) = idx n ++ [n] := by simp [idx, List.range_succ]
theorem bslice_T {n : Nat} {ps : List (Nat × LV)} (hz : ezero P t = true) : buildSliceT P t n ps = onO (esz P t) fun es =>
    if (ps.map (·.1) = idx n ∧ n ≤ 16777216) ∧ n * es ≤ 16777216 then (T.mapL toD (ps.map (·.2))).bind fun xs => if sized es xs then .ret (.lit xs) else .no else .no := by
  unfold ezero at hz
  cases h : tyElem P t with
  | none => rw [h] at hz; cases hz
  | some p =>
    obtain ⟨e, es⟩ := p
    rw [h] at hz
    have hz' : (zeroCells P e).isSome = true := hz
    simp only [buildSliceT, h, hz', and_true, esz, Option.map_some, onO]
    have e1 : (T.mapL (fun p : Nat × LV => toD p.2) ps) = T.mapL toD (ps.map (·.2)) := mapL_snd ps
    rw [e1]
    simp only [idx, and_assoc]
theorem fetch_fz {id off ver sz : Nat} {x : List D} : fetch id off (.own ver sz x true) = .d (.sl x) := rfl
theorem fetch_ptr {id off a b : Nat} : fetch id off (.ptr a b) = .ptr a b := rfl
theorem fetch_fn {id off f : Nat} {cs : List LV} : fetch id off (.fn f cs) = .fn f cs := rfl
theorem fetch_mp {id off a : Nat} : fetch id off (.mp a) = .mp a := rfl
theorem stow_nilP {id : Nat} : stow id (.d .nilP) = .ret (.d .nilP) := rfl
theorem stow_nilM {id : Nat} : stow id (.d .nilM) = .ret (.d .nilM) := rfl
theorem stow_nilF {id : Nat} : stow id (.d .nilF) = .ret (.d .nilF) := rfl
theorem stow_ptr {id i off : Nat} : stow id (.ptr i off) = if i ≤ id then .ret (.ptr i off) else .leak (.ret (.ptr i off)) := rfl
theorem stow_mp {id i : Nat} : stow id (.mp i) = if i ≤ id then .ret (.mp i) else .leak (.ret (.mp i)) := rfl
theorem stow_fn {id f : Nat} : stow id (.fn f []) = .ret (.fn f []) := rfl
theorem cells_ptr {a b : Nat} : (LV.ptr a b).cells = [.ptr a b] := rfl
theorem cells_fn {f : Nat} {cs : List LV} : (LV.fn f cs).cells = [.fn f cs] := rfl
theorem cells_mp {a : Nat} : (LV.mp a).cells = [.mp a] := rfl
theorem cells_nilP : (LV.d .nilP).cells = [.d .nilP] := rfl
theorem dcells_agg {cs : List D} : (D.agg cs).cells = cs := rfl
theorem dcells_str {s : List UInt8} : (D.str s).cells = [.str s] := rfl
theorem dcells_bool {b : Bool} : (D.bool b).cells = [.bool b] := rfl
theorem dcells_sl {b : List D} : (D.sl b).cells = [.sl b] := rfl
attribute [-simp] bslice
attribute [simp] fetch_fz fetch_ptr fetch_fn fetch_mp stow_nilP stow_nilM stow_nilF stow_ptr stow_mp stow_fn cells_ptr cells_fn cells_mp cells_nilP dcells_agg dcells_str dcells_bool dcells_sl
attribute [simp] idx_zero idx_succ bslice_T wrap_i64 okb_d okb_lit okb_ar okb_agg okb_ptr take_drop_all nth_drop fetchL_nil fetchL_cons res_V res_nil res_tmp res_cell tupV_one tupV_nil tupV_more
attribute [-simp] mk_by store_by addr_by addr_in addr_ar slice_ar
attribute [simp] sub_all byD_sub inD_sub rowD_sub rowD_length rowD_get sizedN_nil sizedN_cons sizedN_app sizedN_by sizedN_in fits_iff onO_some onO_none ia_sl ia_lit ia_ar elem_row elem_byT elem_inT ia_arr_ptr ia_arr_cp onArr_arr onOwn_own arrT_arr arrT_cell
  setT_arr setT_cell killT_arr killT_cell stow_ar toD_ar toD1_ar peek_ar peek1_ar not_frozen is_frozen load_elp ldE_ite ldE_sc ldE_row store_elp stE_by stE_in sb_cells stE_sb field_d field_agg fldD_sc fldD_row fldL_sc fldL_row
  fieldAddr_elp fieldAddr_cp slice_sl slice_lit slice_arN cut_3 mk_of reps_by reps_in ints0_length reps_length app_eq src_lit src_sl src_str src_ar grow_lit0 grow_ar byD_get inD_get
end Go.VM
end

/- The machine of values: rules to reckon with, for calls that work on some variables where the order is open. No condition. -/
section
namespace Go.VM
variable {cfg : Cfg} {e : Env} {S : St} {K : LV → St → List Nat → List Nat → Prop}

/-! what is before what, as numbers' digits -/
def maskE (acc : List Nat) : List Nat → Nat
  | [] => 0
  | k :: es => Nat.lor (Nat.lor (Nat.shiftLeft 1 k) (acc.getD k 0)) (maskE acc es)
def befm : List Oper → List Nat → List Nat
  | [], acc => acc
  | o :: os, acc => befm os (acc ++ [maskE acc (edges o)])
def okPairM (ops : List Oper) (ms : List Nat) (i j : Nat) (oi oj : Oper) : Bool :=
  (decide (i = j) || oi.dst.isNone || oi.dst != oj.dst) &&
    (match oi.dst with
    | some d => !(oj.looksAt ops.toArray).contains d || (decide (i < j) && (ms.getD j 0).testBit i) || (decide (j < i) && (ms.getD i 0).testBit j) || decide (i = j)
    | none => true)
def okDrawM (ops : List Oper) (ms : List Nat) : Bool :=
  ops.zipIdx.all fun q => notSelect q.1.op && (edges q.1).all (fun k => decide (k < q.2)) && ops.zipIdx.all fun p => okPairM ops ms p.2 q.2 p.1 q.1
def indepM (ms : List Nat) : List Log → Prop
  | [] => True
  | b :: L => (∀ a ∈ L, (ms.getD b.at_ 0).testBit a.at_ = true ∨ ¬ a.clash b) ∧ indepM ms L
theorem maskE_bit {acc : List Nat} {bef : List (List Nat)} (h : ∀ j i, (acc.getD j 0).testBit i = true ↔ i ∈ bef.getD j []) : ∀ (es : List Nat) (i : Nat), (maskE acc es).testBit i = true ↔ i ∈ es.flatMap fun k => k :: bef.getD k [] := by
  intro es
  induction es with
  | nil => intro i; simp [maskE]
  | cons k es ih =>
    intro i
    have e1 : (Nat.lor (Nat.lor (Nat.shiftLeft 1 k) (acc.getD k 0)) (maskE acc es)).testBit i = (((1 <<< k).testBit i || (acc.getD k 0).testBit i) || (maskE acc es).testBit i) := by
      rw [← Nat.testBit_or, ← Nat.testBit_or]; rfl
    show (Nat.lor _ _).testBit i = true ↔ _
    rw [e1]
    simp only [Bool.or_eq_true, List.flatMap_cons, List.mem_append, List.mem_cons]
    rw [ih i, h k i]
    have e2 : (1 <<< k).testBit i = true ↔ i = k := by
      rw [Nat.one_shiftLeft, Nat.testBit_two_pow]
      simp [eq_comm]
    rw [e2]
theorem befm_bit : ∀ (os : List Oper) (acc : List Nat) (bef : List (List Nat)), acc.length = bef.length → (∀ j i, (acc.getD j 0).testBit i = true ↔ i ∈ bef.getD j []) → ∀ j i, ((befm os acc).getD j 0).testBit i = true ↔ i ∈ (befs os bef).getD j [] := by
  intro os
  induction os with
  | nil => intro acc bef _ h; exact h
  | cons o os ih =>
    intro acc bef hl h
    simp only [befm, befs]
    refine ih _ _ (by simp [hl]) fun j i => ?_
    by_cases hj : j < acc.length
    · have e1 : (acc ++ [maskE acc (edges o)]).getD j 0 = acc.getD j 0 := by simp [List.getD, List.getElem?_append_left hj]
      have e2 : (bef ++ [(edges o).flatMap fun k => k :: bef.getD k []]).getD j [] = bef.getD j [] := by simp [List.getD, List.getElem?_append_left (show j < bef.length by omega)]
      rw [e1, e2]; exact h j i
    · by_cases hj2 : j = acc.length
      · subst hj2
        have e1 : (acc ++ [maskE acc (edges o)]).getD acc.length 0 = maskE acc (edges o) := by simp
        have e2 : (bef ++ [(edges o).flatMap fun k => k :: bef.getD k []]).getD acc.length [] = (edges o).flatMap fun k => k :: bef.getD k [] := by rw [hl]; simp
        rw [e1, e2]; exact maskE_bit h _ i
      · have e1 : (acc ++ [maskE acc (edges o)]).getD j 0 = 0 := by
          simp only [List.getD]
          rw [List.getElem?_eq_none (by simp; omega)]; rfl
        have e2 : (bef ++ [(edges o).flatMap fun k => k :: bef.getD k []]).getD j [] = [] := by
          simp only [List.getD]
          rw [List.getElem?_eq_none (by simp; omega)]; rfl
        rw [e1, e2]; simp
theorem befm_mem {os : List Oper} {ms : List Nat} (h : befm os [] = ms) (j i : Nat) : (ms.getD j 0).testBit i = true ↔ i ∈ (befs os []).getD j [] := by
  subst h
  exact befm_bit os [] [] rfl (fun j i => by simp) j i
theorem okDrawM_ok {os : List Oper} {ms : List Nat} (h : befm os [] = ms) (hd : okDrawM os ms = true) : okDraw os = true := by
  have hp : ∀ i j oi oj, okPairM os ms i j oi oj = okPair os (befs os []) i j oi oj := by
    intro i j oi oj
    have hb : ∀ a b, (ms.getD b 0).testBit a = ((befs os []).getD b []).contains a := by
      intro a b
      rw [Bool.eq_iff_iff, befm_mem h]
      simp
    unfold okPairM okPair
    cases oi.dst with
    | none => rfl
    | some d => simp only [hb]
  unfold okDrawM at hd
  unfold okDraw
  simp only [hp] at hd
  exact hd
theorem indepM_ok {os : List Oper} {ms : List Nat} (h : befm os [] = ms) : ∀ {L : List Log}, indepM ms L → indep (befs os []) L := by
  intro L
  induction L with
  | nil => intro _; trivial
  | cons b L ih =>
    intro hi
    exact ⟨fun a ha => (hi.1 a ha).imp (befm_mem h _ _).1 (fun x => x), ih hi.2⟩
theorem X_drawM {id : Nat} {l : List Oper} {t : Tag (Code.region id l.toArray true)} {Q : Ex → Env → St → Prop} (ms : List Nat) (hm : befm l [] = ms) (hd : okDrawM l ms = true)
    (h : PD cfg S.next S.clk 0 (hold l .mk) (hold l .mk) e S [] (hold (fun e' S' L => indepM ms L ∧ Q .normal e' ⟨S'.obj, S.next + 100 * l.length, S.clk + 100 * l.length, S'.esc⟩) .mk)) :
    PX cfg (hold (.region id l.toArray true) t) e S Q := by
  refine X_draw (okDrawM_ok hm hd) ?_
  obtain ⟨n, h⟩ := h
  exact ⟨n, holds_mono (fun r hr => ⟨indepM_ok hm hr.1, hr.2⟩) h⟩
noncomputable def shBody (cfg : Cfg) (n : Nat) (f : FuncId) (as : List LV) (objs : List (Nat × Obj)) (c : Nat) : T LV :=
  if (objs.all fun p => objTame (objs.map (·.1)) p.2) = true ∧ (as.all (argTame (objs.map (·.1)))) = true then
    (T.ofRes (runSh (ev cfg n) f as objs)).bind fun q => putsT (objs.map fun p => (p.1, stampO c (q.2.obj p.1))) (.ret q.1)
  else .no
def ShD (cfg : Cfg) (f : FuncId) (as : List LV) (S : St) (K : LV → St → List Nat → List Nat → Prop) : Prop :=
  ∃ n, TL ((gather 64 (as.flatMap refs) []).bind fun objs => .tick fun c => shBody cfg n f as objs c) S K
theorem D1_sh {f : FuncId} {args : Array Operand} {ts : Array TypeId} (h : cfg.mode f = .shr) : D1 cfg (.call ⟨.value (.func f), args, ts⟩) e S K ↔
    TL (T.mapL prep (args.toList.map (Operand.lv e))) S (hold (fun as S' r w => ShD cfg f as S' (hold (fun v S'' r' w' => K v S'' (r ++ r') (w ++ w')) .mk)) .mk) := by
  have hc : callee e (.call ⟨.value (.func f), args, ts⟩) = some (f, args.toList.map (Operand.lv e)) := by simp [callee, Operand.lv]
  unfold D1 stepD
  simp only [hc, callT, h, callSh]
  have key : ∀ n, TL ((T.mapL prep (args.toList.map (Operand.lv e))).bind fun as => (gather 64 (as.flatMap refs) []).bind fun objs => .tick fun c => shBody cfg n f as objs c) S K ↔
      TL (T.mapL prep (args.toList.map (Operand.lv e))) S fun as S' r w => TL ((gather 64 (as.flatMap refs) []).bind fun objs => .tick fun c => shBody cfg n f as objs c) S' fun v S'' r' w' => K v S'' (r ++ r') (w ++ w') := by
    intro n
    rw [TL_bind]; exact Iff.rfl
  constructor
  · rintro ⟨n, hn⟩
    have hn := (key n).1 hn
    unfold TL at hn ⊢
    refine holds_mono (fun r hr => ?_) hn
    exact ⟨n, hr⟩
  · intro hh
    unfold TL at hh
    cases hr : (T.mapL prep (args.toList.map (Operand.lv e))).run S with
    | ok r =>
      rw [hr] at hh
      obtain ⟨n, hn⟩ := hh
      refine ⟨n, (key n).2 ?_⟩
      unfold TL
      rw [hr]; exact hn
    | no => rw [hr] at hh; exact hh.elim
    | vac =>
      refine ⟨0, (key 0).2 ?_⟩
      unfold TL
      rw [hr]; trivial
theorem gather_TL : ∀ (n : Nat) (todo : List Nat) (done objs : List (Nat × Obj)) {S : St}, (gather n todo done).run S = .ok (objs, S) → ∃ l, (gather n todo done).log S = (l, []) ∧ ∀ x ∈ l, x ∈ objs.map (·.1) := by
  intro n
  induction n with
  | zero =>
    intro todo done objs S h
    cases todo with
    | nil => exact ⟨[], rfl, fun x hx => by cases hx⟩
    | cons i l => cases h
  | succ n ih =>
    intro todo done objs S h
    cases todo with
    | nil => exact ⟨[], rfl, fun x hx => by cases hx⟩
    | cons i l =>
      simp only [gather] at h ⊢
      split at h
      · rename_i hc
        rw [if_pos hc]
        exact ih _ _ _ h
      · rename_i hc
        rw [if_neg hc]
        obtain ⟨l', h1, h2⟩ := ih _ _ objs (S := S) h
        refine ⟨i :: l', by simp only [T.log, h1], fun x hx => ?_⟩
        have hsub : ∀ (n : Nat) (todo : List Nat) (done objs : List (Nat × Obj)), (gather n todo done).run S = .ok (objs, S) → ∀ p ∈ done, p ∈ objs := by
          intro n
          induction n with
          | zero =>
            intro todo done objs h
            cases todo with
            | nil => cases h; exact fun p hp => hp
            | cons i l => cases h
          | succ n ih =>
            intro todo done objs h
            cases todo with
            | nil => cases h; exact fun p hp => hp
            | cons i l =>
              simp only [gather] at h
              split at h
              · exact ih _ _ _ h
              · exact fun p hp => ih _ _ _ h p (by simp [hp])
        rcases List.mem_cons.1 hx with rfl | hx
        · exact List.mem_map.2 ⟨_, hsub _ _ _ _ h (x, S.obj x) (by simp), rfl⟩
        · exact h2 x hx
/-- a call that works on one variable -/
theorem ShD_1 {f : FuncId} {as : List LV} {id : Nat} {o : Obj} (hr : as.flatMap refs = [id]) (ho : S.obj id = o) (hor : objRefs o = []) (ht : objTame [id] o = true) (ha : as.all (argTame [id]) = true)
    (h : SQ cfg f as (small [(id, o)]) fun r S1 => TQ (closeV r) S1 fun r' S2 => dataV r' = true ∧ objTame [id] (S2.obj id) = true ∧
      K r' ⟨fun j => if j = id then stampO S.clk (S2.obj id) else S.obj j, S.next, S.clk + 1, S.esc⟩ [id] [id]) : ShD cfg f as S K := by
  subst ho
  obtain ⟨n, h⟩ := h
  refine ⟨n, ?_⟩
  have hb : ∀ c, shBody cfg n f as [(id, S.obj id)] c = (T.ofRes (runSh (ev cfg n) f as [(id, S.obj id)])).bind fun q => .put id (stampO c (q.2.obj id)) (.ret q.1) := by
    intro c
    unfold shBody
    rw [if_pos ⟨by simpa using ht, by simpa using ha⟩]
    rfl
  rw [TL_bind, hr]
  show TL (.get id fun o => gather 63 (objRefs o ++ []) [(id, o)]) S _
  rw [TL_get]
  rw [hor]
  show TL (.tick fun c => shBody cfg n f as [(id, S.obj id)] c) S _
  rw [TL_tick, hb]
  have hrun : (runSh (ev cfg n) f as [(id, S.obj id)]).holds fun q => dataV q.1 = true ∧ objTame [id] (q.2.obj id) = true ∧ K q.1 ⟨fun j => if j = id then stampO S.clk (q.2.obj id) else S.obj j, S.next, S.clk + 1, S.esc⟩ [id] [id] := by
    unfold runSh
    rw [holds_bind]
    refine holds_mono (fun q hq => ?_) h
    rw [holds_bind]
    refine holds_mono (fun q' hq' => ?_) hq
    have hc : dataV q'.1 = true ∧ allTame [(id, S.obj id)] q'.2 = true := ⟨hq'.1, by simpa [allTame] using hq'.2.1⟩
    rw [if_pos hc]
    exact hq'
  rw [TL_bind, TL_quiet (q_ofRes _), TQ_ofRes]
  refine holds_mono (fun q hq => ?_) hrun
  have := hq.2.2
  have e : (⟨fun j => if j = id then stampO S.clk (q.2.obj id) else S.obj j, S.next, S.clk + 1, S.esc⟩ : St) = S.tick.set id (stampO S.clk (q.2.obj id)) := rfl
  rw [e] at this
  exact this
/-- a call that works on data alone -/
theorem ShD_0 {f : FuncId} {as : List LV} (hr : as.flatMap refs = []) (ha : as.all (argTame []) = true)
    (h : SQ cfg f as (small []) fun r S1 => TQ (closeV r) S1 fun r' _ => dataV r' = true ∧ K r' S.tick [] []) : ShD cfg f as S K := by
  obtain ⟨n, h⟩ := h
  refine ⟨n, ?_⟩
  have hb : ∀ c, shBody cfg n f as [] c = (T.ofRes (runSh (ev cfg n) f as [])).bind fun q => .ret q.1 := by
    intro c
    unfold shBody
    rw [if_pos ⟨by simp, by simpa using ha⟩]
    rfl
  rw [TL_bind, hr]
  show TL (.tick fun c => shBody cfg n f as [] c) S _
  rw [TL_tick, hb]
  have hrun : (runSh (ev cfg n) f as []).holds fun q => dataV q.1 = true ∧ K q.1 S.tick [] [] := by
    unfold runSh
    rw [holds_bind]
    refine holds_mono (fun q hq => ?_) h
    rw [holds_bind]
    refine holds_mono (fun q' hq' => ?_) hq
    have hc : dataV q'.1 = true ∧ allTame [] q'.2 = true := ⟨hq'.1, by simp [allTame]⟩
    rw [if_pos hc]
    exact hq'
  rw [TL_bind, TL_quiet (q_ofRes _), TQ_ofRes]
  exact holds_mono (fun q hq => hq.2) hrun
/-- a slice that was made anew -/
def NewSl (S S' : St) (v : LV) (sz : Nat) (xs : List D) : Prop := (v = .lit [] ∧ xs = []) ∨ ∃ id, S.next ≤ id ∧ id < S'.next ∧ v = .ar (.arr id) sz 0 xs.length ∧ S'.obj id = .arr sz xs false
/-- what was there is as it was -/
def Kept (S S' : St) : Prop := (∀ j, j < S.next → S'.obj j = S.obj j) ∧ S.next ≤ S'.next ∧ S.clk ≤ S'.clk ∧ S'.esc = S.esc
theorem Kept.refl (S : St) : Kept S S := ⟨fun _ _ => rfl, Nat.le_refl _, Nat.le_refl _, rfl⟩
theorem Kept.of {S0 S S' : St} (h : Kept S0 S) (ho : ∀ j, j < S0.next → S'.obj j = S.obj j) (hn : S.next ≤ S'.next) (hc : S.clk ≤ S'.clk) (he : S'.esc = S.esc) : Kept S0 S' :=
  ⟨fun j hj => (ho j hj).trans (h.1 j hj), Nat.le_trans h.2.1 hn, Nat.le_trans h.2.2.1 hc, he.trans h.2.2.2⟩
theorem Kept.trans {S0 S S' : St} (h : Kept S0 S) (k : Kept S S') : Kept S0 S' :=
  h.of (fun j hj => k.1 j (Nat.lt_of_lt_of_le hj h.2.1)) k.2.1 k.2.2.1 k.2.2.2
theorem Kept.alloc {S0 S : St} {o : Obj} (h : Kept S0 S) : Kept S0 (S.alloc o) :=
  h.of (fun j hj => by have := h.2.1; simp only [alloc_at]; rw [if_neg (by omega)]) (by simp) (by simp) rfl
theorem Kept.set {S0 S : St} {i : Nat} {o : Obj} (h : Kept S0 S) (hi : S0.next ≤ i) : Kept S0 (S.set i o) :=
  h.of (fun j hj => by simp only [set_obj]; rw [if_neg (by omega)]) (by simp) (by simp) rfl
theorem NewSl.close {S S' : St} {v : LV} {xs : List D} {sz : Nat} {Q : LV → Prop} (h : NewSl S S' v sz xs) (hq : Q (.d (.sl xs))) : TQ (closeV v) S' fun v _ => Q v := by
  rcases h with ⟨rfl, rfl⟩ | ⟨id, h1, h2, rfl, h4⟩
  · exact hq
  · simp only [closeV]
    rw [TQ_bind, toD_ar, arrT_arr, TQ_get, h4, onArr_arr]
    simp only [Nat.zero_add, Nat.le_refl, if_true, Bool.false_eq_true, if_false, setT_arr]
    rw [sub_all (Nat.le_refl _)]
    exact hq
theorem byD_getE {b : List UInt8} {k : Nat} {h : k < (byD b).length} : (byD b)[k] = .int .u8 (nth b k).toNat := by
  have h' : k < b.length := by simpa using h
  simp [byD, nth, h']
theorem inD_getE {b : List Int} {k : Nat} {h : k < (inD b).length} : (inD b)[k] = .int .i64 (nth b k) := by
  have h' : k < b.length := by simpa using h
  simp [inD, nth, h']
theorem rowD_getE {α : Type} [Inhabited α] {enc : α → D} {b : List α} {k : Nat} {h : k < (rowD enc b).length} : (rowD enc b)[k] = enc (nth b k) := by
  have h' : k < b.length := by simpa using h
  simp [rowD, nth, h']
attribute [simp] byD_getE inD_getE rowD_getE
theorem ext_tup {i : Nat} {vs : List LV} : extractT i (.tup vs) = onO vs[i]? .ret := by
  simp only [extractT, onO]
  cases vs[i]? <;> rfl
section
variable {P : Program} {s d : TypeId}
theorem conv_ar {l : Loc} {sz lo n : Nat} (hs : (P.underlying s).isSome = true) (hd : tyStr P d = true) (hb : tyBy P s = true) : convertT P s d (.ar l sz lo n) = arrT l fun _ xs _ => if lo + n ≤ xs.length then onO (bytesOf? (sub xs lo n)) fun b => .ret (.d (.str b)) else .no := by
  simp only [convertT, hs, hd, hb, if_true, peek1]
  cases l with
  | arr id =>
    rw [arrT_arr, arrT_arr]
    simp only [T.bind]
    congr
    funext o
    cases o <;> first | rfl | skip
    rename_i sz' xs fz
    simp only [onArr]
    split
    · simp only [T.bind, onO]
      cases bytesOf? (sub xs lo n) <;> rfl
    · rfl
  | cell id off v =>
    rw [arrT_cell, arrT_cell]
    simp only [T.bind]
    congr
    funext o
    cases o <;> first | rfl | skip
    rename_i cs
    simp only [onCells]
    cases cs[off]? with
    | none => rfl
    | some c =>
      cases c <;> first | rfl | skip
      rename_i v' sz' xs fz
      simp only [onOwn]
      split
      · split
        · simp only [T.bind, onO]
          cases bytesOf? (sub xs lo n) <;> rfl
        · rfl
      · rfl
theorem conv_lit {xs : List D} (hs : (P.underlying s).isSome = true) (hd : tyStr P d = true) (hb : tyBy P s = true) : convertT P s d (.lit xs) = onO (bytesOf? xs) fun b => .ret (.d (.str b)) := by
  simp only [convertT, hs, hd, hb, if_true, peek1, T.bind, onO]
  cases bytesOf? xs <;> rfl
theorem conv_byD {b : List UInt8} (hs : (P.underlying s).isSome = true) (hd : tyStr P d = true) (hb : tyBy P s = true) : convertT P s d (.d (.sl (byD b))) = .ret (.d (.str b)) := by
  simp only [convertT, hs, hd, hb, if_true, peek1, T.bind, byD_of]
theorem bytesOf_nil : bytesOf? [] = some [] := rfl
end
attribute [simp] indepM conv_ar conv_lit conv_byD bytesOf_nil byD_of
theorem prep_d {x : D} : prep (.d x) = .ret (.d x) := by cases x <;> rfl
theorem prep_ptr {a b : Nat} : prep (.ptr a b) = .ret (.ptr a b) := rfl
theorem prep_mp {a : Nat} : prep (.mp a) = .ret (.mp a) := rfl
theorem prep_fn {f : Nat} : prep (.fn f []) = .ret (.fn f []) := rfl
theorem prep_lit {xs : List D} : prep (.lit xs) = .ret (.d (.sl xs)) := rfl
theorem prep_ar {l : Loc} {a b c : Nat} : prep (.ar l a b c) = (toD (.ar l a b c)).bind fun x => .ret (.d x) := rfl
theorem prep_agg {cs : List LV} : prep (.agg cs) = (toD (.agg cs)).bind fun x => .ret (.d x) := rfl
theorem ref_d {x : D} : refs (.d x) = [] := rfl
theorem ref_lit {x : List D} : refs (.lit x) = [] := rfl
theorem ref_own {a b : Nat} {x : List D} {fz : Bool} : refs (.own a b x fz) = [] := rfl
theorem ref_ptr {a b : Nat} : refs (.ptr a b) = [a] := rfl
theorem objRef_cells {cs : List LV} : objRefs (.cells cs) = cs.flatMap refs := rfl
theorem argT_d {R : List Nat} {x : D} : argTame R (.d x) = true := rfl
theorem argT_ptr {R : List Nat} {a b : Nat} : argTame R (.ptr a b) = R.elem a := rfl
theorem argT_fn {R : List Nat} {f : Nat} : argTame R (.fn f []) = true := rfl
theorem celT_d {R : List Nat} {x : D} : cellTame R (.d x) = true := rfl
theorem celT_lit {R : List Nat} {x : List D} : cellTame R (.lit x) = true := rfl
theorem celT_own {R : List Nat} {a b : Nat} {x : List D} {fz : Bool} : cellTame R (.own a b x fz) = true := rfl
theorem celT_ptr {R : List Nat} {a b : Nat} : cellTame R (.ptr a b) = R.elem a := rfl
theorem objT_cells {R : List Nat} {cs : List LV} : objTame R (.cells cs) = cs.all (cellTame R) := rfl
theorem stamp_d {c : Nat} {x : D} : stamp c (.d x) = .d x := rfl
theorem stamp_lit {c : Nat} {x : List D} : stamp c (.lit x) = .lit x := rfl
theorem stamp_ptr {c a b : Nat} : stamp c (.ptr a b) = .ptr a b := rfl
theorem stamp_own {c a b : Nat} {x : List D} {fz : Bool} : stamp c (.own a b x fz) = .own c b x fz := rfl
theorem stampO_cells {c : Nat} {cs : List LV} : stampO c (.cells cs) = .cells (cs.map (stamp c)) := rfl
theorem small1_obj {id : Nat} {o : Obj} {i : Nat} : (small [(id, o)]).obj i = if i = id then o else .dead := by
  show (([(id, o)].find? fun p => p.1 == i).map (·.2)).getD .dead = _
  by_cases h : i = id
  · subst h; simp
  · have : ¬ id = i := fun e => h e.symm
    simp [h, this]
theorem small1_next {id : Nat} {o : Obj} : (small [(id, o)]).next = id + 1 := by simp [small, nextOf]
theorem small_esc {l : List (Nat × Obj)} : (small l).esc = false := rfl
theorem small0 : small [] = .empty := by
  show (⟨_, _, _, _⟩ : St) = ⟨_, _, _, _⟩
  simp [nextOf, clkOf]
attribute [simp] ext_tup prep_d prep_ptr prep_mp prep_fn prep_lit prep_ar prep_agg ref_d ref_lit ref_own ref_ptr objRef_cells argT_d argT_ptr argT_fn celT_d celT_lit celT_own celT_ptr objT_cells stamp_d stamp_lit stamp_ptr stamp_own stampO_cells small1_obj small1_next small_esc small0
end Go.VM
end

/- The machine of values: what a law is given, read as data. No condition. -/
section
namespace Go.VM
open Go.RowKit
variable {P : Program} {t e : TypeId} {α β : Type}

/-- no slice, no string takes more -/
abbrev lim : Nat := 140737488351232
abbrev Old (w : World) : Nat → Prop := fun b => b < w.heap.size
/-- whatever can be read as of this type is the data of something of that sort -/
structure Opens (P : Program) (t : TypeId) (enc : α → List D) (ok : α → Prop) : Prop where
  go : ∀ {H : Type} (en : TypeId × Value → H) (w : World) (base : Nat) (spare : Nat → Bool) (held : Bool) (fuel : Nat) (cs : List Value) (x : DataW H × List MemPlace),
    DataW.trod en P w base spare held fuel t cs = some x → (∀ n ∈ x.1.weights P t, n ≤ lim) → ∃ a, ok a ∧ (enc a).length = cs.length ∧ (∀ d ∈ enc a, d.one = true) ∧
      ∀ (i : Nat) (d : D) (c : Value), (enc a)[i]? = some d → cs[i]? = some c → Rep w (Old w) d c
theorem Opens.map {enc : α → List D} {ok : α → Prop} (h : Opens P t enc ok) {enc' : β → List D} {ok' : β → Prop} (g : α → β) (hg : ∀ a, ok a → enc' (g a) = enc a ∧ ok' (g a)) : Opens P t enc' ok' where
  go en w base spare held fuel cs x hx hz := by
    obtain ⟨a, h1, h2, h3, h4⟩ := h.go en w base spare held fuel cs x hx hz
    obtain ⟨e1, e2⟩ := hg a h1
    exact ⟨g a, e2, by rw [e1]; exact h2, by rw [e1]; exact h3, by rw [e1]; exact h4⟩
theorem one_rep {w : World} {d0 : D} {c0 : Value} (h : Rep w (Old w) d0 c0) : ∀ (i : Nat) (d : D) (c : Value), [d0][i]? = some d → [c0][i]? = some c → Rep w (Old w) d c := by
  intro i d c h1 h2
  cases i with
  | zero => simp at h1 h2; subst h1 h2; exact h
  | succ i => simp at h1
theorem opens_int {k : IntKind} (ht : P.underlying t = some (.int k)) : Opens P t (fun n : Int => [.int k n]) fun n => (Lit.int k n).wf = true where
  go en w base spare held fuel cs x hx _ := by
    obtain ⟨n, rfl, rfl, hw⟩ := DataW.trod_int ht hx
    exact ⟨n, hw, rfl, by simp [D.one], one_rep (.int k n)⟩
theorem opens_bool (ht : P.underlying t = some .bool) : Opens P t (fun b : Bool => [.bool b]) fun _ => True where
  go en w base spare held fuel cs x hx _ := by
    obtain ⟨b, rfl, rfl⟩ := DataW.trod_bool ht hx
    exact ⟨b, trivial, rfl, by simp [D.one], one_rep (.bool b)⟩
theorem opens_str (ht : P.underlying t = some .string) : Opens P t (fun s : List UInt8 => [.str s]) fun s => s.length ≤ lim where
  go en w base spare held fuel cs x hx hz := by
    obtain ⟨s, rfl, rfl, hs⟩ := DataW.trod_string ht hx
    refine ⟨s.data.toList, hz _ (by simp [DataW.weights]), rfl, by simp [D.one], one_rep (.str s ?_)⟩
    unfold maxLen at hs; omega
/-- one of each, for each -/
theorem choices {p : Nat → α → Prop} : ∀ n, (∀ i, i < n → ∃ a, p i a) → ∃ l : List α, l.length = n ∧ ∀ (i : Nat) (a : α), l[i]? = some a → p i a := by
  intro n
  induction n with
  | zero => intro _; exact ⟨[], rfl, fun i a h => by simp at h⟩
  | succ n ih =>
    intro h
    obtain ⟨l, h1, h2⟩ := ih fun i hi => h i (by omega)
    obtain ⟨a, ha⟩ := h n (by omega)
    refine ⟨l ++ [a], by simp [h1], fun i b hb => ?_⟩
    by_cases hi : i < n
    · rw [List.getElem?_append_left (by omega)] at hb
      exact h2 i b hb
    · have : i = n := by have := (List.getElem?_eq_some_iff.1 hb).1; simp at this; omega
      subst this
      rw [List.getElem?_append_right (by omega)] at hb
      simp [h1] at hb
      subst hb; exact ha
theorem weights_all {H : Type} : ∀ {l : List (DataW H)} {d : DataW H}, d ∈ l → ∀ n ∈ d.weights P e, n ∈ DataW.weightsAll P e l := by
  intro l
  induction l with
  | nil => intro d h; cases h
  | cons c l ih =>
    intro d h n hn
    simp only [DataW.weightsAll, List.mem_append]
    cases h with
    | head => exact .inl hn
    | tail _ h => exact .inr (ih h n hn)
theorem opens_slice {enc : α → List D} {ok : α → Prop} {es bs : Nat} (ht : P.underlying t = some (.slice e)) (hc : P.cellsOf e = es) (hbs : P.bytesOf e = bs) (h0 : 0 < es) (h : Opens P e enc ok) (enc1 : α → D) (h1 : ∀ a, (enc1 a).cells = enc a) (hl : ∀ a, (enc a).length = es) :
    Opens P t (fun l : List α => [.sl (rowD enc1 l)]) fun l => (∀ a ∈ l, ok a) ∧ l.length * bs ≤ lim where
  go en w base spare held fuel cs x hx hz := by
    rcases DataW.trod_slice ht hx with ⟨rfl, _⟩ | ⟨a, len, cap, elems, rest, n, _, rfl, hxe, hb, hlc, hm, hlen, hel, _⟩
    · exact ⟨[], ⟨by simp, by simp⟩, rfl, by simp [D.one], one_rep (.empty none 0 (by decide))⟩
    · rw [hc] at hel
      have hz1 : ∀ i (hi : i < elems.length), ∀ n ∈ (elems[i]).1.weights P e, n ≤ lim := by
        intro i hi n hn
        refine hz n ?_
        rw [hxe]
        simp only [DataW.weights, ht, List.mem_cons, List.mem_append]
        exact .inr (.inl (weights_all (List.mem_map.2 ⟨elems[i], List.getElem_mem hi, rfl⟩) n hn))
      have hz2 : len * bs ≤ lim := by
        have := hz ((elems.length + rest.length) * P.bytesOf e) (by rw [hxe]; simp [DataW.weights, ht])
        rw [hbs, hlen] at this
        exact Nat.le_trans (Nat.mul_le_mul_right bs (Nat.le_add_right len rest.length)) this
      have each : ∀ i, i < len → ∃ b, ok b ∧ ∀ (j : Nat) (d : D), (enc b)[j]? = some d → d.one = true ∧ ∃ v, w.cell? (a.add (i * es + j)) = some v ∧ Rep w (Old w) d v := by
        intro i hi
        have hi' : i < elems.length := by omega
        have hel := hel i hi
        rw [List.getElem?_eq_getElem hi'] at hel
        obtain ⟨cs, hcs, htr⟩ := Option.bind_eq_some_iff.1 hel
        obtain ⟨_, k2, k3⟩ := World.cells?_some hcs
        obtain ⟨b, b1, b2, b3, b4⟩ := h.go en w base spare held n cs _ htr (hz1 i hi')
        refine ⟨b, b1, fun j d hj => ⟨b3 d (List.mem_of_getElem? hj), ?_⟩⟩
        have hjl : j < es := by have := (List.getElem?_eq_some_iff.1 hj).1; rw [hl] at this; exact this
        have hjc : j < cs.length := by omega
        refine ⟨cs[j], ?_, b4 j d cs[j] hj (List.getElem?_eq_getElem hjc)⟩
        have := k3 j hjl
        rw [List.getElem?_eq_getElem hjc] at this
        rw [← this]
        by_cases q1 : i * es = 0 <;> by_cases q2 : j = 0 <;> simp [Addr.add, q1, q2, Nat.add_assoc]
      obtain ⟨l, l1, l2⟩ := choices len each
      refine ⟨l, ⟨fun b hb => ?_, by rw [l1]; exact hz2⟩, rfl, by simp [D.one], one_rep ?_⟩
      · obtain ⟨i, hi⟩ := List.getElem?_of_mem hb
        exact (l2 i b hi).1
      · by_cases hz : len = 0
        · have hnil : l = [] := by cases l with
            | nil => rfl
            | cons b l => simp at l1; omega
          subst hnil hz
          exact .empty _ _ hm
        · have hget : ∀ (i : Nat) (x : D), (rowD enc1 l)[i]? = some x → ∃ b, l[i]? = some b ∧ x = enc1 b := by
            intro i x hx
            rw [rowD, List.getElem?_map] at hx
            cases hli : l[i]? with
            | none => rw [hli] at hx; cases hx
            | some b => rw [hli] at hx; cases hx; exact ⟨b, rfl, rfl⟩
          have hspot : a.spot = none ∧ a.block < w.heap.size := by
            have hl0 : 0 < l.length := by omega
            have hb0 := l2 0 l[0] (List.getElem?_eq_getElem hl0)
            have he : 0 < (enc l[0]).length := by rw [hl]; exact h0
            obtain ⟨_, v, hv, _⟩ := hb0.2 0 _ (List.getElem?_eq_getElem he)
            have hsp := World.cell?_spot hv
            have hsp' : a.spot = none := by simpa [Addr.add] using hsp
            refine ⟨hsp', ?_⟩
            have : a.add (0 * es + 0) = a := by obtain ⟨b, o, s⟩ := a; simp [Addr.add]
            rw [this] at hv
            obtain ⟨b, o, s⟩ := a
            simp only at hsp'
            subst hsp'
            obtain ⟨c, ee, f, hh, _⟩ := cell_of_some hv
            exact lt_size hh
          obtain ⟨b, off, s⟩ := a
          obtain ⟨hs, hlt⟩ := hspot
          simp only at hs hlt
          subst hs
          have hadd : ∀ k, (⟨b, off, none⟩ : Addr).add k = ⟨b, off + k, none⟩ := fun k => Addr.add_mid b off k
          have hlen' : (rowD enc1 l).length = len := by simp [l1]
          have hrep : Rep w (Old w) (.sl (rowD enc1 l)) (.slice (some ⟨b, off, none⟩) (rowD enc1 l).length cap) := by
            refine Rep.sl (rowD enc1 l) b off cap es hlt (by omega) hm (fun x hx => ?_) (fun x hx d hd => ?_) (fun i j => (w.cell? ⟨b, off + i * es + j, none⟩).getD undef) (fun i j x d e1 e2 => ?_) (fun i j x d e1 e2 => ?_)
            · obtain ⟨c, _, rfl⟩ := List.mem_map.1 hx
              rw [h1, hl]
            · obtain ⟨i, hi⟩ := List.getElem?_of_mem hx
              obtain ⟨b', hb', rfl⟩ := hget i x hi
              rw [h1] at hd
              obtain ⟨j, hj⟩ := List.getElem?_of_mem hd
              exact ((l2 i b' hb').2 j d hj).1
            · obtain ⟨b', hb', rfl⟩ := hget i x e1
              rw [h1] at e2
              obtain ⟨_, v, hv, _⟩ := (l2 i b' hb').2 j d e2
              rw [hadd, ← Nat.add_assoc] at hv
              rw [hv]; rfl
            · obtain ⟨b', hb', rfl⟩ := hget i x e1
              rw [h1] at e2
              obtain ⟨_, v, hv, hr⟩ := (l2 i b' hb').2 j d e2
              rw [hadd, ← Nat.add_assoc] at hv
              rw [hv]; exact hr
          rw [hlen'] at hrep
          exact hrep
/-! structs, field by field -/
structure OpensF (P : Program) (off : Nat) (fs : List Field) (enc : α → List D) (ok : α → Prop) : Prop where
  go : ∀ {H : Type} (en : TypeId × Value → H) (w : World) (base : Nat) (spare : Nat → Bool) (held : Bool) (fuel : Nat) (cs : List Value) (xs : List (DataW H × List MemPlace)), xs.length = fs.length →
    (∀ (i : Nat) (f : Field), fs[i]? = some f → DataW.trod en P w base spare held fuel f.type ((cs.drop f.offset).take (P.cellsOf f.type)) = xs[i]?) →
    (∀ n ∈ DataW.weightsEach P (fs.map (·.type)) (xs.map (·.1)), n ≤ lim) → ∃ a, ok a ∧ (∀ d ∈ enc a, d.one = true) ∧ off + (enc a).length ≤ max off cs.length ∧ ∀ (i : Nat) (d : D) (c : Value), (enc a)[i]? = some d → (cs.drop off)[i]? = some c → Rep w (Old w) d c
theorem opensF_nil {off : Nat} : OpensF P off [] (fun _ : Unit => []) fun _ => True where
  go en w base spare held fuel cs xs hx h _ := ⟨(), trivial, by simp, by simp; omega, fun i d c h1 => by simp at h1⟩
theorem opensF_cons {off n : Nat} {f : Field} {fs : List Field} {enc1 : α → List D} {ok1 : α → Prop} {enc2 : β → List D} {ok2 : β → Prop} (ho : f.offset = off) (hn : P.cellsOf f.type = n) (h0 : 0 < n) (hl : ∀ a, (enc1 a).length = n)
    (h1 : Opens P f.type enc1 ok1) (h2 : OpensF P (off + n) fs enc2 ok2) : OpensF P off (f :: fs) (fun p : α × β => enc1 p.1 ++ enc2 p.2) fun p => ok1 p.1 ∧ ok2 p.2 where
  go en w base spare held fuel cs xs hx h hz := by
    cases xs with
    | nil => simp at hx
    | cons x xs =>
      have q := h 0 f rfl
      rw [ho, hn] at q
      obtain ⟨a, a1, a2, a3, a4⟩ := h1.go en w base spare held fuel _ x (by simpa using q) (fun m hm => hz m (by simp only [List.map_cons, DataW.weightsEach, List.mem_append]; exact .inl hm))
      obtain ⟨b, b1, b2, b3, b4⟩ := h2.go en w base spare held fuel cs xs (by simpa using hx) (fun i g hg => by simpa using h (i + 1) g (by simpa using hg)) (fun m hm => hz m (by simp only [List.map_cons, DataW.weightsEach, List.mem_append]; exact .inr hm))
      have hlen : n ≤ cs.length - off := by
        rw [hl] at a2
        simp at a2; omega
      refine ⟨(a, b), ⟨a1, b1⟩, fun d hd => ?_, ?_, fun i d c e1 e2 => ?_⟩
      · rcases List.mem_append.1 hd with hd | hd
        · exact a3 d hd
        · exact b2 d hd
      · simp only [List.length_append, hl]; omega
      · by_cases hi : i < n
        · rw [List.getElem?_append_left (by rw [hl]; exact hi)] at e1
          refine a4 i d c e1 ?_
          rw [List.getElem?_take, if_pos hi]; exact e2
        · rw [List.getElem?_append_right (by rw [hl]; omega), hl] at e1
          refine b4 (i - n) d c e1 ?_
          rw [List.getElem?_drop] at e2 ⊢
          rw [← e2]; congr 1; omega
theorem opens_struct {fs : Array Field} {enc : α → List D} {ok : α → Prop} {n : Nat} (ht : P.underlying t = some (.struct fs)) (hn : P.cellsOf t = n) (hl : ∀ a, (enc a).length = n) (h : OpensF P 0 fs.toList enc ok) : Opens P t enc ok where
  go en w base spare held fuel cs x hx hz := by
    obtain ⟨xs, m, _, hxe, h2, h3, h4⟩ := DataW.trod_struct ht hx
    obtain ⟨a, a1, a2, a3, a4⟩ := h.go en w base spare held m cs xs (by simpa using h3) (fun i f hf => h4 i f (by simpa using hf)) (fun m hm => hz m (by rw [hxe]; simp only [DataW.weights, ht]; exact hm))
    refine ⟨a, a1, by rw [hl, h2, hn], a2, fun i d c e1 e2 => a4 i d c e1 (by simpa using e2)⟩
theorem opens_struct2 {α1 α2 : Type} {f1 f2 : Field} {n1 n2 : Nat} {e1 : α1 → List D} {k1 : α1 → Prop} {e2 : α2 → List D} {k2 : α2 → Prop} (ht : P.underlying t = some (.struct #[f1, f2])) (h1 : Opens P f1.type e1 k1) (l1 : ∀ a, (e1 a).length = n1) (h2 : Opens P f2.type e2 k2) (l2 : ∀ a, (e2 a).length = n2) (z1 : 0 < n1) (z2 : 0 < n2) (hn : P.cellsOf t = n1 + n2) (o1 : f1.offset = 0) (o2 : f2.offset = 0 + n1) (c1 : P.cellsOf f1.type = n1) (c2 : P.cellsOf f2.type = n2) : Opens P t (fun p : α1 × α2 × Unit => e1 p.1 ++ (e2 p.2.1 ++ ([]))) fun p => k1 p.1 ∧ k2 p.2.1 ∧ True := by
  refine opens_struct ht hn (fun a => by simp [l1, l2, Nat.add_assoc]) ?_
  have q := (opensF_cons o1 c1 z1 l1 h1 (opensF_cons o2 c2 z2 l2 h2 opensF_nil))
  exact q
theorem opens_struct3 {α1 α2 α3 : Type} {f1 f2 f3 : Field} {n1 n2 n3 : Nat} {e1 : α1 → List D} {k1 : α1 → Prop} {e2 : α2 → List D} {k2 : α2 → Prop} {e3 : α3 → List D} {k3 : α3 → Prop} (ht : P.underlying t = some (.struct #[f1, f2, f3])) (h1 : Opens P f1.type e1 k1) (l1 : ∀ a, (e1 a).length = n1) (h2 : Opens P f2.type e2 k2) (l2 : ∀ a, (e2 a).length = n2) (h3 : Opens P f3.type e3 k3) (l3 : ∀ a, (e3 a).length = n3) (z1 : 0 < n1) (z2 : 0 < n2) (z3 : 0 < n3) (hn : P.cellsOf t = n1 + n2 + n3) (o1 : f1.offset = 0) (o2 : f2.offset = 0 + n1) (o3 : f3.offset = 0 + n1 + n2) (c1 : P.cellsOf f1.type = n1) (c2 : P.cellsOf f2.type = n2) (c3 : P.cellsOf f3.type = n3) : Opens P t (fun p : α1 × α2 × α3 × Unit => e1 p.1 ++ (e2 p.2.1 ++ (e3 p.2.2.1 ++ ([])))) fun p => k1 p.1 ∧ k2 p.2.1 ∧ k3 p.2.2.1 ∧ True := by
  refine opens_struct ht hn (fun a => by simp [l1, l2, l3, Nat.add_assoc]) ?_
  have q := (opensF_cons o1 c1 z1 l1 h1 (opensF_cons o2 c2 z2 l2 h2 (opensF_cons o3 c3 z3 l3 h3 opensF_nil)))
  exact q
theorem opens_struct4 {α1 α2 α3 α4 : Type} {f1 f2 f3 f4 : Field} {n1 n2 n3 n4 : Nat} {e1 : α1 → List D} {k1 : α1 → Prop} {e2 : α2 → List D} {k2 : α2 → Prop} {e3 : α3 → List D} {k3 : α3 → Prop} {e4 : α4 → List D} {k4 : α4 → Prop} (ht : P.underlying t = some (.struct #[f1, f2, f3, f4])) (h1 : Opens P f1.type e1 k1) (l1 : ∀ a, (e1 a).length = n1) (h2 : Opens P f2.type e2 k2) (l2 : ∀ a, (e2 a).length = n2) (h3 : Opens P f3.type e3 k3) (l3 : ∀ a, (e3 a).length = n3) (h4 : Opens P f4.type e4 k4) (l4 : ∀ a, (e4 a).length = n4) (z1 : 0 < n1) (z2 : 0 < n2) (z3 : 0 < n3) (z4 : 0 < n4) (hn : P.cellsOf t = n1 + n2 + n3 + n4) (o1 : f1.offset = 0) (o2 : f2.offset = 0 + n1) (o3 : f3.offset = 0 + n1 + n2) (o4 : f4.offset = 0 + n1 + n2 + n3) (c1 : P.cellsOf f1.type = n1) (c2 : P.cellsOf f2.type = n2) (c3 : P.cellsOf f3.type = n3) (c4 : P.cellsOf f4.type = n4) : Opens P t (fun p : α1 × α2 × α3 × α4 × Unit => e1 p.1 ++ (e2 p.2.1 ++ (e3 p.2.2.1 ++ (e4 p.2.2.2.1 ++ ([]))))) fun p => k1 p.1 ∧ k2 p.2.1 ∧ k3 p.2.2.1 ∧ k4 p.2.2.2.1 ∧ True := by
  refine opens_struct ht hn (fun a => by simp [l1, l2, l3, l4, Nat.add_assoc]) ?_
  have q := (opensF_cons o1 c1 z1 l1 h1 (opensF_cons o2 c2 z2 l2 h2 (opensF_cons o3 c3 z3 l3 h3 (opensF_cons o4 c4 z4 l4 h4 opensF_nil))))
  exact q
theorem opens_struct6 {α1 α2 α3 α4 α5 α6 : Type} {f1 f2 f3 f4 f5 f6 : Field} {n1 n2 n3 n4 n5 n6 : Nat} {e1 : α1 → List D} {k1 : α1 → Prop} {e2 : α2 → List D} {k2 : α2 → Prop} {e3 : α3 → List D} {k3 : α3 → Prop} {e4 : α4 → List D} {k4 : α4 → Prop} {e5 : α5 → List D} {k5 : α5 → Prop} {e6 : α6 → List D} {k6 : α6 → Prop} (ht : P.underlying t = some (.struct #[f1, f2, f3, f4, f5, f6])) (h1 : Opens P f1.type e1 k1) (l1 : ∀ a, (e1 a).length = n1) (h2 : Opens P f2.type e2 k2) (l2 : ∀ a, (e2 a).length = n2) (h3 : Opens P f3.type e3 k3) (l3 : ∀ a, (e3 a).length = n3) (h4 : Opens P f4.type e4 k4) (l4 : ∀ a, (e4 a).length = n4) (h5 : Opens P f5.type e5 k5) (l5 : ∀ a, (e5 a).length = n5) (h6 : Opens P f6.type e6 k6) (l6 : ∀ a, (e6 a).length = n6) (z1 : 0 < n1) (z2 : 0 < n2) (z3 : 0 < n3) (z4 : 0 < n4) (z5 : 0 < n5) (z6 : 0 < n6) (hn : P.cellsOf t = n1 + n2 + n3 + n4 + n5 + n6) (o1 : f1.offset = 0) (o2 : f2.offset = 0 + n1) (o3 : f3.offset = 0 + n1 + n2) (o4 : f4.offset = 0 + n1 + n2 + n3) (o5 : f5.offset = 0 + n1 + n2 + n3 + n4) (o6 : f6.offset = 0 + n1 + n2 + n3 + n4 + n5) (c1 : P.cellsOf f1.type = n1) (c2 : P.cellsOf f2.type = n2) (c3 : P.cellsOf f3.type = n3) (c4 : P.cellsOf f4.type = n4) (c5 : P.cellsOf f5.type = n5) (c6 : P.cellsOf f6.type = n6) : Opens P t (fun p : α1 × α2 × α3 × α4 × α5 × α6 × Unit => e1 p.1 ++ (e2 p.2.1 ++ (e3 p.2.2.1 ++ (e4 p.2.2.2.1 ++ (e5 p.2.2.2.2.1 ++ (e6 p.2.2.2.2.2.1 ++ ([]))))))) fun p => k1 p.1 ∧ k2 p.2.1 ∧ k3 p.2.2.1 ∧ k4 p.2.2.2.1 ∧ k5 p.2.2.2.2.1 ∧ k6 p.2.2.2.2.2.1 ∧ True := by
  refine opens_struct ht hn (fun a => by simp [l1, l2, l3, l4, l5, l6, Nat.add_assoc]) ?_
  have q := (opensF_cons o1 c1 z1 l1 h1 (opensF_cons o2 c2 z2 l2 h2 (opensF_cons o3 c3 z3 l3 h3 (opensF_cons o4 c4 z4 l4 h4 (opensF_cons o5 c5 z5 l5 h5 (opensF_cons o6 c6 z6 l6 h6 opensF_nil))))))
  exact q
/-! what a function is given -/
theorem arg_one {enc : α → List D} {ok : α → Prop} (ho : Opens P t enc ok) (enc1 : α → D) (h1 : ∀ a, enc a = [enc1 a]) (hg : tyAgg P t = some false) {H : Type} {en : TypeId × Value → H} {w : World} {r : Reach} {b0 base : Nat} {spare : Nat → Bool} {held : Bool} {v : Value} {d : DataW H} {ps : List MemPlace}
    (hv : Value.okWide P w r b0 t v) (h : DataW.Trod en P w base spare held t v d ps) (hz : ∀ n ∈ d.weights P t, n ≤ lim) : ∃ a, ok a ∧ Rep w (Old w) (enc1 a) v := by
  obtain ⟨fuel, hf⟩ := h
  obtain ⟨a, a1, a2, a3, a4⟩ := ho.go en w base spare held fuel _ _ hf hz
  rw [h1] at a2 a4
  have hcell : v.cells.toList = [v] := by
    unfold tyAgg at hg
    cases hu : P.underlying t with
    | none => rw [hu] at hg; cases hg
    | some ty =>
      rw [hu] at hg
      cases v with
      | agg cs =>
        exfalso
        unfold Value.okWide at hv
        rw [hu] at hv
        cases ty <;> simp_all [isRowT, Cell.okWide, Cell.ok]
      | _ => rfl
  rw [hcell] at a4
  exact ⟨a, a1, a4 0 _ _ rfl rfl⟩
theorem arg_row {enc : α → List D} {ok : α → Prop} (ho : Opens P t enc ok) (hg : tyAgg P t = some true) {H : Type} {en : TypeId × Value → H} {w : World} {r : Reach} {b0 base : Nat} {spare : Nat → Bool} {held : Bool} {v : Value} {d : DataW H} {ps : List MemPlace}
    (hv : Value.okWide P w r b0 t v) (h : DataW.Trod en P w base spare held t v d ps) (hz : ∀ n ∈ d.weights P t, n ≤ lim) : ∃ a, ok a ∧ Rep w (Old w) (.agg (enc a)) v := by
  obtain ⟨fuel, hf⟩ := h
  obtain ⟨a, a1, a2, a3, a4⟩ := ho.go en w base spare held fuel _ _ hf hz
  have hcell : ∃ cs, v = .agg cs := by
    unfold tyAgg at hg
    cases hu : P.underlying t with
    | none => rw [hu] at hg; cases hg
    | some ty =>
      rw [hu] at hg
      unfold Value.okWide at hv
      rw [hu] at hv
      cases ty <;> first | (simp [isRowT] at hg; done) | (obtain ⟨cs, h1, _⟩ := hv; exact ⟨cs, h1⟩)
  obtain ⟨cs, rfl⟩ := hcell
  exact ⟨a, a1, .agg _ cs (by simpa [Value.cells] using a2) a3 (fun i d c e1 e2 => a4 i d c e1 (by simpa [Value.cells] using e2))⟩
theorem dargs_nil {w : World} {St : Nat → Prop} : DArgs w St [] [] := ⟨rfl, fun i d v h => by simp at h⟩
theorem dargs_cons {w : World} {St : Nat → Prop} {d : D} {v : Value} {ds : List D} {vs : List Value} (h : Rep w St d v) (k : DArgs w St ds vs) : DArgs w St (d :: ds) (v :: vs) := by
  refine ⟨by simp [k.1], fun i d' v' h1 h2 => ?_⟩
  cases i with
  | zero => simp at h1 h2; subst h1 h2; exact h
  | succ i => exact k.2 i d' v' (by simpa using h1) (by simpa using h2)
end Go.VM
end
