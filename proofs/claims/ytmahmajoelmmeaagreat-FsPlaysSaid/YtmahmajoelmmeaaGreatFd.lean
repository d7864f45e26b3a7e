/- Chapter 5: a change of the program's files, one operation at a time. No condition. -/
import Derived.Test.YtmahmajoelmmeaaGreatFc
section
namespace Go.VM
open Go.Proofs
set_option maxRecDepth 4000
attribute [-simp] Int.not_lt Int.not_le Nat.not_lt Nat.not_le
structure FOp where
 drop : Bool
 name : List UInt8
 data : List UInt8
 deriving Inhabited, DecidableEq
def fopD (o : FOp) : D := .agg [.bool o.drop, .str o.name, .sl (byD o.data)]
def fopL (o : FOp) : List LV := [.d (.bool o.drop), .d (.str o.name), .d (.sl (byD o.data))]
def lookK {α : Type} : List (List UInt8 × α) → List UInt8 → Option α
 | [], _ => none
 | p :: l, n => if n = p.1 then some p.2 else lookK l n
def updK {α : Type} : List (List UInt8 × α) → List UInt8 → α → List (List UInt8 × α)
 | [], n, x => [(n, x)]
 | p :: l, n, x => if n = p.1 then (n, x) :: l else p :: updK l n x
def eraK {α : Type} : List (List UInt8 × α) → List UInt8 → List (List UInt8 × α)
 | [], _ => []
 | p :: l, n => if n = p.1 then l else p :: eraK l n
def mapK {α : Type} (enc : α → D) (l : List (List UInt8 × α)) : List (D × D) := l.map fun p => (.str p.1, enc p.2)
theorem look_K {α : Type} {enc : α → D} {l : List (List UInt8 × α)} {n : List UInt8} : look (mapK enc l) (.str n) = (lookK l n).map enc := by
 induction l with
 | nil => rfl
 | cons p l ih =>
  have : look (mapK enc (p :: l)) (.str n) = if n = p.1 then some (enc p.2) else look (mapK enc l) (.str n) := by
   simp only [look, mapK, List.map_cons, List.find?, D.same];by_cases h : n = p.1 <;> simp [h]
  rw [this, ih, lookK];split <;> rfl
theorem upd_K {α : Type} {enc : α → D} {l : List (List UInt8 × α)} {n : List UInt8} {x : α} : upd (mapK enc l) (.str n) (enc x) = mapK enc (updK l n x) := by
 induction l with
 | nil => rfl
 | cons p l ih =>
  have : upd (mapK enc (p :: l)) (.str n) (enc x) = if n = p.1 then (.str n, enc x) :: mapK enc l else (.str p.1, enc p.2) :: upd (mapK enc l) (.str n) (enc x) := by
   simp only [mapK, List.map_cons, upd, D.same];by_cases h : n = p.1 <;> simp [h]
  rw [this, ih, updK];split <;> rfl
theorem era_K {α : Type} {enc : α → D} {l : List (List UInt8 × α)} {n : List UInt8} : era (mapK enc l) (.str n) = mapK enc (eraK l n) := by
 induction l with
 | nil => rfl
 | cons p l ih =>
  have : era (mapK enc (p :: l)) (.str n) = if n = p.1 then mapK enc l else (.str p.1, enc p.2) :: era (mapK enc l) (.str n) := by
   simp only [mapK, List.map_cons, era, D.same];by_cases h : n = p.1 <;> simp [h]
  rw [this, ih, eraK];split <;> rfl
def boU (_ : Unit) : D := .bool true
def taE (l : List Int) : List (D × D) := l.map fun i => (.int .i64 i, .bool true)
theorem look_ta {l : List Int} {i : Int} : look (taE l) (.int .i64 i) = if i ∈ l then some (.bool true) else none := by
 induction l with
 | nil => rfl
 | cons m l ih =>
  have : look (taE (m :: l)) (.int .i64 i) = if i = m then some (.bool true) else look (taE l) (.int .i64 i) := by
   simp only [look, taE, List.map_cons, List.find?, same_int];by_cases h : i = m <;> simp [h]
  rw [this, ih];by_cases h : i = m <;> simp [h]
theorem upd_ta {l : List Int} {i : Int} (h : i ∉ l) : upd (taE l) (.int .i64 i) (.bool true) = taE (l ++ [i]) := by
 induction l with
 | nil => rfl
 | cons m l ih =>
  have hm : i ≠ m := fun e => h (by simp [e])
  have hl : i ∉ l := fun e => h (by simp [e])
  have : upd (taE (m :: l)) (.int .i64 i) (.bool true) = (.int .i64 m, .bool true) :: upd (taE l) (.int .i64 i) (.bool true) := by
   simp only [taE, List.map_cons, upd, same_int];simp [hm]
  rw [this, ih hl]; rfl
structure Ch where
 files : List (List UInt8 × Fl)
 put : List (List UInt8 × Unit)
 taken : List Int
 free : List Int
 l : List Wr
structure ChAt (S : St) (B cid m1 m2 m3 : Nat) (C : Ch) : Prop where
 lt : (B ≤ cid ∧ cid < S.next) ∧ (B ≤ m1 ∧ m1 < S.next) ∧ (B ≤ m2 ∧ m2 < S.next) ∧ (B ≤ m3 ∧ m3 < S.next)
 ne : (cid ≠ m1 ∧ cid ≠ m2 ∧ cid ≠ m3) ∧ m1 ≠ m2 ∧ m1 ≠ m3 ∧ m2 ≠ m3
 cell : ∃ c, S.obj cid = .cells [.mp m1, .mp m2, .mp m3, .d (.sl (inD C.free)), c] ∧ SlC 2 c (rowD wrD C.l)
 files : S.obj m1 = .mp none (mapK flD C.files)
 put : S.obj m2 = .mp none (mapK boU C.put)
 taken : S.obj m3 = .mp (some .i64) (taE C.taken)
def Up (cid m1 m2 m3 : Nat) (S S' : St) : Prop := (∀ j, j < S.next → j ≠ cid → j ≠ m1 → j ≠ m2 → j ≠ m3 → S'.obj j = S.obj j) ∧ S.next ≤ S'.next ∧ S.clk ≤ S'.clk ∧ S'.esc = S.esc
theorem Up.refl (cid m1 m2 m3 : Nat) (S : St) : Up cid m1 m2 m3 S S := ⟨fun _ _ _ _ _ _ => rfl, Nat.le_refl _, Nat.le_refl _, rfl⟩
theorem Up.trans {cid m1 m2 m3 : Nat} {S S1 S2 : St} (h : Up cid m1 m2 m3 S S1) (k : Up cid m1 m2 m3 S1 S2) : Up cid m1 m2 m3 S S2 :=
 ⟨fun j hj h1 h2 h3 h4 => (k.1 j (Nat.lt_of_lt_of_le hj h.2.1) h1 h2 h3 h4).trans (h.1 j hj h1 h2 h3 h4), Nat.le_trans h.2.1 k.2.1, Nat.le_trans h.2.2.1 k.2.2.1, k.2.2.2.trans h.2.2.2⟩
def Ch.does (C : Ch) (o : FOp) : Int × Ch :=
 if o.drop then (if (lookK C.files o.name).isSome then (0, { C with files := eraK C.files o.name, put := eraK C.put o.name }) else (7, C))
 else if 600 < o.data.length ∨ isName o.name = false then (1, C)
 else (0, { C with files := updK C.files o.name ⟨0, [], 0, [], o.data, false⟩, put := updK C.put o.name () })
def rangeZ (n : Nat) : List Int := (List.range n).map Int.ofNat
theorem rangeZ_succ (n : Nat) : rangeZ (n + 1) = rangeZ n ++ [(n : Int)] := by simp [rangeZ, List.range_succ]
theorem rangeZ_length (n : Nat) : (rangeZ n).length = n := by simp [rangeZ]
def rk (N k : Nat) : List Int := rangeZ k ++ List.replicate (N - k) 0
theorem rk_zero {N : Nat} : rk N 0 = List.replicate N 0 := by simp [rk, rangeZ]
theorem rk_all {N : Nat} : rk N N = rangeZ N := by simp [rk]
theorem rk_length {N k : Nat} (h : k ≤ N) : (rk N k).length = N := by simp [rk, rangeZ_length]; omega
theorem rk_set {N k : Nat} (h : k < N) : (rk N k).set k (k : Int) = rk N (k + 1) := by
 unfold rk;rw [List.set_append_right _ _ (by rw [rangeZ_length]; exact Nat.le_refl _), rangeZ_length, Nat.sub_self]
 obtain ⟨m, hm⟩ : ∃ m, N - k = m + 1 := ⟨N - k - 1, by omega⟩
 rw [hm, List.replicate_succ, List.set_cons_zero, rangeZ_succ, show N - (k + 1) = m by omega]
 simp
theorem alloc_set (S : St) (o o' : Obj) : (S.alloc o).set S.next o' = S.alloc o' := by
 unfold St.set St.alloc;congr 1;funext i;simp only;split <;> rfl
theorem node_range {name : List UInt8} {n : Int} (h0 : 0 ≤ n) (h : n ≤ 600) : nodeIs name n (rangeZ (need n).toNat) = isName name := by
 have h1 := need_le h0 h;have h2 : (rangeZ (need n).toNat).Nodup := by
  refine List.Pairwise.map _ (fun a b hab => ?_) List.nodup_range;intro e; exact hab (Int.ofNat.inj e)
 have h3 : (rangeZ (need n).toNat).all placeOk = true := by
  rw [List.all_eq_true];intro p hp;obtain ⟨i, hi, rfl⟩ := List.mem_map.1 hp;have := List.mem_range.1 hi;simp only [placeOk, Bool.and_eq_true, decide_eq_true_eq, Int.ofNat_eq_natCast];omega
 simp only [nodeIs, h3, h2, h0, h, rangeZ_length, decide_true, Bool.and_true];have : ((need n).toNat : Int) = need n := by omega
 simp [this]
theorem fs_does {S : St} {B cid m1 m2 m3 : Nat} {C : Ch} {o : FOp} {Q : LV → St → Prop} (hC : ChAt S B cid m1 m2 m3 C) (ho : o.data.length ≤ 1000000)
  (h : ∀ S', ChAt S' B cid m1 m2 m3 (C.does o).2 → Up cid m1 m2 m3 S S' → Q (.d (.int .i64 (C.does o).1)) S') : SQ cf 43 [.ptr cid 0, .agg (fopL o)] S Q := by
 obtain ⟨⟨⟨l0, l1⟩, ⟨l2, l3⟩, ⟨l4, l5⟩, l6, l7⟩, ⟨⟨n1, n2, n3⟩, n4, n5, n6⟩, ⟨c, hc, hs⟩, hf, hp, ht⟩ := hC;refine S_intro Tryz.func43 rfl rfl (Nat.le_of_ble_eq_true rfl) ?_;have r0 : ¬ cid = S.next := by omega
 have r2 : ∀ m, ¬ cid = S.next + m := fun m => by omega
 have r6 : ∀ m k n, ¬ cid = S.next + m + k + n := fun m k n => by omega
 have s0 : ¬ m1 = S.next := by omega
 have s1 : ¬ S.next = m1 := by omega
 have s2 : ∀ m, ¬ m1 = S.next + m := fun m => by omega
 have s6 : ∀ m k n, ¬ m1 = S.next + m + k + n := fun m k n => by omega
 have s7 : ∀ m k n, ¬ S.next + m + k + n = m1 := fun m k n => by omega
 have t0 : ¬ m2 = S.next := by omega
 have t2 : ∀ m, ¬ m2 = S.next + m := fun m => by omega
 have t6 : ∀ m k n, ¬ m2 = S.next + m + k + n := fun m k n => by omega
 have u0 : ¬ m3 = S.next := by omega
 have u2 : ∀ m, ¬ m3 = S.next + m := fun m => by omega
 have u6 : ∀ m k n, ¬ m3 = S.next + m + k + n := fun m k n => by omega
 have d1 := Ne.symm n1;have d2 := Ne.symm n2;have d3 := Ne.symm n3;have d4 := Ne.symm n4;have d5 := Ne.symm n5;have d6 := Ne.symm n6;have hfl : ∀ x, (LV.d (flD x)).cells = flL x := fun _ => rfl;simp [fopL];refine f_intro (fun j1 => ?_) (fun j1 => ?_)
 ·simp [r0, s0, hc, hf, look_K]
  cases hlk : lookK C.files o.name with
  | none =>
   simp [found];have e1 : C.does o = (7, C) := by simp [Ch.does, j1, hlk]
   rw [e1] at h;refine h _ ⟨⟨⟨l0, by simp; omega⟩, ⟨l2, by simp; omega⟩, ⟨l4, by simp; omega⟩, l6, by simp; omega⟩, ⟨⟨n1, n2, n3⟩, n4, n5, n6⟩, ⟨c, by simp [r0, r2, hc], hs⟩, by simp [s0, s2, hf], by simp [t0, t2, hp], by simp [u0, u2, ht]⟩ ⟨fun j hj hj1 hj2 hj3 hj4 => ?_, by simp; omega, by simp, rfl⟩
   have q0 : ¬ j = S.next := by omega
   have q1 : ¬ S.next = j := by omega
   have q2 : ∀ m, ¬ j = S.next + m := fun m => by omega
   have q3 : ∀ m, ¬ S.next + m = j := fun m => by omega
   have q4 : ∀ m k, ¬ j = S.next + m + k := fun m k => by omega
   have q5 : ∀ m k, ¬ S.next + m + k = j := fun m k => by omega
   have q6 : ∀ m k n, ¬ j = S.next + m + k + n := fun m k n => by omega
   have q7 : ∀ m k n, ¬ S.next + m + k + n = j := fun m k n => by omega
   have q8 : ∀ m k n l, ¬ j = S.next + m + k + n + l := fun m k n l => by omega
   have q9 : ∀ m k n l, ¬ S.next + m + k + n + l = j := fun m k n l => by omega
   simp [q0, q2]
  | some x =>
   have e1 : C.does o = (0, { C with files := eraK C.files o.name, put := eraK C.put o.name }) := by simp [Ch.does, j1, hlk]
   rw [e1] at h;simp [found, r0, r2, s0, s2, t0, t2, hc, hf, hp, hfl, flL, deleteT, era_K, n1, d4];refine h _ ⟨⟨⟨l0, by simp; omega⟩, ⟨l2, by simp; omega⟩, ⟨l4, by simp; omega⟩, l6, by simp; omega⟩, ⟨⟨n1, n2, n3⟩, n4, n5, n6⟩, ⟨c, by simp [r0, r2, n1, n2, hc], hs⟩, by simp [n4], by simp, by simp [u0, u2, d5, d6, ht]⟩ ⟨fun j hj hj1 hj2 hj3 hj4 => ?_, by simp; omega, by simp, rfl⟩
   have q0 : ¬ j = S.next := by omega
   have q1 : ¬ S.next = j := by omega
   have q2 : ∀ m, ¬ j = S.next + m := fun m => by omega
   have q3 : ∀ m, ¬ S.next + m = j := fun m => by omega
   have q4 : ∀ m k, ¬ j = S.next + m + k := fun m k => by omega
   have q5 : ∀ m k, ¬ S.next + m + k = j := fun m k => by omega
   have q6 : ∀ m k n, ¬ j = S.next + m + k + n := fun m k n => by omega
   have q7 : ∀ m k n, ¬ S.next + m + k + n = j := fun m k n => by omega
   have q8 : ∀ m k n l, ¬ j = S.next + m + k + n + l := fun m k n l => by omega
   have q9 : ∀ m k n l, ¬ S.next + m + k + n + l = j := fun m k n l => by omega
   simp [hj2, hj3, q0, q2]
 ·simp;intro _;refine node_Need (by omega) ?_
  simp;have hnd : 0 ≤ need o.data.length ∧ need o.data.length ≤ 20000 := by
   unfold need;split
   ·omega
   ·rw [Int.tdiv_eq_ediv_of_nonneg (by omega)]; omega
  refine ⟨⟨hnd.1, by omega, by omega⟩, fun _ => ?_⟩
  obtain ⟨N, hN⟩ : ∃ N : Nat, need o.data.length = N := ⟨(need o.data.length).toNat, by omega⟩
  rw [hN] at hnd;simp only [hN];have hN1 : IntKind.i64.wrap 0 = 0 := rfl;refine X_loop (fun (k : Nat) e S' => k ≤ N ∧ e 0 = .ptr cid 0 ∧ e 3 = .ptr S.next 0 ∧ e 5 = .d (.str o.name) ∧ e 8 = .ar (.arr (S.next + 1)) 1 0 N ∧ e 43 = .d (.int .i64 N) ∧ e 44 = .d (.int .i64 k) ∧
   S' = (S.alloc (.cells [.d (.bool o.drop), .d (.str o.name), .d (.sl (byD o.data))])).alloc (.arr 1 (inD (rk N k)) false)) (fun k => N - k) 0 ?_ ?_
  ·simp [rk_zero];rfl
  ·intro k e S' hk;obtain ⟨g1, g2, g3, g4, g5, g6, g7, rfl⟩ := hk;simp [g6, g7];refine f_intro (fun j2 => ?_) (fun j2 => ?_)
   ·have hk : k < N := by omega
    simp [g5, g7, hk];refine ⟨by rw [rk_length (by omega)]; exact hk, k + 1, ⟨by omega, g2, g3, g4, g6, wrap_i64 (by omega) (by omega), ?_⟩, by omega⟩
    rw [rk_set hk];exact alloc_set _ _ _
   ·have : k = N := by omega
    subst this;simp [g3];intro _;have hnd2 := need_le (n := (o.data.length : Int)) (by omega)
    refine f_intro (fun j3 => ?_) (fun j3 => ?_)
    ·simp [j3];have e1 : C.does o = (1, C) := by simp [Ch.does, j1, show 600 < o.data.length by omega]
     rw [e1] at h;refine h _ ⟨⟨⟨l0, by simp; omega⟩, ⟨l2, by simp; omega⟩, ⟨l4, by simp; omega⟩, l6, by simp; omega⟩, ⟨⟨n1, n2, n3⟩, n4, n5, n6⟩, ⟨c, by simp [r0, r2, hc], hs⟩, by simp [s0, s2, hf], by simp [t0, t2, hp], by simp [u0, u2, ht]⟩ ⟨fun j hj hj1 hj2 hj3 hj4 => ?_, by simp; omega, by simp, rfl⟩
     have q0 : ¬ j = S.next := by omega
     have q1 : ¬ S.next = j := by omega
     have q2 : ∀ m, ¬ j = S.next + m := fun m => by omega
     have q3 : ∀ m, ¬ S.next + m = j := fun m => by omega
     have q4 : ∀ m k, ¬ j = S.next + m + k := fun m k => by omega
     have q5 : ∀ m k, ¬ S.next + m + k = j := fun m k => by omega
     have q6 : ∀ m k n, ¬ j = S.next + m + k + n := fun m k n => by omega
     have q7 : ∀ m k n, ¬ S.next + m + k + n = j := fun m k n => by omega
     have q8 : ∀ m k n l, ¬ j = S.next + m + k + n + l := fun m k n l => by omega
     have q9 : ∀ m k n l, ¬ S.next + m + k + n + l = j := fun m k n l => by omega
     simp [q0, q2]
    ·have hn6 := hnd2 (by omega)
     have hr := node_range (name := o.name) (n := (o.data.length : Int)) (by omega) (by omega)
     rw [hN] at hr;simp [j3, g3, g4, g5, rk_all];intro _;refine ⟨by rw [rangeZ_length]; exact Nat.le_refl _, ?_⟩
     rw [List.take_of_length_le (by rw [rangeZ_length]; exact Nat.le_refl _)]
     refine node_Is (by omega) ?_
     rw [Int.toNat_natCast] at hr;rw [hr];simp;refine f_intro (fun j4 => ?_) (fun j4 => ?_)
     ·simp;have e1 : C.does o = (1, C) := by simp [Ch.does, j1, j4]
      rw [e1] at h;refine h _ ⟨⟨⟨l0, by simp; omega⟩, ⟨l2, by simp; omega⟩, ⟨l4, by simp; omega⟩, l6, by simp; omega⟩, ⟨⟨n1, n2, n3⟩, n4, n5, n6⟩, ⟨c, by simp [r0, r2, hc], hs⟩, by simp [s0, s2, hf], by simp [t0, t2, hp], by simp [u0, u2, ht]⟩ ⟨fun j hj hj1 hj2 hj3 hj4 => ?_, by simp; omega, by simp, rfl⟩
      have q0 : ¬ j = S.next := by omega
      have q1 : ¬ S.next = j := by omega
      have q2 : ∀ m, ¬ j = S.next + m := fun m => by omega
      have q3 : ∀ m, ¬ S.next + m = j := fun m => by omega
      have q4 : ∀ m k, ¬ j = S.next + m + k := fun m k => by omega
      have q5 : ∀ m k, ¬ S.next + m + k = j := fun m k => by omega
      have q6 : ∀ m k n, ¬ j = S.next + m + k + n := fun m k n => by omega
      have q7 : ∀ m k n, ¬ S.next + m + k + n = j := fun m k n => by omega
      have q8 : ∀ m k n l, ¬ j = S.next + m + k + n + l := fun m k n l => by omega
      have q9 : ∀ m k n l, ¬ S.next + m + k + n + l = j := fun m k n l => by omega
      simp [q0, q2]
     ·have e1 : C.does o = (0, { C with files := updK C.files o.name ⟨0, [], 0, [], o.data, false⟩, put := updK C.put o.name () }) := by
       have : ¬ (600 < o.data.length ∨ isName o.name = false) := by simp [j4]; omega
       simp only [Ch.does, j1, this, if_false, Bool.false_eq_true]
      rw [e1] at h;simp;refine X_draw (by decide) ?_
      simp [g2, g3, g4, r0, r2, r6, s0, s1, s2, s6, s7, t0, t2, t6, hc, hf, hp, n1, d4, grow_lit0];have z1 : ¬ S.next = S.next + 1 + 1 + 900 := by omega
      refine ⟨by omega, ⟨⟨by decide, .inr z1⟩, .inr z1⟩, ?_⟩
      refine h _ ⟨⟨⟨l0, by simp; omega⟩, ⟨l2, by simp; omega⟩, ⟨l4, by simp; omega⟩, l6, by simp; omega⟩, ⟨⟨n1, n2, n3⟩, n4, n5, n6⟩, ⟨c, by simp [startD, r0, r2, r6, n1, n2, hc], hs⟩, ?_, ?_, by simp [startD, u0, u2, u6, d5, d6, ht]⟩ ⟨fun j hj hj1 hj2 hj3 hj4 => ?_, by simp; omega, by simp, rfl⟩
      ·simp [startD, n4];exact upd_K (enc := flD) (x := ⟨0, [], 0, [], o.data, false⟩)
      ·simp [startD];exact upd_K (enc := boU) (x := ())
      ·have hj0 := hj1;have q0 : ¬ j = S.next := by omega
       have q1 : ¬ S.next = j := by omega
       have q2 : ∀ m, ¬ j = S.next + m := fun m => by omega
       have q3 : ∀ m, ¬ S.next + m = j := fun m => by omega
       have q4 : ∀ m k, ¬ j = S.next + m + k := fun m k => by omega
       have q5 : ∀ m k, ¬ S.next + m + k = j := fun m k => by omega
       have q6 : ∀ m k n, ¬ j = S.next + m + k + n := fun m k n => by omega
       have q7 : ∀ m k n, ¬ S.next + m + k + n = j := fun m k n => by omega
       have q8 : ∀ m k n l, ¬ j = S.next + m + k + n + l := fun m k n l => by omega
       have q9 : ∀ m k n l, ¬ S.next + m + k + n + l = j := fun m k n l => by omega
       simp [startD, hj2, hj3, q0, q2, q6]
end Go.VM
end
section
namespace Go.VM
open Go.Proofs
set_option maxRecDepth 4000
attribute [-simp] Int.not_lt Int.not_le Nat.not_lt Nat.not_le
def Ch.slot (C : Ch) : Int × Ch := match (rangeZ 40).find? fun i => decide (i ∉ C.taken) with
 | some i => (i, { C with taken := C.taken ++ [i] })
 | none => (-1, C)
theorem find_range {P : Int → Bool} {n k : Nat} (hk : k < n) (h : ∀ j, j < k → P (j : Int) = false) (hp : P (k : Int) = true) : (rangeZ n).find? P = some (k : Int) := by
 have e : rangeZ n = rangeZ k ++ (k : Int) :: (rangeZ n).drop (k + 1) := by
  have h1 : k < (rangeZ n).length := by rw [rangeZ_length]; exact hk
  have h2 : nth (rangeZ n) k = (k : Int) := by simp [nth, rangeZ, hk]
  have h3 : (rangeZ n).take k = rangeZ k := by
   simp only [rangeZ, ← List.map_take, List.take_range, Nat.min_eq_left (Nat.le_of_lt hk)]
  rw [← h3, ← h2, ← drop_cons h1, List.take_append_drop]
 rw [e, List.find?_append, List.find?_eq_none.2 fun x hx => ?_]
 ·simp [hp]
 ·obtain ⟨i, hi, rfl⟩ := List.mem_map.1 hx;have := h i (List.mem_range.1 hi);simpa using this
theorem find_range0 {P : Int → Bool} {n : Nat} (h : ∀ j, j < n → P (j : Int) = false) : (rangeZ n).find? P = none := by
 rw [List.find?_eq_none];intro x hx;obtain ⟨i, hi, rfl⟩ := List.mem_map.1 hx;have := h i (List.mem_range.1 hi);simpa using this
theorem fs_slot {S : St} {B cid m1 m2 m3 : Nat} {C : Ch} {Q : LV → St → Prop} (hC : ChAt S B cid m1 m2 m3 C)
  (h : ∀ S', ChAt S' B cid m1 m2 m3 C.slot.2 → Up cid m1 m2 m3 S S' → Q (.d (.int .i64 C.slot.1)) S') : SQ cf 80 [.ptr cid 0] S Q := by
 have hC0 := hC;obtain ⟨⟨⟨l0, l1⟩, ⟨l2, l3⟩, ⟨l4, l5⟩, l6, l7⟩, ⟨⟨n1, n2, n3⟩, n4, n5, n6⟩, ⟨c, hc, hs⟩, hf, hp, ht⟩ := hC;refine S_intro Tryz.func80 rfl rfl (Nat.le_of_ble_eq_true rfl) ?_;have d1 := Ne.symm n1;have d2 := Ne.symm n2;have d3 := Ne.symm n3;have d4 := Ne.symm n4;have d5 := Ne.symm n5;have d6 := Ne.symm n6;simp;refine X_loop (fun (k : Nat) e S' => k ≤ 40 ∧ e 0 = .ptr cid 0 ∧ e 4 = .d (.int .i64 k) ∧ S' = S ∧ ∀ j, j < k → (j : Int) ∈ C.taken) (fun k => 40 - k) 0 ⟨by omega, by simp, by simp, rfl, fun j hj => absurd hj (Nat.not_lt_zero _)⟩ ?_
 intro k e S' hk;obtain ⟨g1, g2, g3, rfl, g4⟩ := hk;simp [g3];refine f_intro (fun j1 => ?_) (fun j1 => ?_)
 ·have hk : k < 40 := by omega
  simp [g2, g3, hc, ht, look_ta];refine f_intro (fun j2 => ?_) (fun j2 => ?_)
  ·simp [g2, g3];refine ⟨k + 1, ⟨by omega, wrap_i64 (by omega) (by omega), fun j hj => ?_⟩, by omega⟩
   by_cases hjk : j = k
   ·rw [hjk]; exact j2
   ·exact g4 j (by omega)
  ·have e1 : C.slot = ((k : Int), { C with taken := C.taken ++ [(k : Int)] }) := by
    unfold Ch.slot;rw [find_range hk (fun j hj => by simpa using g4 j hj) (by simpa using j2)]
   rw [e1] at h;simp [g2, hc, ht, upd_ta j2];refine h _ ⟨⟨⟨l0, by simp; omega⟩, ⟨l2, by simp; omega⟩, ⟨l4, by simp; omega⟩, l6, by simp; omega⟩, ⟨⟨n1, n2, n3⟩, n4, n5, n6⟩, ⟨c, by simp [n3, hc], hs⟩, by simp [n5, hf], by simp [n6, hp], by simp⟩ ⟨fun j hj hj1 hj2 hj3 hj4 => ?_, by simp, by simp, rfl⟩
   simp [hj4]
 ·have : k = 40 := by omega
  subst this;have e1 : C.slot = (-1, C) := by
   unfold Ch.slot;rw [find_range0 fun j hj => by simpa using g4 j hj]
  rw [e1] at h;simp;exact h _ hC0 (Up.refl _ _ _ _ _)
end Go.VM
end
