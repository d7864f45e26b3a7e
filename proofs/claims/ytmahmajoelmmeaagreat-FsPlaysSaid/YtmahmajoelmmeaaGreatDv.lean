/- Chapter 1: a disk that may crash: what the program's methods do to it. No condition. -/
import Derived.Test.YtmahmajoelmmeaaGreatRd
namespace Go.VM
open Go.Proofs
set_option maxRecDepth 4000
attribute [-simp] Int.not_lt Int.not_le Nat.not_lt Nat.not_le
structure Wr where
 pos : Int
 data : List UInt8
 deriving Inhabited, DecidableEq
def wrD (x : Wr) : D := .agg [.int .i64 x.pos, .sl (byD x.data)]
structure Cr where
 pos : Int
 keep : List Bool
 deriving Inhabited, DecidableEq
def bo (b : Bool) : D := .bool b
def boD (l : List Bool) : List D := rowD bo l
def crD (x : Cr) : D := .agg [.int .i64 x.pos, .sl (boD x.keep)]
theorem bo_cells (b : Bool) : (bo b).cells = [.bool b] := rfl
theorem wrD_cells (x : Wr) : (wrD x).cells = [.int .i64 x.pos, .sl (byD x.data)] := rfl
theorem wrD_sized {l : List Wr} : sized 2 (rowD wrD l) ↔ True := iff_true_intro (rowD_sized fun _ => rfl)
theorem bo_sized {l : List Bool} : sized 1 (rowD bo l) ↔ True := iff_true_intro (rowD_sized fun _ => rfl)
attribute [simp] bo_cells wrD_cells wrD_sized bo_sized
structure Dk where
 lasts : List (List UInt8)
 waits : List Wr
 pos : Int
 keep : List Bool
 armed : Bool
 down : Bool
 ops : Int
def SlC (sz : Nat) (c : LV) (xs : List D) : Prop := (c = .lit [] ∧ xs = []) ∨ ∃ v, c = .own v sz xs false
theorem SlC.stamp {sz : Nat} {c : LV} {xs : List D} (h : SlC sz c xs) (k : Nat) : SlC sz (stamp k c) xs := by
 rcases h with ⟨rfl, rfl⟩ | ⟨v, rfl⟩
 ·exact .inl ⟨rfl, rfl⟩
 ·exact .inr ⟨k, rfl⟩
def Tame (c : LV) : Prop := refs c = [] ∧ ∀ R, cellTame R c = true
theorem SlC.tame {sz : Nat} {c : LV} {xs : List D} (h : SlC sz c xs) : Tame c := by
 rcases h with ⟨rfl, rfl⟩ | ⟨v, rfl⟩ <;> exact ⟨rfl, fun _ => rfl⟩
theorem Tame.stamp {c : LV} (h : Tame c) (k : Nat) : Tame (stamp k c) := by
 obtain ⟨h1, h2⟩ := h
 cases c <;> first | exact ⟨h1, h2⟩ | exact ⟨rfl, fun _ => rfl⟩
def IsD (S : St) (id : Nat) (d : Dk) : Prop := id < S.next ∧ ∃ c0 c1 c3, S.obj id = .cells [c0, c1, .d (.int .i64 d.pos), c3, .d (.bool d.armed), .d (.bool d.down), .d (.int .i64 d.ops)] ∧
 SlC 1 c0 (rowD sb d.lasts) ∧ SlC 2 c1 (rowD wrD d.waits) ∧ (d.armed = true → d.down = false → SlC 1 c3 (boD d.keep)) ∧ Tame c3
def Mod (S S' : St) (id : Nat) : Prop := (∀ j, j < S.next → j ≠ id → S'.obj j = S.obj j) ∧ S.next ≤ S'.next ∧ S.clk ≤ S'.clk ∧ S'.esc = S.esc
theorem Mod.refl (S : St) (id : Nat) : Mod S S id := ⟨fun _ _ _ => rfl, Nat.le_refl _, Nat.le_refl _, rfl⟩
theorem Mod.trans {S S1 S2 : St} {id : Nat} (h : Mod S S1 id) (k : Mod S1 S2 id) : Mod S S2 id :=
 ⟨fun j h1 h2 => (k.1 j (Nat.lt_of_lt_of_le h1 h.2.1) h2).trans (h.1 j h1 h2), Nat.le_trans h.2.1 k.2.1, Nat.le_trans h.2.2.1 k.2.2.1, k.2.2.2.trans h.2.2.2⟩
theorem Kept.mod {S S' : St} (h : Kept S S') (id : Nat) : Mod S S' id := ⟨fun j h1 _ => h.1 j h1, h.2⟩
theorem Mod.of {S0 S S' : St} {id : Nat} (h : Mod S0 S id) (ho : ∀ j, j < S0.next → j ≠ id → S'.obj j = S.obj j) (hn : S.next ≤ S'.next) (hc : S.clk ≤ S'.clk) (he : S'.esc = S.esc) : Mod S0 S' id :=
 ⟨fun j h1 h2 => (ho j h1 h2).trans (h.1 j h1 h2), Nat.le_trans h.2.1 hn, Nat.le_trans h.2.2.1 hc, he.trans h.2.2.2⟩
theorem Mod.alloc {S0 S : St} {id : Nat} {o : Obj} (h : Mod S0 S id) : Mod S0 (S.alloc o) id :=
 h.of (fun j hj _ => by have := h.2.1; simp only [alloc_at]; rw [if_neg (by omega)]) (by simp) (by simp) rfl
theorem Mod.set {S0 S : St} {id i : Nat} {o : Obj} (h : Mod S0 S id) (hi : i = id ∨ S0.next ≤ i) : Mod S0 (S.set i o) id :=
 h.of (fun j hj hne => by simp only [set_obj]; rw [if_neg (by omega)]) (by simp) (by simp) rfl
theorem IsD.of {S S' : St} {id : Nat} {d : Dk} (h : IsD S id d) (ho : S'.obj id = S.obj id) (hn : id < S'.next) : IsD S' id d := by
 obtain ⟨_, c0, c1, c3, h1, h2⟩ := h;exact ⟨hn, c0, c1, c3, ho.trans h1, h2⟩
theorem IsD.kept {S S' : St} {id : Nat} {d : Dk} (h : IsD S id d) (k : Kept S S') : IsD S' id d := h.of (k.1 id h.1) (Nat.lt_of_lt_of_le h.1 k.2.1)
theorem IsD.mod {S S' : St} {id i : Nat} {d : Dk} (h : IsD S id d) (k : Mod S S' i) (hne : id ≠ i) : IsD S' id d := h.of (k.1 id h.1 hne) (Nat.lt_of_lt_of_le h.1 k.2.1)
def Dk.has (d : Dk) (i : Int) : Bool := decide (0 ≤ i) && decide (i < d.lasts.length)
def over (ws : List Wr) (i : Int) (b : List UInt8) : List UInt8 := ws.foldl (fun b w => if w.pos = i then w.data else b) b
def Dk.read (d : Dk) (i : Int) : List UInt8 := if d.has i then over d.waits i (nth d.lasts i.toNat) else []
def land (kept : Nat → Bool) (ws : List Wr) (l : List (List UInt8)) (n : Nat) : List (List UInt8) := (List.range n).foldl (fun l k => if kept k then l.set (nth ws k).pos.toNat (nth ws k).data else l) l
def Dk.last (d : Dk) (kept : Nat → Bool) : Dk := { d with lasts := land kept d.waits d.lasts d.waits.length, waits := [] }
def kept (keep : List Bool) (k : Nat) : Bool := decide (k < keep.length) && nth keep k
def Dk.falls (d : Dk) : Bool × Dk := if d.armed = false ∨ d.ops < d.pos then (false, { d with ops := d.ops + 1 }) else (true, { d.last (kept d.keep) with down := true })
def Dk.write (d : Dk) (i : Int) (b : List UInt8) : Int × Dk :=
 if d.down then (6, d) else if d.has i = false ∨ b.length ≠ 64 then (1, d) else if d.falls.1 then (6, d.falls.2) else (0, { d.falls.2 with waits := d.falls.2.waits ++ [⟨i, b⟩] })
def Dk.flush (d : Dk) : Int × Dk := if d.down then (6, d) else if d.falls.1 then (6, d.falls.2) else (0, d.falls.2.last fun _ => true)
def Dk.arm (d : Dk) (c : Cr) : Dk := { d with pos := c.pos, keep := c.keep, armed := true }
def Dk.restart (d : Dk) : Dk := { d with waits := [], armed := false, down := false, ops := 0 }
def Dk.new (n : Nat) : Dk := ⟨List.replicate n (zeros 64), [], 0, [], false, false, 0⟩
structure WfD (d : Dk) (n : Nat) : Prop where
 many : d.lasts.length ≤ 2000
 last : ∀ b ∈ d.lasts, b.length = 64
 wait : ∀ w ∈ d.waits, (0 ≤ w.pos ∧ w.pos < d.lasts.length) ∧ w.data.length = 64
 few : d.waits.length + n ≤ 1000000
 ops : 0 ≤ d.ops ∧ d.ops + n ≤ 1000000
theorem land_succ {k : Nat → Bool} {ws : List Wr} {l : List (List UInt8)} {n : Nat} : land k ws l (n + 1) = if k n then (land k ws l n).set (nth ws n).pos.toNat (nth ws n).data else land k ws l n := by simp [land, List.range_succ]
theorem land_length {k : Nat → Bool} {ws : List Wr} {l : List (List UInt8)} {n : Nat} : (land k ws l n).length = l.length := by
 induction n with
 | zero => rfl
 | succ n ih => rw [land_succ]; split <;> simp [ih]
theorem eqP_nil : eqNil .eql (isNilP (.d .nilP)) = .ok (.d (.bool true)) := rfl
theorem neP_nil : eqNil .neq (isNilP (.d .nilP)) = .ok (.d (.bool false)) := rfl
theorem eqP_ptr {a b : Nat} : eqNil .eql (isNilP (.ptr a b)) = .ok (.d (.bool false)) := rfl
theorem neP_ptr {a b : Nat} : eqNil .neq (isNilP (.ptr a b)) = .ok (.d (.bool true)) := rfl
theorem bin_ptr {P : Program} {op : BinOp} {t e : TypeId} {x y : LV} (h : P.underlying t = some (.pointer e)) : binT P op t (some true) x y = eqNil op (isNilP x) := by simp [binT, h]
theorem bin_slc {P : Program} {op : BinOp} {t e : TypeId} {x y : LV} (h : P.underlying t = some (.slice e)) : binT P op t (some false) x y = eqNil op (isNilS x) := by simp [binT, h]
theorem nil_ptr {a b : Nat} : nilCheckT (.ptr a b) = .ret (.ptr a b) := rfl
attribute [simp] eqP_nil neP_nil eqP_ptr neP_ptr bin_ptr bin_slc nil_ptr
theorem dev_Down {S : St} {id : Nat} {d : Dk} {Q : LV → St → Prop} (hI : IsD S id d) (h : Q (.d (.bool d.down)) S) : SQ cf 63 [.ptr id 0] S Q := by
 obtain ⟨hid, c0, c1, c3, h1, h2, h3, h4, h5⟩ := hI;refine S_intro Tryz.func63 rfl rfl (Nat.le_of_ble_eq_true rfl) ?_;simp [h1];exact h
theorem dev_Size {S : St} {id : Nat} {d : Dk} {Q : LV → St → Prop} (hI : IsD S id d) (_ : d.lasts.length ≤ 2000) (h : Q (.d (.int .i64 d.lasts.length)) S) : SQ cf 70 [.ptr id 0] S Q := by
 obtain ⟨hid, c0, c1, c3, h1, h2, h3, h4, h5⟩ := hI;refine S_intro Tryz.func70 rfl rfl (Nat.le_of_ble_eq_true rfl) ?_;rcases h2 with ⟨rfl, h2⟩ | ⟨v, rfl⟩
 ·have hz : d.lasts.length = 0 := by rw [← rowD_length (enc := sb), h2]; rfl
  simp [h1];simpa [hz] using h
 ·simp [h1];exact fun _ => h
theorem dev_is {S : St} {id : Nat} {d : Dk} {i : Int} {Q : LV → St → Prop} (hI : IsD S id d) (hm : d.lasts.length ≤ 2000) (h : Q (.d (.bool (d.has i))) S) : SQ cf 104 [.ptr id 0, .d (.int .i64 i)] S Q := by
 refine S_intro Tryz.func104 rfl rfl (Nat.le_of_ble_eq_true rfl) ?_;simp;refine f_intro (fun k1 => ?_) (fun k1 => ?_)
 ·simp [k1];refine dev_Size hI hm ?_;simp;simpa [Dk.has, k1] using h
 ·simp [k1];simpa [Dk.has, k1] using h
theorem dev_Restart {S : St} {id : Nat} {d : Dk} {Q : LV → St → Prop} (hI : IsD S id d) (h : ∀ S', IsD S' id d.restart → Mod S S' id → Q (.tup []) S') : SQ cf 23 [.ptr id 0] S Q := by
 obtain ⟨hid, c0, c1, c3, h1, h2, h3, h4, h5⟩ := hI;refine S_intro Tryz.func23 rfl rfl (Nat.le_of_ble_eq_true rfl) ?_;simp [h1];refine h _ ⟨hid, c0, _, c3, by simp [Dk.restart], h2, .inl ⟨rfl, rfl⟩, fun e => by simp [Dk.restart] at e, h5⟩ ?_
 exact (Mod.refl S id).set (.inl rfl)
theorem dev_Arm {S : St} {id : Nat} {d : Dk} {c : Cr} {Q : LV → St → Prop} (hI : IsD S id d) (hc : c.keep.length ≤ 1000000) {v : LV} (hv : v = .d (crD c) ∨ v = .agg [.d (.int .i64 c.pos), .lit (boD c.keep)] ∨ v = .agg [.d (.int .i64 c.pos), .d (.sl (boD c.keep))]) (h : ∀ S', IsD S' id (d.arm c) → Mod S S' id → Q (.tup []) S') : SQ cf 24 [.ptr id 0, v] S Q := by
 obtain ⟨hid, c0, c1, c3, h1, h2, h3, h4, h5⟩ := hI;refine S_intro Tryz.func24 rfl rfl (Nat.le_of_ble_eq_true rfl) ?_;rcases hv with rfl | rfl | rfl
 ·have q1 : ¬ id = S.next := by omega
  have q2 : ¬ S.next = id := by omega
  simp [crD, boD];refine X_draw (by decide) ?_
  have q3 : ∀ k, ¬ id = S.next + k := fun k => by omega
  have q4 : ∀ k m, ¬ id = S.next + k + m := fun k m => by omega
  have q5 : ∀ k m, ¬ S.next + k + m = id := fun k m => by omega
  have q6 : ¬ S.next = S.next + 1 + 700 := by omega
  have q7 : ¬ S.next + 1 + 700 = S.next := by omega
  simp [h1, q1, q2, q4, q5, q6];refine ⟨by omega, ⟨by decide, by decide⟩, h _ ⟨by simp; omega, c0, c1, .own (S.clk + 1100) 1 (rowD bo c.keep) false, by simp [Dk.arm], h2, h3, fun _ _ => .inr ⟨_, rfl⟩, ⟨rfl, fun _ => rfl⟩⟩ ?_⟩
  exact (Mod.refl S id).of (fun j hj hne => by simp [hne, show ¬ j = S.next from by omega, show ¬ j = S.next + 1 + 700 from by omega]) (by simp; omega) (by simp) rfl
 ·have q1 : ¬ id = S.next := by omega
  have q2 : ¬ S.next = id := by omega
  simp [boD];refine X_draw (by decide) ?_
  have q3 : ∀ k, ¬ id = S.next + k := fun k => by omega
  have q4 : ∀ k m, ¬ id = S.next + k + m := fun k m => by omega
  have q5 : ∀ k m, ¬ S.next + k + m = id := fun k m => by omega
  have q6 : ¬ S.next = S.next + 1 + 700 := by omega
  have q7 : ¬ S.next + 1 + 700 = S.next := by omega
  simp [h1, q1, q2, q4, q5, q6];refine ⟨by omega, ⟨by decide, by decide⟩, h _ ⟨by simp; omega, c0, c1, .own (S.clk + 1100) 1 (rowD bo c.keep) false, by simp [Dk.arm], h2, h3, fun _ _ => .inr ⟨_, rfl⟩, ⟨rfl, fun _ => rfl⟩⟩ ?_⟩
  exact (Mod.refl S id).of (fun j hj hne => by simp [hne, show ¬ j = S.next from by omega, show ¬ j = S.next + 1 + 700 from by omega]) (by simp; omega) (by simp) rfl
 ·have q1 : ¬ id = S.next := by omega
  have q2 : ¬ S.next = id := by omega
  simp [boD];refine X_draw (by decide) ?_
  have q3 : ∀ k, ¬ id = S.next + k := fun k => by omega
  have q4 : ∀ k m, ¬ id = S.next + k + m := fun k m => by omega
  have q5 : ∀ k m, ¬ S.next + k + m = id := fun k m => by omega
  have q6 : ¬ S.next = S.next + 1 + 700 := by omega
  have q7 : ¬ S.next + 1 + 700 = S.next := by omega
  simp [h1, q1, q2, q4, q5, q6];refine ⟨by omega, ⟨by decide, by decide⟩, h _ ⟨by simp; omega, c0, c1, .own (S.clk + 1100) 1 (rowD bo c.keep) false, by simp [Dk.arm], h2, h3, fun _ _ => .inr ⟨_, rfl⟩, ⟨rfl, fun _ => rfl⟩⟩ ?_⟩
  exact (Mod.refl S id).of (fun j hj hne => by simp [hne, show ¬ j = S.next from by omega, show ¬ j = S.next + 1 + 700 from by omega]) (by simp; omega) (by simp) rfl
theorem dev_flush1 {k : Int} {S : St} {Q : LV → St → Prop} (h : Q (.d (.bool true)) S) : SQ cf 145 [.d (.int .i64 k)] S Q := by
 refine S_intro Tryz.func145 rfl rfl (Nat.le_of_ble_eq_true rfl) ?_;simp;exact h
theorem dev_falls1 {k kid : Nat} {S : St} {c : LV} {l : List Bool} {Q : LV → St → Prop} (hc : S.obj kid = .cells [c]) (hs : SlC 1 c (boD l)) (hl : l.length ≤ 1000000) (h : Q (.d (.bool (kept l k))) S) : SQ cf 152 [.d (.int .i64 k), .ptr kid 0] S Q := by
 refine S_intro Tryz.func152 rfl rfl (Nat.le_of_ble_eq_true rfl) ?_;rcases hs with ⟨rfl, hs⟩ | ⟨v, rfl⟩
 ·have hz : l = [] := by
   cases l with
   | nil => rfl
   | cons b l => simp [boD, rowD] at hs
  subst hz;have hk0 : ¬ (k : Int) < 0 := by omega
  simp [hc, hk0];simpa [kept] using h
 ·unfold boD at hc;simp [hc];intro _;refine f_intro (fun k1 => ?_) (fun k1 => ?_)
  ·simp [hc, k1];simpa [kept, k1, bo] using h
  ·simp [k1];simpa [kept, k1] using h
theorem dev_last {S : St} {id g : Nat} {caps : List LV} {d : Dk} {kp : Nat → Bool} {c0 c1 c3 : LV} {Q : LV → St → Prop} (hid : id < S.next) (h1 : S.obj id = .cells [c0, c1, .d (.int .i64 d.pos), c3, .d (.bool d.armed), .d (.bool d.down), .d (.int .i64 d.ops)]) (h2 : SlC 1 c0 (rowD sb d.lasts)) (h3 : SlC 2 c1 (rowD wrD d.waits)) (hw : ∀ w ∈ d.waits, 0 ≤ w.pos ∧ w.pos < d.lasts.length) (hf : d.waits.length ≤ 1000000)
  (hk : ∀ (k : Nat) (S1 : St) (Q1 : LV → St → Prop), k < d.waits.length → Mod S S1 id → Q1 (.d (.bool (kp k))) S1 → PC cf g (.d (.int .i64 k) :: caps) S1 Q1)
  (h : ∀ S' c0', id < S'.next → S'.obj id = .cells [c0', .lit [], .d (.int .i64 d.pos), c3, .d (.bool d.armed), .d (.bool d.down), .d (.int .i64 d.ops)] → SlC 1 c0' (rowD sb (d.last kp).lasts) → Mod S S' id → Q (.tup []) S') : SQ cf 144 [.ptr id 0, .fn g caps] S Q := by
 refine S_intro Tryz.func144 rfl rfl (Nat.le_of_ble_eq_true rfl) ?_;rcases h3 with ⟨rfl, h3⟩ | ⟨v, rfl⟩
 ·have hz : d.waits = [] := by
   cases hd : d.waits with
   | nil => rfl
   | cons b l => rw [hd] at h3; cases h3
  simp [h1];refine X_loop (fun (i : Nat) e S' => S' = S ∧ e 0 = .ptr id 0 ∧ e 10 = .d (.int .i64 0) ∧ e 11 = .d (.int .i64 0)) (fun i => i) 0 ?_ ?_
  ·simp
  ·intro i e S' hJ;obtain ⟨rfl, g1, g2, g3⟩ := hJ;simp [g1, g2, g3, h1];refine h _ c0 hid (by simp) ?_ ((Mod.refl _ id).set (.inl rfl))
   simpa [Dk.last, hz, land] using h2
 ·by_cases hz : d.waits.length = 0
  ·have hz2 : d.waits = [] := by
    cases hd : d.waits with
    | nil => rfl
    | cons b l => rw [hd] at hz; cases hz
   simp [h1, hz2];refine X_loop (fun (i : Nat) e S' => S' = S ∧ e 0 = .ptr id 0 ∧ e 10 = .d (.int .i64 0) ∧ e 11 = .d (.int .i64 0)) (fun i => i) 0 ?_ ?_
   ·simp
   ·intro i e S' hJ;obtain ⟨rfl, g1, g2, g3⟩ := hJ;simp [g1, g2, g3, h1];refine h _ c0 hid (by simp) ?_ ((Mod.refl _ id).set (.inl rfl))
    simpa [Dk.last, hz2, land] using h2
  ·obtain ⟨v0, rfl⟩ : ∃ v0, c0 = .own v0 1 (rowD sb d.lasts) false := by
    rcases h2 with ⟨_, h2⟩ | h2
    ·have q : d.lasts.length = 0 := by rw [← rowD_length (enc := sb), h2]; rfl
     have := hw _ (nth_mem (i := 0) (l := d.waits) (by omega))
     omega
    ·exact h2
   simp [h1];intro _;refine X_loop (fun (k : Nat) e S' => k ≤ d.waits.length ∧ e 0 = .ptr id 0 ∧ e 1 = .fn g caps ∧ e 9 = .ar (.cell id 1 v) 2 0 d.waits.length ∧ e 10 = .d (.int .i64 d.waits.length) ∧ e 11 = .d (.int .i64 k) ∧ Mod S S' id ∧
    S'.obj id = .cells [.own v0 1 (rowD sb (land kp d.waits d.lasts k)) false, .own v 2 (rowD wrD d.waits) false, .d (.int .i64 d.pos), c3, .d (.bool d.armed), .d (.bool d.down), .d (.int .i64 d.ops)]) (fun k => d.waits.length - k) 0 ?_ ?_
   ·simp [h1, land, Mod.refl]
   ·intro k e S' hJ;obtain ⟨g1, g2, g3, g4, g5, g6, gM, g7⟩ := hJ;have q1 : ¬ id = S'.next := by have := gM.2.1; omega
    have q2 : ¬ S'.next = id := by omega
    simp [g5, g6];refine f_intro (fun j1 => ?_) (fun j1 => ?_)
    ·simp [g3, g4, g6, g7, j1];refine hk k _ _ j1 gM.alloc ?_;obtain ⟨w1, w2⟩ := hw _ (nth_mem j1)
     cases hkp : kp k with
     | true =>
      simp;refine X_draw (by decide) ?_
      simp [g2, g3, g4, g5, g6, g7, q1, q2, land_length];refine ⟨⟨w1, by omega⟩, by omega, by decide, ?_⟩
      refine ⟨k + 1, ⟨by omega, wrap_i64 (by omega) (by omega), ?_, ?_⟩, by omega⟩
      ·exact gM.of (fun j hj hne => by simp [hne, show ¬ j = S'.next from by have := gM.2.1; omega]) (by simp; omega) (by simp) rfl
      ·rw [land_succ, hkp]; rfl
     | false =>
      simp [g2, g3, g4, g5, g6, g7, q1];refine ⟨k + 1, ⟨by omega, wrap_i64 (by omega) (by omega), gM.alloc, ?_⟩, by omega⟩
      rw [land_succ, hkp]; rfl
    ·have hkn : k = d.waits.length := by omega
     subst hkn;simp [g2, g7];exact h _ _ (by have := gM.2.1; simp; omega) (by simp; rfl) (.inr ⟨v0, rfl⟩) (gM.set (.inl rfl))
theorem dev_falls {S : St} {id : Nat} {d : Dk} {Q : LV → St → Prop} (hI : IsD S id d) (hd : d.down = false) (hw : ∀ w ∈ d.waits, 0 ≤ w.pos ∧ w.pos < d.lasts.length) (hf : d.waits.length ≤ 1000000) (ho : 0 ≤ d.ops ∧ d.ops ≤ 1000000) (hkl : d.keep.length ≤ 1000000)
  (h : ∀ S', IsD S' id d.falls.2 → Mod S S' id → Q (.d (.bool d.falls.1)) S') : SQ cf 143 [.ptr id 0] S Q := by
 have hI0 := hI;obtain ⟨hid, c0, c1, c3, h1, h2, h3, h4, h5⟩ := hI;refine S_intro Tryz.func143 rfl rfl (Nat.le_of_ble_eq_true rfl) ?_;simp;refine X_draw (by decide) ?_
 have wo : IntKind.i64.wrap (d.ops + 1) = d.ops + 1 := wrap_i64 (by omega) (by omega)
 have fin : (d.armed = false ∨ d.ops < d.pos) → Q (.d (.bool false)) (St.set ⟨S.obj, S.next + 1700, S.clk + 1700, S.esc⟩ id (.cells [c0, c1, .d (.int .i64 d.pos), c3, .d (.bool d.armed), .d (.bool d.down), .d (.int .i64 (d.ops + 1))])) := by
  intro hc;have e : d.falls = (false, { d with ops := d.ops + 1 }) := by
   unfold Dk.falls;rw [if_pos hc]
  rw [e] at h;refine h _ ⟨by simp; omega, c0, c1, c3, by simp, h2, h3, fun e1 e2 => h4 e1 e2, h5⟩ ?_
  exact (Mod.refl S id).of (fun j hj hne => by simp [hne]) (by simp) (by simp) rfl
 cases ha : d.armed with
 | false =>
  simp [h1, ha, wo];rw [ha] at fin;exact fin (.inl rfl)
 | true =>
  obtain h4' := h4 ha hd;simp [h1, ha];by_cases hlt : d.ops < d.pos
  ·simp [hlt, h1, wo];exact fin (.inr hlt)
  ·have e : d.falls = (true, { d.last (kept d.keep) with down := true }) := by
    unfold Dk.falls;rw [if_neg (by simp [ha]; omega)]
   rw [e] at h;have q1 : ¬ id = S.next + 1700 := by omega
   have q2 : ¬ S.next + 1700 = id := by omega
   rcases h4' with ⟨rfl, hk⟩ | ⟨v, rfl⟩
   ·simp [hlt, h1];refine dev_last (d := d) (kp := kept d.keep) (c0 := c0) (c1 := c1) (c3 := .lit []) (by simp; omega) (by simp [q1, h1]) h2 h3 hw hf (fun k S1 Q1 hk1 hM hq => ?_) fun S' c0' i1 i2 i3 i4 => ?_
    ·rw [P1s (by decide)]
     refine dev_falls1 (c := .lit []) (l := d.keep) ?_ (.inl ⟨rfl, hk⟩) hkl hq;rw [hM.1 _ (by simp) (by omega)]
     simp
    ·simp [i2];refine h _ ⟨by simpa using i1, c0', .lit [], .lit [], by simp [Dk.last], i3, .inl ⟨rfl, rfl⟩, fun _ e2 => by simp at e2, ⟨rfl, fun _ => rfl⟩⟩ ?_
     refine Mod.set ?_ (.inl rfl);refine Mod.trans ?_ i4;exact (Mod.refl S id).of (fun j hj hne => by simp [show ¬ j = S.next + 1700 from by omega]) (by simp; omega) (by simp <;> omega) rfl
   ·simp [hlt, h1, q1, q2];refine dev_last (d := d) (kp := kept d.keep) (c0 := c0) (c1 := c1) (c3 := .un) (by simp; omega) (by simp [q1]) h2 h3 hw hf (fun k S1 Q1 hk1 hM hq => ?_) fun S' c0' i1 i2 i3 i4 => ?_
    ·rw [P1s (by decide)]
     refine dev_falls1 (c := .own (S.clk + 1700) 1 (boD d.keep) false) (l := d.keep) ?_ (.inr ⟨_, rfl⟩) hkl hq;rw [hM.1 _ (by simp) (by omega)]
     simp
    ·simp [i2];refine h _ ⟨by simpa using i1, c0', .lit [], .un, by simp [Dk.last], i3, .inl ⟨rfl, rfl⟩, fun _ e2 => by simp at e2, ⟨rfl, fun _ => rfl⟩⟩ ?_
     refine Mod.set ?_ (.inl rfl);refine Mod.trans ?_ i4;exact (Mod.refl S id).of (fun j hj hne => by simp [hne, show ¬ j = S.next + 1700 from by omega]) (by simp; omega) (by simp <;> omega) rfl
theorem nil_by {c : UInt8} {b : List UInt8} : isNilS (.d (.sl (byD (c :: b)))) = some false := rfl
theorem bytes_Clone {b : List UInt8} {Q : LV → Prop} (h0 : 0 < b.length) (hb : b.length ≤ 1000000) (h : Q (.d (.sl (byD b)))) : VQ cf 105 [.sl (byD b)] Q := by
 refine V_intro rfl (S_intro Tryz.func105 rfl rfl (Nat.le_of_ble_eq_true rfl) ?_)
 cases b with
 | nil => cases h0
 | cons c b =>
  have hl : b.length ≤ 70368744177663 := by simp at hb; omega
  simp [nil_by, eqNil, hl];exact h
theorem Dk.falls_wf {d : Dk} {n : Nat} (h : WfD d (n + 1)) : WfD d.falls.2 n := by
 obtain ⟨h1, h2, h3, h4, h5⟩ := h;unfold Dk.falls;split
 ·exact ⟨h1, h2, h3, by simp only; omega, by simp only; omega⟩
 ·have hlen : (d.last (kept d.keep)).lasts.length = d.lasts.length := land_length;refine ⟨by simp only [hlen]; exact h1, ?_, fun w hw => by simp [Dk.last] at hw, by simp [Dk.last]; omega, ⟨h5.1, by show d.ops + n ≤ 1000000; omega⟩⟩
  have : ∀ m, m ≤ d.waits.length → ∀ b ∈ land (kept d.keep) d.waits d.lasts m, b.length = 64 := by
   intro m
   induction m with
   | zero => intro _; exact h2
   | succ m ih =>
    intro hm b hb;rw [land_succ] at hb;split at hb
    ·rcases List.mem_or_eq_of_mem_set hb with hb | hb
     ·exact ih (by omega) b hb
     ·rw [hb]; exact (h3 _ (nth_mem (by omega))).2
    ·exact ih (by omega) b hb
  exact this _ (Nat.le_refl _)
theorem Dk.falls_len {d : Dk} : d.falls.2.lasts.length = d.lasts.length := by
 unfold Dk.falls;split
 ·rfl
 ·exact land_length
theorem dev_Write {S : St} {id n : Nat} {d : Dk} {i : Int} {b : List UInt8} {Q : LV → St → Prop} (hI : IsD S id d) (hw : WfD d (n + 1)) (hkl : d.keep.length ≤ 1000000)
  (h : ∀ S', IsD S' id (d.write i b).2 → Mod S S' id → Q (.d (.int .i64 (d.write i b).1)) S') : SQ cf 123 [.ptr id 0, .d (.int .i64 i), .d (.sl (byD b))] S Q := by
 refine S_intro Tryz.func123 rfl rfl (Nat.le_of_ble_eq_true rfl) ?_;simp;refine dev_Down hI ?_
 cases hd : d.down with
 | true =>
  have e : d.write i b = (6, d) := by simp [Dk.write, hd]
  rw [e] at h;simp;exact h _ hI (Mod.refl _ _)
 | false =>
  simp;refine dev_is hI hw.many ?_
  cases hi : d.has i with
  | false =>
   have e : d.write i b = (1, d) := by simp [Dk.write, hd, hi]
   rw [e] at h;simp;exact h _ hI (Mod.refl _ _)
  | true =>
   simp;intro _;refine f_intro (fun k1 => ?_) (fun k1 => ?_)
   ·have hb : b.length = 64 := by omega
    simp [k1];refine dev_falls hI hd (fun w hw2 => (hw.wait w hw2).1) (by have := hw.few; omega) (by have := hw.ops; omega) hkl fun S1 hI1 hM1 => ?_
    cases hfl : d.falls.1 with
    | true =>
     have e : d.write i b = (6, d.falls.2) := by simp [Dk.write, hd, hi, hb, hfl]
     rw [e] at h;simp;exact h _ hI1 hM1
    | false =>
     have e : d.write i b = (0, { d.falls.2 with waits := d.falls.2.waits ++ [⟨i, b⟩] }) := by simp [Dk.write, hd, hi, hb, hfl]
     rw [e] at h;have hwf := Dk.falls_wf hw;obtain ⟨hid, c0, c1, c3, h1, h2, h3, h4, h5⟩ := hI1;have q1 : ¬ id = S1.next + 1000 := by omega
     have q2 : ¬ S1.next + 1000 = id := by omega
     simp;refine X_draw (by decide) ?_
     rcases h3 with ⟨rfl, h3⟩ | ⟨v, rfl⟩
     ·have hz : d.falls.2.waits = [] := by
       cases hz : d.falls.2.waits with
       | nil => rfl
       | cons w l => rw [hz] at h3; cases h3
      simp [h1];refine bytes_Clone (by omega) (by omega) ?_
      simp [h1, q1, q2];refine ⟨by decide, h _ ⟨by simp; omega, c0, .own (S1.clk + 1300) 2 (rowD wrD [⟨i, b⟩]) false, c3, by simp [rowD_one, wrD], h2, .inr ⟨_, by rw [hz]; rfl⟩, h4, h5⟩ ?_⟩
      exact hM1.of (fun j hj hne => by simp [hne, show ¬ j = S1.next + 1000 from by have := hM1.2.1; omega]) (by simp) (by simp) rfl
     ·simp [h1];refine bytes_Clone (by omega) (by omega) ?_
      simp [h1, q1, q2];refine ⟨by have := hwf.few; omega, by decide, h _ ⟨by simp; omega, c0, .own (S1.clk + 1300) 2 (rowD wrD (d.falls.2.waits ++ [⟨i, b⟩])) false, c3, by simp [rowD_snoc, wrD], h2, .inr ⟨_, rfl⟩, h4, h5⟩ ?_⟩
      exact hM1.of (fun j hj hne => by simp [hne, show ¬ j = S1.next + 1000 from by have := hM1.2.1; omega]) (by simp) (by simp) rfl
   ·have hb : ¬ b.length = 64 := by omega
    have e : d.write i b = (1, d) := by simp [Dk.write, hd, hi, hb]
    rw [e] at h;simp [k1];exact h _ hI (Mod.refl _ _)
theorem dev_Flush {S : St} {id n : Nat} {d : Dk} {Q : LV → St → Prop} (hI : IsD S id d) (hw : WfD d (n + 1)) (hkl : d.keep.length ≤ 1000000)
  (h : ∀ S', IsD S' id d.flush.2 → Mod S S' id → Q (.d (.int .i64 d.flush.1)) S') : SQ cf 124 [.ptr id 0] S Q := by
 refine S_intro Tryz.func124 rfl rfl (Nat.le_of_ble_eq_true rfl) ?_;simp;refine dev_Down hI ?_
 cases hd : d.down with
 | true =>
  have e : d.flush = (6, d) := by simp [Dk.flush, hd]
  rw [e] at h;simp;exact h _ hI (Mod.refl _ _)
 | false =>
  simp;refine dev_falls hI hd (fun w hw2 => (hw.wait w hw2).1) (by have := hw.few; omega) (by have := hw.ops; omega) hkl fun S1 hI1 hM1 => ?_
  cases hfl : d.falls.1 with
  | true =>
   have e : d.flush = (6, d.falls.2) := by simp [Dk.flush, hd, hfl]
   rw [e] at h;simp;exact h _ hI1 hM1
  | false =>
   have e : d.flush = (0, d.falls.2.last fun _ => true) := by simp [Dk.flush, hd, hfl]
   rw [e] at h;have hwf := Dk.falls_wf hw;obtain ⟨hid, c0, c1, c3, h1, h2, h3, h4, h5⟩ := hI1;simp;refine dev_last (d := d.falls.2) (kp := fun _ => true) hid h1 h2 h3 (fun w hw2 => (hwf.wait w hw2).1) (by have := hwf.few; omega) (fun k S1 Q1 hk1 hM hq => ?_) fun S' c0' i1 i2 i3 i4 => ?_
   ·rw [P1s (by decide)]
    exact dev_flush1 hq
   ·simp;exact h _ ⟨i1, c0', .lit [], c3, i2, i3, .inl ⟨rfl, rfl⟩, h4, h5⟩ (hM1.trans i4)
theorem dev_Read {S : St} {id n : Nat} {d : Dk} {i : Int} {Q : LV → St → Prop} (hI : IsD S id d) (hw : WfD d n)
  (h : ∀ v S', Kept S S' → (v = .d (.sl (byD (d.read i))) ∨ v = .lit [] ∧ d.read i = []) → Q v S') : SQ cf 65 [.ptr id 0, .d (.int .i64 i)] S Q := by
 refine S_intro Tryz.func65 rfl rfl (Nat.le_of_ble_eq_true rfl) ?_;simp;refine dev_is hI hw.many ?_
 cases hi : d.has i with
 | false =>
  simp;exact h _ _ (Kept.refl S) (.inr ⟨rfl, by simp [Dk.read, hi]⟩)
 | true =>
  have hi2 : 0 ≤ i ∧ i < d.lasts.length := by simpa [Dk.has] using hi
  have hir : i.toNat < d.lasts.length := by omega
  obtain ⟨hid, c0, c1, c3, h1, h2, h3, h4, h5⟩ := hI;obtain ⟨v0, rfl⟩ : ∃ v0, c0 = .own v0 1 (rowD sb d.lasts) false := by
   rcases h2 with ⟨_, h2⟩ | h2
   ·have q : d.lasts.length = 0 := by rw [← rowD_length (enc := sb), h2]; rfl
    omega
   ·exact h2
  have hov : ∀ k, (over (d.waits.take k) i (nth d.lasts i.toNat)).length = 64 := by
   intro k;have : ∀ (ws : List Wr) (b : List UInt8), b.length = 64 → (∀ w ∈ ws, w.data.length = 64) → (over ws i b).length = 64 := by
    intro ws
    induction ws with
    | nil => intro b hb _; exact hb
    | cons w ws ih =>
     intro b hb hws;refine ih _ ?_ fun w' hw' => hws w' (by simp [hw'])
     show (if w.pos = i then w.data else b).length = 64;split
     ·exact hws w (by simp)
     ·exact hb
   exact this _ _ (hw.last _ (nth_mem hir)) fun w hw2 => (hw.wait w (List.mem_of_mem_take hw2)).2
  have fin : ∀ S', Kept S S' → Q (.d (.sl (byD (over d.waits i (nth d.lasts i.toNat))))) S' := fun S' hK => h _ S' hK (.inl (by simp [Dk.read, hi]))
  have hfull : (over d.waits i (nth d.lasts i.toNat)).length = 64 := by have := hov d.waits.length; rwa [List.take_length] at this
  simp [h1];refine ⟨hi2, hir, ?_⟩;rcases h3 with ⟨rfl, h3⟩ | ⟨v, rfl⟩
  ·have hz : d.waits = [] := by
    cases hd : d.waits with
    | nil => rfl
    | cons b l => rw [hd] at h3; cases h3
   rw [hz] at fin hfull;simp;refine X_loop (fun (k : Nat) e S' => S' = S ∧ e 5 = .d (.sl (byD (nth d.lasts i.toNat))) ∧ e 23 = .d (.int .i64 0) ∧ e 24 = .d (.int .i64 0)) (fun k => k) 0 ?_ ?_
   ·simp
   ·intro k e S' hJ;obtain ⟨rfl, g1, g2, g3⟩ := hJ;simp [g1, g2, g3];have hfull' : (nth d.lasts i.toNat).length = 64 := hfull;refine bytes_Clone (by omega) (by omega) ?_
    simp;exact fin _ (Kept.refl _)
  ·simp;intro _;refine X_loop (fun (k : Nat) e S' => k ≤ d.waits.length ∧ e 1 = .d (.int .i64 i) ∧ e 5 = .d (.sl (byD (over (d.waits.take k) i (nth d.lasts i.toNat)))) ∧ e 22 = .ar (.cell id 1 v) 2 0 d.waits.length ∧ e 23 = .d (.int .i64 d.waits.length) ∧ e 24 = .d (.int .i64 k) ∧ Kept S S' ∧
    S'.obj id = .cells [.own v0 1 (rowD sb d.lasts) false, .own v 2 (rowD wrD d.waits) false, .d (.int .i64 d.pos), c3, .d (.bool d.armed), .d (.bool d.down), .d (.int .i64 d.ops)]) (fun k => d.waits.length - k) 0 ?_ ?_
   ·simp [h1, over, Kept.refl]
   ·intro k e S' hJ;obtain ⟨g1, g2, g3, g4, g5, g6, gK, g7⟩ := hJ;have q1 : ¬ id = S'.next := by have := gK.2.1; omega
    simp [g5, g6];refine f_intro (fun j1 => ?_) (fun j1 => ?_)
    ·have hsn : over (d.waits.take (k + 1)) i (nth d.lasts i.toNat) = if (nth d.waits k).pos = i then (nth d.waits k).data else over (d.waits.take k) i (nth d.lasts i.toNat) := by
      rw [List.take_add_one, nth_get j1];simp [over]
     have hf := hw.few;simp [g2, g4, g6, g7, j1];refine f_intro (fun j2 => ?_) (fun j2 => ?_)
     ·simp [j2, g2, g4, g5, g6, g7, q1];refine ⟨k + 1, ⟨by omega, ?_, wrap_i64 (by omega) (by omega), gK.alloc⟩, by omega⟩
      rw [hsn, if_pos j2]
     ·simp [j2, g2, g3, g4, g5, g6, g7, q1];refine ⟨k + 1, ⟨by omega, ?_, wrap_i64 (by omega) (by omega), gK.alloc⟩, by omega⟩
      rw [hsn, if_neg j2]
    ·have hk : k = d.waits.length := by omega
     subst hk;rw [List.take_length] at g3;simp [g3];refine bytes_Clone (by omega) (by omega) ?_
     simp;exact fin _ gK
theorem dev_New {S : St} {n : Int} {Q : LV → St → Prop} (h1 : 1 ≤ n → n ≤ 2000 → ∀ S' id, S.next ≤ id → IsD S' id (Dk.new n.toNat) → Kept S S' → Q (.ptr id 0) S') (h0 : ¬ (1 ≤ n ∧ n ≤ 2000) → Q (.d .nilP) S) : SQ cf 29 [.d (.int .i64 n)] S Q := by
 refine S_intro Tryz.func29 rfl rfl (Nat.le_of_ble_eq_true rfl) ?_;simp;refine f_intro (fun k1 => ?_) (fun k1 => ?_)
 ·simp [k1];exact h0 (by omega)
 ·simp [k1];refine f_intro (fun k2 => ?_) (fun k2 => ?_)
  ·simp [k2];exact h0 (by omega)
  ·simp [k2];refine X_loop (fun (k : Nat) e S' => k ≤ n.toNat ∧ e 3 = .ptr S.next 0 ∧ e 12 = .d (.int .i64 n) ∧ e 13 = .d (.int .i64 k) ∧ Kept S S' ∧ S.next < S'.next ∧
    ∃ c, S'.obj S.next = .cells [c, .lit [], .d (.int .i64 0), .lit [], .d (.bool false), .d (.bool false), .d (.int .i64 0)] ∧ SlC 1 c (rowD sb (List.replicate k (zeros 64)))) (fun k => n.toNat - k) 0 ?_ ?_
   ·simp;exact ⟨(Kept.refl S).alloc, .inl ⟨rfl, rfl⟩⟩
   ·intro k e S' hJ;obtain ⟨g1, g2, g3, g4, gK, gN, c, g5, g6⟩ := hJ;simp [g3, g4];refine f_intro (fun j1 => ?_) (fun j1 => ?_)
    ·simp;refine X_draw (by decide) ?_
     have q : ∀ m, ¬ S.next = S'.next + m := fun m => by omega
     have q2 : ∀ m, ¬ S'.next + m = S.next := fun m => by omega
     rcases g6 with ⟨rfl, g6⟩ | ⟨v, rfl⟩
     ·have hk0 : k = 0 := by
       cases k with
       | zero => rfl
       | succ k => cases g6
      subst hk0;simp [g2, g3, g4, g5, q, q2];refine ⟨by decide, 1, ⟨by omega, rfl, ?_, ?_⟩, by omega⟩
      ·exact gK.of (fun j hj => by simp [show ¬ j = S.next from by omega, show ∀ m, ¬ j = S'.next + m from fun m => by omega]) (by simp) (by simp <;> omega) rfl
      ·exact ⟨by omega, .inr ⟨_, rfl⟩⟩
     ·simp [g2, g3, g4, g5, q, q2];refine ⟨by omega, by decide, k + 1, ⟨by omega, wrap_i64 (by omega) (by omega), ?_, ?_⟩, by omega⟩
      ·exact gK.of (fun j hj => by simp [show ¬ j = S.next from by omega, show ∀ m, ¬ j = S'.next + m from fun m => by omega]) (by simp) (by simp <;> omega) rfl
      ·rw [List.replicate_succ', rowD_snoc];exact ⟨by omega, .inr ⟨_, rfl⟩⟩
    ·have hk : n.toNat = k := by omega
     simp [g2];refine h1 (by omega) (by omega) S' S.next (by omega) ⟨gN, c, .lit [], .lit [], by simpa [Dk.new] using g5, by rw [hk]; exact g6, .inl ⟨rfl, rfl⟩, fun _ _ => .inl ⟨rfl, rfl⟩, ⟨rfl, fun _ => rfl⟩⟩ gK
end Go.VM
