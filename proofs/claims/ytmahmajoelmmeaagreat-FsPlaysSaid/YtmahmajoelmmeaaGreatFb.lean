/- Chapter 5: the program's files: going over them. No condition. -/
import Derived.Test.YtmahmajoelmmeaaGreatNl
import Derived.Test.YtmahmajoelmmeaaGreatJg
namespace Go.VM
open Go.Proofs
set_option maxRecDepth 4000
attribute [-simp] Int.not_lt Int.not_le Nat.not_lt Nat.not_le
structure Fl where
 slot : Int
 name : List UInt8
 size : Int
 places : List Int
 data : List UInt8
 put : Bool
 deriving Inhabited, DecidableEq
def Fl.nd (x : Fl) : Nd := ⟨x.name, x.size, x.places⟩
def flD (x : Fl) : D := .agg [.int .i64 x.slot, .str x.name, .int .i64 x.size, .sl (inD x.places), .sl (byD x.data)]
theorem flD_cells (x : Fl) : (flD x).cells = [.int .i64 x.slot, .str x.name, .int .i64 x.size, .sl (inD x.places), .sl (byD x.data)] := rfl
def flL (x : Fl) : List LV := [.d (.int .i64 x.slot), .d (.str x.name), .d (.int .i64 x.size), .d (.sl (inD x.places)), .d (.sl (byD x.data))]
attribute [simp] flD_cells
structure IsF (S : St) (fid id : Nat) (fl : List Fl) : Prop where
 lt : fid < S.next ∧ id ≠ fid
 cell : ∃ c, S.obj fid = .cells [.ptr id 0, c] ∧ SlC 5 c (rowD flD fl)
theorem IsF.of {S S' : St} {fid id : Nat} {fl : List Fl} (h : IsF S fid id fl) (ho : S'.obj fid = S.obj fid) (hn : fid < S'.next) : IsF S' fid id fl := by
 obtain ⟨⟨_, h1⟩, c, h2, h3⟩ := h;exact ⟨⟨hn, h1⟩, c, ho.trans h2, h3⟩
theorem fs_all {S : St} {fid : Nat} {Q : LV → St → Prop} (h : Q (.fn 86 [.ptr S.next 0]) (S.alloc (.cells [.ptr fid 0]))) (hid : fid ≤ S.next) : SQ cf 46 [.ptr fid 0] S Q := by
 refine S_intro Tryz.func46 rfl rfl (Nat.le_of_ble_eq_true rfl) ?_;simp [hid];exact h
theorem fs_all1 {S : St} {fid y bx : Nat} {c0 c : LV} {fl : List Fl} {J : Nat → St → Prop} {Q : LV → St → Prop} (hb : S.obj bx = .cells [.ptr fid 0]) (hc : S.obj fid = .cells [c0, c]) (hs : SlC 5 c (rowD flD fl)) (hl : fl.length ≤ 1000000) (h0 : J 0 S)
  (hK : ∀ (k : Nat) S1, J k S1 → S1.obj fid = .cells [c0, c] ∧ fid < S1.next)
  (hJ : ∀ (k : Nat) S1, k < fl.length → J k S1 → SQ cf YID [.yl y, .agg (flL (nth fl k))] (S1.alloc (.cells (flL (nth fl k)))) fun v S2 => (v = .d (.bool true) ∧ J (k + 1) S2) ∨ (v = .d (.bool false) ∧ Q (.tup []) S2))
  (h : ∀ S', J fl.length S' → Q (.tup []) S') : SQ cf 86 [.yl y, .ptr bx 0] S Q := by
 refine S_intro Tryz.func86 rfl rfl (Nat.le_of_ble_eq_true rfl) ?_;rcases hs with ⟨rfl, hs⟩ | ⟨v, rfl⟩
 ·have hz : fl.length = 0 := by rw [← rowD_length (enc := flD), hs]; rfl
  simp [hb, hc];refine X_loop (fun (_ : Nat) e S' => e 11 = .d (.int .i64 0) ∧ e 12 = .d (.int .i64 0) ∧ S' = S) (fun _ => 0) 0 ⟨by simp, by simp, rfl⟩ ?_
  intro k e S' hk;obtain ⟨g1, g2, rfl⟩ := hk;simp [g1, g2];rw [hz] at h;exact h _ h0
 ·simp [hb, hc];intro _;refine X_loop (fun (k : Nat) e S' => k ≤ fl.length ∧ e 0 = .yl y ∧ e 10 = .ar (.cell fid 1 v) 5 0 fl.length ∧ e 11 = .d (.int .i64 fl.length) ∧ e 12 = .d (.int .i64 k) ∧ J k S') (fun k => fl.length - k) 0 ?_ ?_
  ·simp;exact h0
  ·intro k e S' hk;obtain ⟨g1, g2, g3, g4, g5, g6⟩ := hk;simp [g4, g5];refine f_intro (fun j1 => ?_) (fun j1 => ?_)
   ·have hk : k < fl.length := by omega
    obtain ⟨q1, q2⟩ := hK k S' g6;simp [g2, g3, g5, q1, hk];refine SQ_mono (hJ k S' hk g6) fun v S2 hv => ?_;rcases hv with ⟨rfl, hv⟩ | ⟨rfl, hv⟩
    ·simp [g2, g3, g4, g5];exact ⟨k + 1, ⟨by omega, wrap_i64 (by omega) (by omega), hv⟩, by omega⟩
    ·simp;exact hv
   ·have : k = fl.length := by omega
    subst this;simp;exact h _ g6
theorem fs_range {g : Operand} {ps : Array Tmp} {ac bd : Code} {t : Tag (Code.rangeFunc g ps ac bd)} {e : Env} {S : St} {Q : Ex → Env → St → Prop} {fid y bx : Nat} {c0 c : LV} {fl : List Fl} (J : Nat → St → Prop)
  (hg : Operand.lv e g = .fn 86 [.ptr bx 0]) (hy : y = S.next) (hb : S.obj bx = .cells [.ptr fid 0] ∧ bx < S.next) (hc : S.obj fid = .cells [c0, c] ∧ fid < S.next) (hs : SlC 5 c (rowD flD fl)) (hl : fl.length ≤ 1000000) (hp : ps.size = 1)
  (hi : ∀ (k : Nat) S1 o, J k S1 → J k (S1.set y o)) (h0 : ∀ o, J 0 (S.alloc o)) (hK : ∀ (k : Nat) S1, J k S1 → (S1.obj fid = .cells [c0, c] ∧ fid < S1.next) ∧ y < S1.next)
  (hJ : ∀ (k : Nat) S1 o, k < fl.length → J k S1 → S1.obj y = .loop o → PX cf (hold ac .mk) (setPs e ps.toList [.agg (flL (nth fl k))]) (S1.alloc (.cells (flL (nth fl k)))) (hold (fun x e1 S2 => x = .normal ∧ S2.obj y = .loop o ∧ ∀ o',
   PX cf (hold bd .mk) e1 (S2.set y (.loop o')) (hold (fun x2 _ S3 => S3.obj y = .loop o' ∧ ((x2.on = true ∧ J (k + 1) S3) ∨ (x2 = .ret ∧ Q .ret e (S3.set y .dead)))) .mk)) .mk))
  (h : ∀ S', J fl.length S' → Q .normal e (S'.set y .dead)) : PX cf (hold (.rangeFunc g ps ac bd) t) e S Q := by
 refine X_range hg (by decide) ?_
 rw [← hy];have n1 : ¬ bx = S.next := by omega
 have n2 : ¬ fid = S.next := by omega
 have set_set : ∀ (S : St) (o o' : Obj), (S.set y o).set y o' = S.set y o' := fun S o o' => by
  unfold St.set;congr 1;funext i;simp only;split <;> rfl
 refine fs_all1 (c0 := c0) (c := c) (fl := fl) (J := fun k S1 => J k S1 ∧ S1.obj y = .loop ⟨ps.toList, ac, bd, e, .rdy⟩) (by simp [n1, hb.1]) (by simp [n2, hc.1]) hs hl ⟨h0 _, by simp [hy]⟩ (fun k S1 j => (hK k S1 j.1).1) (fun k S1 hk j => ?_) (fun S' j => ?_)
 ·refine S_yield cf_yid (L := ⟨ps.toList, ac, bd, e, .rdy⟩) ?_ (by simp [hp]) rfl ?_
  ·have : y < S1.next := (hK k S1 j.1).2;simp [show ¬ y = S1.next by omega, j.2]
  refine PX_weak (hJ k S1 _ hk j.1 j.2) fun x e1 S2 hx => ?_;obtain ⟨rfl, h1, h2⟩ := hx;refine ⟨rfl, _, h1, rfl, ?_⟩;refine PX_weak (h2 _) fun x2 e2 S3 hx => ?_;obtain ⟨h3, h4⟩ := hx;refine ⟨_, h3, ?_⟩;rcases h4 with ⟨h5, h6⟩ | ⟨rfl, h6⟩
  ·refine .inl ⟨by rw [h5], hi _ _ _ h6, ?_⟩
   cases x2 with
   | normal => simp [Ex.lst]
   | exit k => simp [Ex.on] at h5
   | ret => simp [Ex.on] at h5
  ·refine .inr ⟨rfl, ?_⟩;refine endY_ret (L := ⟨ps.toList, ac, bd, e, .out none⟩) (by simp [Ex.lst]) rfl ?_
   rw [set_set];exact h6
 ·exact endY_rdy j.2 rfl (h S' j.1)
def SlN (S S' : St) (v : LV) (sz : Nat) (xs : List D) : Prop := (v = .lit [] ∧ xs = []) ∨ ∃ b ver, S.next ≤ b ∧ b < S'.next ∧ v = .ar (.cell b 0 ver) sz 0 xs.length ∧ S'.obj b = .cells [.own ver sz xs false]
def nodesOf (fl : List Fl) : List Nd := fl.map Fl.nd
theorem nodes_next {fl : List Fl} {k : Nat} (h : k < fl.length) : rowD ndD (nodesOf (fl.take k)) ++ [D.agg [.str (nth fl k).name, .int .i64 (nth fl k).size, .sl (inD (nth fl k).places)]] = rowD ndD (nodesOf (fl.take (k + 1))) := by
 rw [takeN h]; simp [nodesOf, rowD, Fl.nd, ndD]
structure FillJ (S S1 : St) (m v sz : Nat) (xs : List D) : Prop where
 next : S.next + m ≤ S1.next
 obj : ∀ j, j < S.next → S1.obj j = S.obj j
 clk : S.clk ≤ S1.clk
 esc : S1.esc = S.esc
 cell : ∃ c, S1.obj v = .cells [c] ∧ SlC sz c xs
theorem FillJ.kept {S S1 : St} {m v sz : Nat} {xs : List D} (h : FillJ S S1 m v sz xs) : Kept S S1 := ⟨fun j hj => h.obj j hj, by have := h.next; omega, h.clk, h.esc⟩
theorem FillJ.set {S S1 : St} {m v sz y : Nat} {xs : List D} {o : Obj} (h : FillJ S S1 m v sz xs) (hy : S.next ≤ y) (hv : v ≠ y) : FillJ S (S1.set y o) m v sz xs :=
 ⟨h.next, fun j hj => by simp [show ¬ j = y by omega, h.obj j hj], h.clk, h.esc, by obtain ⟨c, h1, h2⟩ := h.cell; exact ⟨c, by simp [hv, h1], h2⟩⟩
theorem fs_nodes {S : St} {fid id : Nat} {fl : List Fl} {Q : LV → St → Prop} (hF : IsF S fid id fl) (hl : fl.length ≤ 1000000) (h : ∀ v S', Kept S S' → SlN S S' v 3 (rowD ndD (nodesOf fl)) → Q v S') : SQ cf 38 [.ptr fid 0] S Q := by
 obtain ⟨⟨hid, hne⟩, c, hc, hs⟩ := hF;refine S_intro Tryz.func38 rfl rfl (Nat.le_of_ble_eq_true rfl) ?_;have n1 : ¬ fid = S.next := by omega
 have n2 : ¬ fid = S.next + 1 := by omega
 simp;refine fs_all ?_ (by simp; omega)
 simp;obtain ⟨y, hyd⟩ : ∃ y, y = S.next + 1 + 1 := ⟨_, rfl⟩;have a1 : ¬ S.next = y := by omega
 have a2 : ¬ y = S.next := by omega
 refine fs_range (fid := fid) (bx := S.next + 1) (y := y) (fl := fl) (fun k S1 => FillJ S S1 3 S.next 3 (rowD ndD (nodesOf (fl.take k)))) (by simp) (by simp [hyd]) ⟨by simp, by simp⟩ ⟨by simp [n1, n2]; exact hc, by simp; omega⟩ hs hl rfl (fun k S1 o hJ => hJ.set (by omega) a1) (fun o => ⟨by simp, fun j hj => ?_, by simp, rfl, .lit [], by simp [← hyd, a1], .inl ⟨rfl, rfl⟩⟩) (fun k S1 hJ => ?_) (fun k S1 o hk hJ hy => ?_) (fun S' hJ => ?_)
 ·simp [show ¬ j = S.next by omega, show ¬ j = S.next + 1 by omega, show ¬ j = S.next + 1 + 1 by omega]
 ·have := hJ.next;exact ⟨⟨(hJ.obj fid hid).trans hc, by omega⟩, by omega⟩
 ·obtain ⟨g1, g2, g3, g4, c', g5, g6⟩ := hJ;have r1 : ¬ S.next = S1.next := by omega
  have r2 : ∀ m, ¬ S.next = S1.next + m := fun m => by omega
  have r3 : ¬ y = S1.next := by omega
  have r4 : ∀ m, ¬ y = S1.next + m := fun m => by omega
  have r6 : ∀ m k, ¬ y = S1.next + m + k := fun m => by omega
  have r7 : ∀ m k, ¬ S.next = S1.next + m + k := fun m => by omega
  have r9 : ∀ m, ¬ S1.next + m = y := fun m => by omega
  simp [flL, r3, r4, hy];intro o';have hnl : (nodesOf (fl.take k)).length ≤ 1000000 := by simp [nodesOf]; omega
  rcases g6 with ⟨rfl, g6⟩ | ⟨ver, rfl⟩
  ·simp [r1, r2, r6, r7, r9, a1, a2, g5, grow_lit0];refine ⟨rfl, ⟨by simp; omega, fun j hj => ?_, by simp; omega, g4, _, by simp; rfl, .inr ⟨S1.clk, ?_⟩⟩⟩
   ·simp [show ¬ j = S1.next by omega, show ¬ j = S1.next + 1 by omega, show ¬ j = y by omega, show ¬ j = S.next by omega, show ¬ j = S1.next + 1 + 1 by omega, g2 j hj]
   ·rw [← nodes_next hk, g6]; rfl
  ·simp [r1, r2, r6, r7, r9, a1, a2, g5, grow_ar];refine ⟨⟨by omega, by omega⟩, rfl, ⟨by simp; omega, fun j hj => ?_, by simp; omega, g4, _, by simp; rfl, .inr ⟨S1.clk, ?_⟩⟩⟩
   ·simp [show ¬ j = S1.next by omega, show ¬ j = S1.next + 1 by omega, show ¬ j = y by omega, show ¬ j = S.next by omega, show ¬ j = S1.next + 1 + 1 by omega, g2 j hj]
   ·rw [← nodes_next hk]
 ·obtain ⟨g1, g2, g3, g4, c', g5, g6⟩ := hJ;have hk : Kept S (S'.set y .dead) := ⟨fun j hj => by simp [show ¬ j = y by omega, g2 j hj], by simp; omega, by simpa using g3, g4⟩
  rw [List.take_length] at g6;rcases g6 with ⟨rfl, g6⟩ | ⟨ver, rfl⟩
  ·simp [g5, a1];exact h _ _ hk (.inl ⟨rfl, g6⟩)
  ·simp [g5, a1];refine h _ _ hk (.inr ⟨S.next, ver, Nat.le_refl _, by simp; omega, ?_, by simp [a1, g5]⟩)
   simp
theorem IsF.refs {S : St} {fid id : Nat} {fl : List Fl} (h : IsF S fid id fl) : objRefs (S.obj fid) = [id] ∧ ∀ R, R.elem id = true → objTame R (S.obj fid) = true := by
 obtain ⟨_, c, h1, h2⟩ := h;rw [h1];refine ⟨by simp [h2.tame.1], fun R hR => ?_⟩
 have h3 := h2.tame.2 R;have h4 : cellTame R (.ptr id 0) = true := hR;show ([LV.ptr id 0, c].all (cellTame R)) = true;rw [List.all_cons, List.all_cons, h3, h4]; rfl
theorem IsF.stamp {S S' : St} {fid id k : Nat} {fl : List Fl} (h : IsF S fid id fl) (ho : S'.obj fid = stampO k (S.obj fid)) (hn : fid < S'.next) : IsF S' fid id fl := by
 obtain ⟨⟨_, h0⟩, c, h1, h2⟩ := h;refine ⟨⟨hn, h0⟩, Go.VM.stamp k c, ?_, h2.stamp k⟩;rw [ho, h1];rfl
theorem ShD_F {f : FuncId} {ls : List LV} {S : St} {fid id : Nat} {d d' : Dk} {fl fl' : List Fl} {x : D} {K : LV → St → List Nat → List Nat → Prop} (hI : IsD S id d) (hF : IsF S fid id fl) (hr : ls.flatMap refs = [fid]) (ha : ls.all (argTame [id, fid]) = true)
  (h : ∀ S0, IsD S0 id d → IsF S0 fid id fl → SQ cf f ls S0 fun r S1 => TQ (closeV r) S1 fun v S2 => v = .d x ∧ IsD S2 id d' ∧ IsF S2 fid id fl')
  (hK : ∀ S2, IsD S2 id d' → IsF S2 fid id fl' → (∀ j, j ≠ id → j ≠ fid → S2.obj j = S.obj j) → S2.next = S.next → S2.clk = S.clk + 1 → S2.esc = S.esc → K (.d x) S2 [fid, id] [id, fid]) : ShD cf f ls S K := by
 have hne : fid ≠ id := Ne.symm hF.lt.2;refine ShD_2 hr hne rfl rfl hF.refs.1 hI.refs.1 (hF.refs.2 _ (by simp)) (hI.refs.2 _) ha ?_
 obtain ⟨n, hn⟩ := h (small [(id, S.obj id), (fid, S.obj fid)]) (hI.of (by simp [small]) (by simp [small, nextOf]; omega)) (hF.of (by simp [small, Ne.symm hne]) (by simp [small, nextOf]; omega))
 refine ⟨n, holds_mono (fun r hr => ?_) hn⟩;refine TQ_mono hr fun v S2 h1 => ?_;obtain ⟨rfl, h2, h3⟩ := h1;refine ⟨rfl, h2.refs.2 _, h3.refs.2 _ (by simp), hK _ ?_ ?_ (fun j hj hj2 => by simp [hj, hj2]) rfl rfl rfl⟩
 ·refine h2.stamp (k := S.clk) ?_ hI.1;show (if id = fid then _ else if id = id then _ else _) = _;rw [if_neg (Ne.symm hne), if_pos rfl]
 ·refine h3.stamp (k := S.clk) ?_ hF.lt.1;show (if fid = fid then _ else _) = _;rw [if_pos rfl]
theorem SlN.close {S S' : St} {v : LV} {sz : Nat} {xs : List D} (h : SlN S S' v sz xs) : TQ (closeV v) S' fun v' S2 => v' = .d (.sl xs) ∧ (∀ j, j < S.next → S2.obj j = S'.obj j) ∧ S2.next = S'.next := by
 rcases h with ⟨rfl, rfl⟩ | ⟨b, ver, h1, h2, rfl, h4⟩
 ·exact ⟨rfl, fun _ _ => rfl, rfl⟩
 ·simp only [closeV];rw [TQ_bind, toD_ar, arrT_cell, TQ_get, h4];simp only [onCells_cells, List.getElem?_cons_zero, onOwn_own, if_true, Nat.zero_add, Nat.le_refl, Bool.false_eq_true, if_false, setT_cell];rw [sub_all (Nat.le_refl _), TQ_bind, TQ_get, h4];exact ⟨rfl, fun j hj => by simp [show ¬ j = b by omega], rfl⟩
theorem RoD_F {f : FuncId} {ls : List LV} {S : St} {fid id : Nat} {d : Dk} {fl : List Fl} {v' : LV} {K : LV → St → List Nat → List Nat → Prop} (hI : IsD S id d) (hF : IsF S fid id fl) (hr : ls.flatMap refs = [fid]) (ha : ls.all (argTame [id, fid]) = true) (hd : dataV v' = true)
  (h : ∀ S0, IsD S0 id d → IsF S0 fid id fl → SQ cf f ls S0 fun r S1 => TQ (closeV r) S1 fun v S2 => v = v' ∧ S2.obj id = S0.obj id ∧ S2.obj fid = S0.obj fid)
  (hK : K v' S.tick [fid, id] []) : RoD cf f ls S K := by
 have hne : fid ≠ id := Ne.symm hF.lt.2;refine RoD_2 hr hne rfl rfl hF.refs.1 hI.refs.1 (hF.refs.2 _ (by simp)) (hI.refs.2 _) ha ?_
 have e1 : (small [(id, S.obj id), (fid, S.obj fid)]).obj id = S.obj id := by simp [small]
 have e2 : (small [(id, S.obj id), (fid, S.obj fid)]).obj fid = S.obj fid := by simp [small, Ne.symm hne]
 obtain ⟨n, hn⟩ := h (small [(id, S.obj id), (fid, S.obj fid)]) (hI.of e1 (by simp [small, nextOf]; omega)) (hF.of e2 (by simp [small, nextOf]; omega))
 refine ⟨n, holds_mono (fun r hr => ?_) hn⟩;refine TQ_mono hr fun v S2 h1 => ?_;obtain ⟨rfl, h2, h3⟩ := h1;exact ⟨hd, h2.trans e1, h3.trans e2, hK⟩
theorem ro_nodes {S : St} {fid id : Nat} {fl : List Fl} {d : Dk} {K : LV → St → List Nat → List Nat → Prop} (hI : IsD S id d) (hF : IsF S fid id fl) (hl : fl.length ≤ 1000000)
  (hK : K (.d (.sl (rowD ndD (nodesOf fl)))) S.tick [fid, id] []) : RoD cf 38 [.ptr fid 0] S K := by
 refine RoD_F hI hF rfl (by simp) rfl (fun S0 h0 h1 => fs_nodes h1 hl fun v S' hk hv => ?_) hK
 refine TQ_mono hv.close fun v' S2 h2 => ?_;obtain ⟨rfl, h3, h4⟩ := h2;exact ⟨rfl, (h3 _ h0.1).trans (hk.1 _ h0.1), (h3 _ h1.lt.1).trans (hk.1 _ h1.lt.1)⟩
def leftOf' (fl : List Fl) (many : Int) : List Int := if roomIs (nodesOf fl) many = true then freeOf (nodesOf fl) many else []
theorem nodes_size {fl : List Fl} (h : ∀ x ∈ fl, x.size ≤ 1000000) : ∀ x ∈ nodesOf fl, x.size ≤ 9223372036854775807 := by
 intro x hx;obtain ⟨y, hy, rfl⟩ := List.mem_map.1 hx;have := h y hy;show y.size ≤ _;omega
theorem fs_Left {S : St} {fid id n : Nat} {fl : List Fl} {d : Dk} {Q : LV → St → Prop} (hI : IsD S id d) (hF : IsF S fid id fl) (hl : fl.length ≤ 1000000 ∧ ∀ x ∈ fl, x.size ≤ 1000000) (hw : Ok d n)
  (h : ∀ S', IsD S' id d → IsF S' fid id fl → Mod S S' id → Q (.d (.int .i64 (leftOf' fl d.many).length)) S') : SQ cf 14 [.ptr fid 0] S Q := by
 refine S_intro Tryz.func14 rfl rfl (Nat.le_of_ble_eq_true rfl) ?_;have hid := hI.1;have hlt := hF.lt;have hne : ¬ fid = id := Ne.symm hF.lt.2;simp;refine X_draw (by decide) ?_
 simp;refine ro_nodes (S := startD S.next S.clk 1 S) (d := d) (fl := fl) (id := id) (hI.of rfl (by simp [startD]; omega)) (hF.of rfl (by simp [startD]; omega)) hl.1 ?_
 have hF0 := hF;obtain ⟨_, c2, e1, e2⟩ := hF;simp [startD, e1];refine sh_Many (d := d) (hI.of rfl (by simp; omega)) hw.wf.many fun S3 m1 m2 m3 m4 m5 => ?_
 simp at m2 m3 m4 m5;simp [m3, m4];refine room_Free (nodes_size hl.2) ?_;simp;intro _;refine ⟨⟨.inr hne, by decide⟩, ?_⟩
 refine h _ (m1.of rfl (by simp; omega)) (hF0.of (m2 fid hne) (by simp; omega)) ⟨fun j hj hj2 => m2 j hj2, by simp, by simp, m5⟩
def held (d : Dk) (l : List Int) : List UInt8 := l.flatMap fun i => d.jread i
theorem held_succ {d : Dk} {l : List Int} {k : Nat} (h : k < l.length) : held d (l.take (k + 1)) = held d (l.take k) ++ d.jread (nth l k) := by rw [takeN h]; simp [held]
def BySl (S S' : St) (v : LV) (b : List UInt8) : Prop := (v = .d (.sl []) ∧ b = []) ∨ ∃ i n, S.next ≤ i ∧ i < S'.next ∧ v = .ar (.arr i) 1 0 n ∧ ∃ xs, S'.obj i = .arr 1 (byD xs) false ∧ n ≤ xs.length ∧ b = xs.take n
theorem fs_holds {S : St} {fid id n : Nat} {fl : List Fl} {d : Dk} {x : Nd} {Q : LV → St → Prop} (hI : IsD S id d) (hF : IsF S fid id fl) (hw : Ok d n) (hl : x.places.length ≤ 1000000) (hz : 0 ≤ x.size ∧ x.size ≤ (held d x.places).length) (hm : ∀ k, (held d (x.places.take k)).length ≤ 1000000)
  (h : ∀ v S', Kept S S' → BySl S S' v ((held d x.places).take x.size.toNat) → Q v S') : SQ cf 39 [.ptr fid 0, .d (ndD x)] S Q := by
 refine S_intro Tryz.func39 rfl rfl (Nat.le_of_ble_eq_true rfl) ?_;have hid := hI.1;have hF0 := hF;obtain ⟨⟨hlt, hne⟩, c2, e1, e2⟩ := hF;simp [ndD];intro _;refine X_loop (fun (k : Nat) e S' => k ≤ x.places.length ∧ e 0 = .ptr fid 0 ∧ e 3 = .ptr S.next 0 ∧ e 9 = .d (.sl (inD x.places)) ∧ e 10 = .d (.int .i64 x.places.length) ∧ e 11 = .d (.int .i64 k) ∧ Kept S S' ∧ S.next < S'.next ∧ S'.obj S.next = .cells [.d (.str x.name), .d (.int .i64 x.size), .d (.sl (inD x.places))] ∧ NewSl (S.alloc .dead) S' (e 5) 1 (byD (held d (x.places.take k)))) (fun k => x.places.length - k) 0 ?_ ?_
 ·simp;exact ⟨(Kept.refl S).alloc, .inl ⟨rfl, rfl⟩⟩
 ·intro k e S' hk;obtain ⟨g1, g2, g3, g4, g5, g6, g7, g8, g9, g10⟩ := hk;simp [g5, g6];refine f_intro (fun j1 => ?_) (fun j1 => ?_)
  ·have hk : k < x.places.length := by omega
   have hfo : S'.obj fid = .cells [.ptr id 0, c2] := (g7.1 fid hlt).trans e1;simp [g2, g4, g6, hk, hfo];refine jour_Read (hI.kept g7) hw fun S2 v k1 k2 k3 => ?_;have k4 := g7.trans k2;have k5 := g10.kept k2;have hobj : S2.obj S.next = .cells [.d (.str x.name), .d (.int .i64 x.size), .d (.sl (inD x.places))] := (k2.1 _ g8).trans g9;have hsrc : srcT 1 v (fun ys => growT 1 1 (e 5) ys) = growT 1 1 (e 5) (byD (d.jread (nth x.places k))) := by
    rcases k3 with rfl | ⟨rfl, h0⟩
    ·simp
    ·rw [h0]; rfl
   have hnx := g7.2.1;have hnx2 := k2.2.1;simp [hsrc];refine k5.grow (show S.next + 1 ≤ S2.next by omega) (zs := byD (held d (x.places.take (k + 1)))) (by rw [held_succ hk]; simp [byD]) (by rw [byD_length]; exact fits1 (hm (k + 1))) fun i S3 m1 m2 m3 m4 m5 m6 m7 m8 m9 => ?_
   simp [g2, g3, g4, g5, g6];have hne5 : ∀ c, e 5 ≠ .ar (.arr S.next) 1 0 c := by
    intro c hc;rcases g10 with ⟨h0, _⟩ | ⟨i', q1, q2, q3, q4⟩
    ·rw [h0] at hc; cases hc
    ·rw [q3] at hc
     cases hc
     have : S.next + 1 ≤ S.next := q1;omega
   have m2' : S.next + 1 ≤ i := m2;have hck := k4.2.2.1;refine ⟨k + 1, ⟨by omega, wrap_i64 (by omega) (by omega), ⟨fun j hj => ?_, by omega, by omega, by rw [m8]; exact k4.2.2.2⟩, by omega, ?_, .inr ⟨i, m2, m3, by simp, m1⟩⟩, by omega⟩
   ·rw [m7 j (by omega) fun c hc => ?_]
    ·exact k4.1 j hj
    ·rcases g10 with ⟨h0, _⟩ | ⟨i', q1, q2, q3, q4⟩
     ·rw [h0] at hc; cases hc
     ·rw [q3] at hc
      cases hc
      have : S.next + 1 ≤ j := q1;omega
   ·rw [m7 S.next (by omega) hne5]
    exact hobj
  ·have : k = x.places.length := by omega
   subst this;rw [List.take_length] at g10;simp [g3, g9];rcases g10 with ⟨g10, g11⟩ | ⟨i, q1, q2, g10, q4⟩
   ·have h0 : held d x.places = [] := by simpa [byD] using g11
    have hx0 : x.size = 0 := by rw [h0] at hz; simp at hz; omega
    simp [g10, hx0];exact h _ _ g7 (.inl ⟨rfl, by rw [h0]; simp⟩)
   ·simp [g10];have q1' : S.next + 1 ≤ i := q1;exact ⟨hz, h _ _ g7 (.inr ⟨i, _, by omega, q2, rfl, _, q4, by omega, rfl⟩)⟩
end Go.VM
