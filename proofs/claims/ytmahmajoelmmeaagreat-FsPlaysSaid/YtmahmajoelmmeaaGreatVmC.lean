/- The machine of values, part 3: Go code run on plain data, and that what it answers is what the program answers. No condition. -/
import Derived.Test.YtmahmajoelmmeaaGreatVmB
import Derived.WalkKit
import Derived.ProofKit
import Derived.OpenShut
import Derived.ShutString
import Derived.ChangeOld
import Derived.Below
import Derived.Maps.RangeRun
section
namespace Go.VM
def TQ {α : Type} (t : T α) (S : St) (Q : α → St → Prop) : Prop := (t.run S).holds fun r => Q r.1 r.2
section
variable {α β : Type} {S : St} {Q : α → St → Prop}
theorem TQ_ret {a : α} : TQ (.ret a) S Q ↔ Q a S := Iff.rfl
theorem TQ_no : TQ (.no : T α) S Q ↔ False := Iff.rfl
theorem TQ_vac : TQ (.vac : T α) S Q ↔ True := Iff.rfl
theorem TQ_get {id : Nat} {k : Obj → T α} : TQ (.get id k) S Q ↔ TQ (k (S.obj id)) S Q := Iff.rfl
theorem TQ_put {id : Nat} {o : Obj} {k : T α} : TQ (.put id o k) S Q ↔ TQ k (S.set id o) Q := Iff.rfl
theorem TQ_new {o : Obj} {k : Nat → T α} : TQ (.new o k) S Q ↔ TQ (k S.next) (S.alloc o) Q := Iff.rfl
theorem TQ_tick {k : Nat → T α} : TQ (.tick k) S Q ↔ TQ (k S.clk) S.tick Q := Iff.rfl
theorem TQ_leak {k : T α} : TQ (.leak k) S Q ↔ TQ k S.leak Q := Iff.rfl
theorem TQ_bind {t : T β} {f : β → T α} : TQ (t.bind f) S Q ↔ TQ t S fun b S' => TQ (f b) S' Q := by
 unfold TQ;rw [T.run_bind]
 cases t.run S <;> exact Iff.rfl
theorem TQ_ofRes {r : Res α} : TQ (T.ofRes r) S Q ↔ r.holds fun a => Q a S := by cases r <;> exact Iff.rfl
theorem TQ_nil {f : β → T α} {Q : List α → St → Prop} : TQ (T.mapL f []) S Q ↔ Q [] S := Iff.rfl
theorem TQ_cons {f : β → T α} {b : β} {l : List β} {Q : List α → St → Prop} : TQ (T.mapL f (b :: l)) S Q ↔ TQ (f b) S fun x S1 => TQ (T.mapL f l) S1 fun xs S2 => Q (x :: xs) S2 := by
 simp only [T.mapL, TQ_bind, TQ_ret]
theorem TQ_mono {t : T α} {Q' : α → St → Prop} (h : TQ t S Q) (hq : ∀ a S, Q a S → Q' a S) : TQ t S Q' := holds_mono (fun _ ha => hq _ _ ha) h
end
theorem holds_ok {α : Type} {a : α} {Q : α → Prop} : (Res.ok a).holds Q ↔ Q a := Iff.rfl
theorem holds_no {α : Type} {Q : α → Prop} : (Res.no : Res α).holds Q ↔ False := Iff.rfl
theorem holds_vac {α : Type} {Q : α → Prop} : (Res.vac : Res α).holds Q ↔ True := Iff.rfl
variable {cfg : Cfg} {e : Env} {S : St} {Q : LV → St → Prop}
theorem PO_nil {Q : Env → St → Prop} : PO cfg [] e S Q ↔ Q e S := ex_const
theorem po_one {d : Option Tmp} {op : Op} {os : List SOp} {Q : Env → St → Prop} :
  (∃ n, ((step1 cfg (callV cfg n) (ev cfg n) e op S).bind fun r => pops cfg (callV cfg n) (ev cfg n) os (setD e d r.1) r.2).holds fun r => Q r.1 r.2) ↔ P1 cfg op e S fun v S' => PO cfg os (setD e d v) S' Q := by
 unfold P1 PO;exact ex_bind (r := fun n => step1 cfg (callV cfg n) (ev cfg n) e op S) (f := fun n (a : LV × St) => pops cfg (callV cfg n) (ev cfg n) os (setD e d a.1) a.2)
  (fun n m h => step1_le (up h).2 (up h).1 e op S) (fun n m a h => pops_le (up h).2 (up h).1 os _ _)
theorem PO_free {d : Option Tmp} {op : Op} {os : List SOp} {Q : Env → St → Prop} : PO cfg (⟨d, op, none⟩ :: os) e S Q ↔ P1 cfg op e S fun v S' => PO cfg os (setD e d v) S' Q := by
 rw [← po_one]; exact Iff.rfl
theorem PO_guard {d : Option Tmp} {op : Op} {os : List SOp} {Q : Env → St → Prop} {g : Tmp} {w : Bool} :
  PO cfg (⟨d, op, some (some g, w)⟩ :: os) e S Q ↔ whenW w (e g) fun b => fork (b = w) (P1 cfg op e S fun v S' => PO cfg os (setD e d v) S' Q) (PO cfg os (setD e d (.tup [])) S Q) := by
 rw [← po_one];unfold PO whenW;simp only [pops, wants];generalize e g = v
 cases v with
 | tup vs =>
  cases vs with
  | nil =>
   have h : ¬ (!w) = w := by cases w <;> decide
   simp [h, fork]
  | cons _ _ => exact ex_const
 | d v =>
  cases v with
  | bool b =>
   by_cases h : b = w
   ·subst h; simp [fork]
   ·have : (b == w) = false := by simp [h]
    simp [this, h, fork]
  | _ => exact ex_const
 | _ => exact ex_const
theorem P1_op {op : Op} (h : callee e op = none) (hy : yieldee e op = none := by rfl) : P1 cfg op e S Q ↔ TQ (stepT cfg.P e op) S Q := by
 unfold P1 step1;rw [h];simp only [hy];exact ex_const
theorem P1_move {x : Operand} : P1 cfg (.move x) e S Q ↔ Q (Operand.lv e x) S := P1_op rfl
theorem P1_assign {x : Operand} : P1 cfg (.assign x) e S Q ↔ Q (Operand.lv e x) S := P1_op rfl
theorem P1_pick {c a b : Operand} : P1 cfg (.pick c a b) e S Q ↔ whenB (Operand.lv e c) fun t => fork (t = true) (Q (Operand.lv e a) S) (Q (Operand.lv e b) S) := by
 rw [P1_op rfl];simp only [stepT, whenB];generalize Operand.lv e c = v
 cases v with
 | d v =>
  cases v with
  | bool t =>
   show Q (if t = true then Operand.lv e a else Operand.lv e b) S ↔ _
   cases t <;> simp [fork]
  | _ => exact Iff.rfl
 | _ => exact Iff.rfl
theorem P1_alloc {t : TypeId} : P1 cfg (.alloc t) e S Q ↔ TQ (allocT cfg.P t) S Q := P1_op rfl
theorem P1_box {t : TypeId} {x : Operand} : P1 cfg (.box t x) e S Q ↔ TQ (boxT (Operand.lv e x)) S Q := P1_op rfl
theorem P1_build {t : TypeId} {ps : Array (Nat × Operand)} : P1 cfg (.build t ps) e S Q ↔ TQ (buildT cfg.P t (ps.toList.map fun p => (p.1, Operand.lv e p.2))) S Q := P1_op rfl
theorem P1_buildSlice {t : TypeId} {n : Nat} {ps : Array (Nat × Operand)} : P1 cfg (.buildSlice t n ps) e S Q ↔ TQ (buildSliceT cfg.P t n (ps.toList.map fun p => (p.1, Operand.lv e p.2))) S Q := P1_op rfl
theorem P1_load {t : TypeId} {x : Operand} : P1 cfg (.load t x) e S Q ↔ TQ (loadT cfg.P t (Operand.lv e x)) S Q := P1_op rfl
theorem P1_store {t : TypeId} {a v : Operand} : P1 cfg (.store t a v) e S Q ↔ TQ (storeT cfg.P t (Operand.lv e v) (Operand.lv e a)) S Q := P1_op rfl
theorem P1_nilCheck {x : Operand} : P1 cfg (.nilCheck x) e S Q ↔ TQ (nilCheckT (Operand.lv e x)) S Q := P1_op rfl
theorem P1_binOp {op : BinOp} {t u : TypeId} {x y : Operand} : P1 cfg (.binOp op t x y u) e S Q ↔ (binT cfg.P op t (nilConst y) (Operand.lv e x) (Operand.lv e y)).holds fun v => Q v S := (P1_op rfl).trans TQ_ofRes
theorem P1_unOp {op : UnOp} {t : TypeId} {x : Operand} : P1 cfg (.unOp op t x) e S Q ↔ (unT op (Operand.lv e x)).holds fun v => Q v S := (P1_op rfl).trans TQ_ofRes
theorem P1_convert {s d : TypeId} {x : Operand} : P1 cfg (.convert s d x) e S Q ↔ TQ (convertT cfg.P s d (Operand.lv e x)) S Q := P1_op rfl
theorem P1_makeFunc {f : FuncId} {caps : Array Operand} : P1 cfg (.makeFunc (.func f) #[] caps) e S Q ↔ Q (.fn f (caps.toList.map (Operand.lv e))) S := P1_op rfl
theorem P1_makeMap {t : TypeId} : P1 cfg (.makeMap t none) e S Q ↔ TQ (makeMapT cfg.P t) S Q := P1_op rfl
theorem P1_makeSlice {t : TypeId} {n c : Operand} : P1 cfg (.makeSlice t n c) e S Q ↔ TQ (makeSliceT cfg.P t (Operand.lv e n) (Operand.lv e c)) S Q := P1_op rfl
theorem P1_slice {t : TypeId} {x : Operand} {lo hi : Option Operand} : P1 cfg (.slice t x lo hi none) e S Q ↔ TQ (sliceT cfg.P t (Operand.lv e x) (lo.map (Operand.lv e)) (hi.map (Operand.lv e)) none) S Q := by
 rw [P1_op rfl];simp [stepT]
theorem P1_fieldAddr {t : TypeId} {x : Operand} {f : Nat} : P1 cfg (.fieldAddr t x f) e S Q ↔ TQ (fieldAddrT cfg.P t f (Operand.lv e x)) S Q := P1_op rfl
theorem P1_indexAddr {t : TypeId} {x i : Operand} : P1 cfg (.indexAddr t x i) e S Q ↔ TQ (indexAddrT cfg.P t (Operand.lv e x) (Operand.lv e i)) S Q := P1_op rfl
theorem P1_index {t : TypeId} {x i : Operand} : P1 cfg (.index t x i) e S Q ↔ TQ (indexT cfg.P t (Operand.lv e x) (Operand.lv e i)) S Q := P1_op rfl
theorem P1_lookup {t : TypeId} {m i : Operand} {ok : Bool} : P1 cfg (.lookup t m i ok) e S Q ↔ TQ (lookupT cfg.P t (Operand.lv e m) (Operand.lv e i) ok) S Q := P1_op rfl
theorem P1_mapUpdate {t : TypeId} {m i v : Operand} : P1 cfg (.mapUpdate t m i v) e S Q ↔ TQ (mapUpdateT cfg.P t (Operand.lv e m) (Operand.lv e i) (Operand.lv e v)) S Q := P1_op rfl
theorem P1_extract {x : Operand} {i : Nat} : P1 cfg (.extract x i) e S Q ↔ TQ (extractT i (Operand.lv e x)) S Q := P1_op rfl
theorem P1_builtin {b : Builtin} {args : Array Operand} {ts : Array TypeId} : P1 cfg (.call ⟨.builtin b, args, ts⟩) e S Q ↔ TQ (builtinT cfg.P b ts (args.toList.map (Operand.lv e))) S Q := P1_op rfl
def PC (cfg : Cfg) (f : FuncId) (args : List LV) (S : St) (Q : LV → St → Prop) : Prop := ∃ n, (callS cfg (callV cfg n) (ev cfg n) f args S).holds fun r => Q r.1 r.2
theorem P1_call {f : FuncId} {args : Array Operand} {ts : Array TypeId} : P1 cfg (.call ⟨.value (.func f), args, ts⟩) e S Q ↔ PC cfg f (args.toList.map (Operand.lv e)) S Q := by
 unfold P1 PC step1;simp [callee, Operand.lv]
def whenFn (v : LV) (k : FuncId → List LV → Prop) (y : Nat → Prop) : Prop := match v with | .fn f cs => k f cs | .yl id => y id | _ => False
theorem whenFn_fn {f : FuncId} {cs : List LV} {k : FuncId → List LV → Prop} {y : Nat → Prop} : whenFn (.fn f cs) k y ↔ k f cs := Iff.rfl
theorem whenFn_yl {id : Nat} {k : FuncId → List LV → Prop} {y : Nat → Prop} : whenFn (.yl id) k y ↔ y id := Iff.rfl
theorem P1_callv {t : Tmp} {args : Array Operand} {ts : Array TypeId} : P1 cfg (.call ⟨.value (.tmp t), args, ts⟩) e S Q ↔
  whenFn (e t) (fun f cs => PC cfg f (args.toList.map (Operand.lv e) ++ cs) S Q) (fun id => SQ cfg YID (.yl id :: args.toList.map (Operand.lv e)) S Q) := by
 unfold P1 PC step1 whenFn;simp only [callee, yieldee, Operand.lv]
 cases e t with
 | fn f cs => exact Iff.rfl
 | yl id => exact Iff.rfl
 | _ => exact ex_const
theorem PC_val {f : FuncId} {args : List LV} (h : cfg.mode f = .val) : PC cfg f args S Q ↔ TQ (T.mapL toD args) S fun ds S' => VQ cfg f ds fun v => dataV v = true ∧ Q v S' := by
 unfold PC callS callT TQ VQ;simp only [h];have : ∀ n, ((((T.mapL toD args).bind fun ds => (T.ofRes (callV cfg n f ds)).bind fun r => if dataV r = true then T.ret r else T.no).run S).holds fun r => Q r.1 r.2) ↔
   ((T.mapL toD args).run S).holds fun r => (callV cfg n f r.1).holds fun v => dataV v = true ∧ Q v r.2 := by
  intro n;rw [T.run_bind, holds_bind];have : ∀ r : List D × St, ((((T.ofRes (callV cfg n f r.1)).bind fun r => if dataV r = true then T.ret r else T.no).run r.2).holds fun r => Q r.1 r.2) ↔ (callV cfg n f r.1).holds fun v => dataV v = true ∧ Q v r.2 := by
   intro r
   cases callV cfg n f r.1 with
   | ok v =>
    show ((if dataV v = true then T.ret v else T.no).run r.2).holds _ ↔ _;by_cases hd : dataV v = true
    ·rw [if_pos hd]; exact ⟨fun h => ⟨hd, h⟩, fun h => h.2⟩
    ·rw [if_neg hd]; exact ⟨fun h => h.elim, fun h => absurd h.1 hd⟩
   | no => exact Iff.rfl
   | vac => exact Iff.rfl
  exact ⟨holds_mono fun a h => (this a).1 h, holds_mono fun a h => (this a).2 h⟩
 simp only [this]
 cases (T.mapL toD args).run S with
 | ok r => exact Iff.rfl
 | no => exact ⟨fun ⟨_, h⟩ => h, fun h => ⟨0, h⟩⟩
 | vac => exact ⟨fun ⟨_, h⟩ => h, fun h => ⟨0, h⟩⟩
theorem PC_bor {f : FuncId} {args : List LV} (h : cfg.mode f = .bor) : PC cfg f args S Q ↔ TQ (T.mapL peek args) S fun ds S' => VQ cfg f ds fun v => flatV v = true ∧ Q v S' := by
 unfold PC callS callT TQ VQ;simp only [h];have : ∀ n, ((((T.mapL peek args).bind fun ds => (T.ofRes (callV cfg n f ds)).bind fun r => if flatV r = true then T.ret r else T.no).run S).holds fun r => Q r.1 r.2) ↔
   ((T.mapL peek args).run S).holds fun r => (callV cfg n f r.1).holds fun v => flatV v = true ∧ Q v r.2 := by
  intro n;rw [T.run_bind, holds_bind];have : ∀ r : List D × St, ((((T.ofRes (callV cfg n f r.1)).bind fun r => if flatV r = true then T.ret r else T.no).run r.2).holds fun r => Q r.1 r.2) ↔ (callV cfg n f r.1).holds fun v => flatV v = true ∧ Q v r.2 := by
   intro r
   cases callV cfg n f r.1 with
   | ok v =>
    show ((if flatV v = true then T.ret v else T.no).run r.2).holds _ ↔ _;by_cases hd : flatV v = true
    ·rw [if_pos hd]; exact ⟨fun h => ⟨hd, h⟩, fun h => h.2⟩
    ·rw [if_neg hd]; exact ⟨fun h => h.elim, fun h => absurd h.1 hd⟩
   | no => exact Iff.rfl
   | vac => exact Iff.rfl
  exact ⟨holds_mono fun a h => (this a).1 h, holds_mono fun a h => (this a).2 h⟩
 simp only [this]
 cases (T.mapL peek args).run S with
 | ok r => exact Iff.rfl
 | no => exact ⟨fun ⟨_, h⟩ => h, fun h => ⟨0, h⟩⟩
 | vac => exact ⟨fun ⟨_, h⟩ => h, fun h => ⟨0, h⟩⟩
theorem PC_shr {f : FuncId} {args : List LV} (h : cfg.mode f = .shr) : PC cfg f args S Q ↔ SQ cfg f args S Q := by
 unfold PC callS SQ;simp only [h]
theorem PC_lnd {f : FuncId} {args : List LV} (h : cfg.mode f = .lnd) : PC cfg f args S Q ↔ TQ (T.mapL lend args) S fun as S' => SQ cfg f as S' Q := by
 unfold PC callS SQ TQ;simp only [h];rw [ex_bind (r := fun _ => (T.mapL lend args).run S) (f := fun n (q : List LV × St) => ev cfg n f q.1 q.2) (fun _ _ _ => .refl _) (fun n m a hl => ev_le n m hl _ _ _)];exact ex_const
theorem PC_rdo {f : FuncId} {args : List LV} (h : cfg.mode f = .rdo) : PC cfg f args S Q ↔ TQ (T.mapL lend args) S fun as S' => SQ cfg f as S' Q := by
 unfold PC callS SQ TQ;simp only [h];rw [ex_bind (r := fun _ => (T.mapL lend args).run S) (f := fun n (q : List LV × St) => ev cfg n f q.1 q.2) (fun _ _ _ => .refl _) (fun n m a hl => ev_le n m hl _ _ _)];exact ex_const
def Ex.ends (x : Ex) (Q : Prop) : Prop := match x with | .exit _ => False | _ => Q
theorem ends_exit {Q : Prop} {id : Nat} : Ex.ends (.exit id) Q ↔ False := Iff.rfl
theorem SQ_intro {f : FuncId} {args : List LV} {fn : Func} {c : Code} (hf : cfg.P.funcs[f]? = some fn) (hb : fn.body = some c) (hok : okCode fn.ntmps c = true) (hn : args.length ≤ fn.ntmps)
  (h : PX cfg c (Env.init args) S fun x e' S' => x.ends ((resultV cfg.P e' S' fn.results.toList).holds fun v => Q v S')) (hfar : cfg.far f = none) (halt : cfg.alt f = none) : SQ cfg f args S Q := by
 obtain ⟨n, h⟩ := h;refine ⟨n + 1, ?_⟩;rw [ev_succ, hf];simp only [hfar, hb, halt];rw [if_pos ⟨hok, hn⟩, holds_bind];unfold bodyRun;refine holds_mono (fun r hr => ?_) h;obtain ⟨x, e1, S1⟩ := r
 cases x with
 | normal => simp only at hr ⊢; rw [holds_bind]; exact hr
 | exit id => exact hr.elim
 | ret => simp only at hr ⊢; rw [holds_bind]; exact hr
def PXL (cfg : Cfg) (l : List Code) (e : Env) (S : St) (Q : Ex → Env → St → Prop) : Prop := ∃ n, (runL (pexec cfg (callV cfg n) (ev cfg n) n) l e S).holds fun r => Q r.1 r.2.1 r.2.2
theorem PXL_nil {cfg : Cfg} {e : Env} {S : St} {Q : Ex → Env → St → Prop} (h : Q .normal e S) : PXL cfg [] e S Q := ⟨0, h⟩
theorem PXL_cons {cfg : Cfg} {c : Code} {l : List Code} {e : Env} {S : St} {Q : Ex → Env → St → Prop} (h : PX cfg c e S fun x e' S' => match x with | .normal => PXL cfg l e' S' Q | x => Q x e' S') : PXL cfg (c :: l) e S Q := by
 refine (ex_bind (fun n m h => PX_up h c e S) (fun n m a h => ?_)).2 ?_
 ·split
  ·exact runL_le (fun c e S => PX_up h c e S) _ _ _
  ·exact .refl _
 ·obtain ⟨n, h⟩ := h;refine ⟨n, holds_mono (fun r hr => ?_) h⟩;obtain ⟨x, e1, S1⟩ := r
  cases x with
  | normal => exact hr
  | exit id => exact ⟨0, hr⟩
  | ret => exact ⟨0, hr⟩
theorem SQ_alt {cfg : Cfg} {S : St} {Q : LV → St → Prop} {f : FuncId} {args : List LV} {fn : Func} {c : Code} {q : Alt} (hf : cfg.P.funcs[f]? = some fn) (hb : fn.body = some c) (hok : okCode fn.ntmps c = true) (hn : args.length ≤ fn.ntmps)
  (hfar : cfg.far f = none) (halt : cfg.alt f = some q)
  (h : PXL cfg (q.pre ++ [q.head]) (Env.init args) S fun x e' S' => match x with
   | .normal => ∃ e2 S2, q.mac e' S' = some (e2, S2) ∧ PX cfg q.post e2 S2 fun x e' S' => x.ends ((resultV cfg.P e' S' fn.results.toList).holds fun v => Q v S')
   | x => x.ends ((resultV cfg.P e' S' fn.results.toList).holds fun v => Q v S')) : SQ cfg f args S Q := by
 have key : ∃ n, (altRun (pexec cfg (callV cfg n) (ev cfg n) n) q (Env.init args) S).holds fun r => r.1.ends ((resultV cfg.P r.2.1 r.2.2 fn.results.toList).holds fun v => Q v r.2.2) := by
  refine (ex_bind (fun n m h => runL_le (fun c e S => PX_up h c e S) _ _ _) (fun n m a h => ?_)).2 ?_
  ·split
   ·exact Le.bind (.refl _) fun m => PX_up h _ _ _
   ·exact .refl _
  ·obtain ⟨n, h⟩ := h;refine ⟨n, holds_mono (fun r hr => ?_) h⟩;obtain ⟨x, e1, S1⟩ := r
   cases x with
   | normal =>
    obtain ⟨e2, S2, h1, m, h2⟩ := hr;refine ⟨m, ?_⟩;simp only [h1, seen];exact h2
   | exit id => exact ⟨0, hr⟩
   | ret => exact ⟨0, hr⟩
 obtain ⟨n, h⟩ := key;refine ⟨n + 1, ?_⟩;rw [ev_succ, hf];simp only [hfar, hb, halt];rw [if_pos ⟨hok, hn⟩, holds_bind];unfold bodyRun;refine holds_mono (fun r hr => ?_) h;obtain ⟨x, e1, S1⟩ := r
 cases x with
 | normal => simp only at hr ⊢; rw [holds_bind]; exact hr
 | exit id => exact hr.elim
 | ret => simp only at hr ⊢; rw [holds_bind]; exact hr
theorem VQ_intro {f : FuncId} {ds : List D} {Q : LV → Prop} (hx : cfg.ext f = none) (h : SQ cfg f (ds.map .d) .empty fun r S' => TQ (closeV r) S' fun v _ => Q v) : VQ cfg f ds Q := by
 obtain ⟨n, h⟩ := h;refine ⟨n, ?_⟩;unfold callV;rw [hx];simp only;rw [holds_bind];refine holds_mono (fun r hr => ?_) h;rw [holds_bind];exact hr
theorem SQ_mono {f : FuncId} {args : List LV} {Q' : LV → St → Prop} (h : SQ cfg f args S Q) (hq : ∀ v S, Q v S → Q' v S) : SQ cfg f args S Q' := by
 obtain ⟨n, h⟩ := h;exact ⟨n, holds_mono (fun r hr => hq _ _ hr) h⟩
end Go.VM
end
section
namespace Go.VM
inductive Tag {α : Type _} (a : α) : Type where | mk
def hold {α : Type _} (a : α) (_ : Tag a) : α := a
inductive TagP (a : Prop) : Type where | mk
def holdP (a : Prop) (_ : TagP a) : Prop := a
section
variable {cfg : Cfg} {e : Env} {S : St} {Q : Ex → Env → St → Prop}
theorem rel3 {q : Ex → Env → St → Prop} {t : Tag q} {x : Ex} : hold q t x e S ↔ q x e S := Iff.rfl
theorem rel2 {q : Env → St → Prop} {t : Tag q} : hold q t e S ↔ q e S := Iff.rfl
theorem relT {α : Type} {q : α → St → Prop} {t : Tag q} {a : α} : hold q t a S ↔ q a S := Iff.rfl
theorem rel1 {α : Type} {q : α → Prop} {t : Tag q} {a : α} : hold q t a ↔ q a := Iff.rfl
theorem relF {q : FuncId → List LV → Prop} {t : Tag q} {f : FuncId} {c : List LV} : hold q t f c ↔ q f c := Iff.rfl
theorem X_skip {t : Tag Code.skip} : PX cfg (hold .skip t) e S Q ↔ Q .normal e S := PX_skip
theorem X_exit {id : Nat} {t : Tag (Code.exit id)} : PX cfg (hold (.exit id) t) e S Q ↔ Q (.exit id) e S := PX_exit
theorem X_ret {t : Tag Code.ret} : PX cfg (hold .ret t) e S Q ↔ Q .ret e S := PX_ret
theorem X_seq {x y : Code} {t : Tag (Code.seq x y)} : PX cfg (hold (.seq x y) t) e S Q ↔ PX cfg (hold x .mk) e S (hold (fun ex e' S' => ex.then (hold (fun e' S' => PX cfg (hold y .mk) e' S' Q) .mk) Q e' S') .mk) := PX_seq
theorem X_block {c : Code} {id : Nat} {t : Tag (Code.block id c)} : PX cfg (hold (.block id c) t) e S Q ↔ PX cfg (hold c .mk) e S (hold (fun ex e' S' => ex.out id Q e' S') .mk) := PX_block
theorem X_cond {c : Operand} {x y : Code} {t : Tag (Code.cond c x y)} : PX cfg (hold (.cond c x y) t) e S Q ↔ whenB (Operand.lv e c) (hold (fun t => fork (t = true) (holdP (PX cfg (hold x .mk) e S Q) .mk) (holdP (PX cfg (hold y .mk) e S Q) .mk)) .mk) := PX_cond
def PL (cfg : Cfg) (all os : List Oper) (e : Env) (S : St) (Q : Env → St → Prop) : Prop := PO cfg (os.map (sop all)) e S Q
def gslot (all : List Oper) (g : Nat) : Option Tmp := (all[g]?).bind (·.dst)
theorem X_region {id : Nat} {l : List Oper} {t : Tag (Code.region id l.toArray false)} : PX cfg (hold (.region id l.toArray false) t) e S Q ↔ PL cfg (hold l .mk) (hold l .mk) e S (hold (fun e' S' => Q .normal e' S') .mk) := PX_region
theorem L_nil {all : List Oper} {t : Tag ([] : List Oper)} {Q : Env → St → Prop} : PL cfg all (hold [] t) e S Q ↔ Q e S := PO_nil
theorem L_free {all : List Oper} {d : Option Tmp} {op : Op} {ty : TypeId} {p : String} {a : Array Edge} {os : List Oper} {t : Tag (Oper.mk d op ty p a none :: os)} {Q : Env → St → Prop} :
  PL cfg all (hold (Oper.mk d op ty p a none :: os) t) e S Q ↔ P1 cfg op e S (hold (fun v S' => PL cfg all (hold os .mk) (setD e d v) S' Q) .mk) := PO_free
theorem gs_zero {o : Oper} {l : List Oper} {t : Tag (o :: l)} : gslot (hold (o :: l) t) 0 = o.dst := rfl
theorem gs_succ {o : Oper} {l : List Oper} {t : Tag (o :: l)} {n : Nat} : gslot (hold (o :: l) t) (n + 1) = gslot (hold l .mk) n := rfl
def whenG (w : Bool) (e : Env) (o : Option Tmp) (k : Bool → Prop) : Prop := match o with | some g => whenW w (e g) k | none => False
theorem whenG_some {w : Bool} {g : Tmp} {k : Bool → Prop} : whenG w e (some g) k ↔ whenW w (e g) k := Iff.rfl
theorem L_guard {all : List Oper} {d : Option Tmp} {op : Op} {ty : TypeId} {p : String} {a : Array Edge} {os : List Oper} {g : Nat} {w : Bool} {t : Tag (Oper.mk d op ty p a (some (g, w)) :: os)} {Q : Env → St → Prop} :
  PL cfg all (hold (Oper.mk d op ty p a (some (g, w)) :: os) t) e S Q ↔ whenG w e (gslot all g) (hold (fun b => fork (b = w) (holdP (P1 cfg op e S (hold (fun v S' => PL cfg all (hold os .mk) (setD e d v) S' Q) .mk)) .mk) (holdP (PL cfg all (hold os .mk) (setD e d (.tup [])) S Q) .mk)) .mk) := by
 unfold whenG
 cases hg : gslot all g with
 | some s =>
  have : PL cfg all (hold (Oper.mk d op ty p a (some (g, w)) :: os) t) e S Q ↔ PO cfg (⟨d, op, some (some s, w)⟩ :: os.map (sop all)) e S Q := by
   unfold PL hold;simp only [List.map_cons, sop, Option.map_some];have hg' : (all[g]?).bind (·.dst) = some s := hg;rw [hg']
  rw [this, PO_guard]; exact Iff.rfl
 | none =>
  have : PL cfg all (hold (Oper.mk d op ty p a (some (g, w)) :: os) t) e S Q ↔ PO cfg (⟨d, op, some (none, w)⟩ :: os.map (sop all)) e S Q := by
   unfold PL hold;simp only [List.map_cons, sop, Option.map_some];have hg' : (all[g]?).bind (·.dst) = none := hg;rw [hg']
  rw [this];exact ex_const
theorem f_yes {A B : Prop} {t : TagP A} : fork True (holdP A t) B ↔ A := fork_yes
theorem f_no {A B : Prop} {t : TagP B} : fork False A (holdP B t) ↔ B := fork_no
theorem f_intro {c A B : Prop} {t : TagP A} {u : TagP B} (h : c → A) (k : ¬ c → B) : fork c (holdP A t) (holdP B u) := ⟨h, k⟩
theorem H_pick {c a b : Operand} {Q : LV → St → Prop} : P1 cfg (.pick c a b) e S Q ↔ whenB (Operand.lv e c) (hold (fun t => fork (t = true) (holdP (Q (Operand.lv e a) S) .mk) (holdP (Q (Operand.lv e b) S) .mk)) .mk) := P1_pick
theorem H_binOp {op : BinOp} {t u : TypeId} {x y : Operand} {Q : LV → St → Prop} : P1 cfg (.binOp op t x y u) e S Q ↔ (binT cfg.P op t (nilConst y) (Operand.lv e x) (Operand.lv e y)).holds (hold (fun v => Q v S) .mk) := P1_binOp
theorem H_unOp {op : UnOp} {t : TypeId} {x : Operand} {Q : LV → St → Prop} : P1 cfg (.unOp op t x) e S Q ↔ (unT op (Operand.lv e x)).holds (hold (fun v => Q v S) .mk) := P1_unOp
theorem H_callv {t : Tmp} {args : Array Operand} {ts : Array TypeId} {Q : LV → St → Prop} : P1 cfg (.call ⟨.value (.tmp t), args, ts⟩) e S Q ↔ whenFn (e t) (hold (fun f cs => PC cfg f (args.toList.map (Operand.lv e) ++ cs) S Q) .mk) (hold (fun id => SQ cfg YID (.yl id :: args.toList.map (Operand.lv e)) S Q) .mk) := P1_callv
theorem H_bind {α β : Type} {t : T β} {f : β → T α} {Q : α → St → Prop} : TQ (t.bind f) S Q ↔ TQ t S (hold (fun b S' => TQ (f b) S' Q) .mk) := TQ_bind
theorem H_ofRes {α : Type} {r : Res α} {Q : α → St → Prop} : TQ (T.ofRes r) S Q ↔ r.holds (hold (fun a => Q a S) .mk) := TQ_ofRes
theorem H_cons {α β : Type} {f : β → T α} {b : β} {l : List β} {Q : List α → St → Prop} : TQ (T.mapL f (b :: l)) S Q ↔ TQ (f b) S (hold (fun x S1 => TQ (T.mapL f l) S1 (hold (fun xs S2 => Q (x :: xs) S2) .mk)) .mk) := TQ_cons
theorem C_val {f : FuncId} {args : List LV} {Q : LV → St → Prop} (h : cfg.mode f = .val) : PC cfg f args S Q ↔ TQ (T.mapL toD args) S (hold (fun ds S' => VQ cfg f ds (hold (fun v => dataV v = true ∧ Q v S') .mk)) .mk) := PC_val h
theorem C_bor {f : FuncId} {args : List LV} {Q : LV → St → Prop} (h : cfg.mode f = .bor) : PC cfg f args S Q ↔ TQ (T.mapL peek args) S (hold (fun ds S' => VQ cfg f ds (hold (fun v => flatV v = true ∧ Q v S') .mk)) .mk) := PC_bor h
theorem C_lnd {f : FuncId} {args : List LV} {Q : LV → St → Prop} (h : cfg.mode f = .lnd) : PC cfg f args S Q ↔ TQ (T.mapL lend args) S (hold (fun as S' => SQ cfg f as S' Q) .mk) := PC_lnd h
theorem C_rdo {f : FuncId} {args : List LV} {Q : LV → St → Prop} (h : cfg.mode f = .rdo) : PC cfg f args S Q ↔ TQ (T.mapL lend args) S (hold (fun as S' => SQ cfg f as S' Q) .mk) := PC_rdo h
theorem lend_d {x : D} : lend (.d x) = .ret (.d x) := rfl
theorem lend_ptr {a b : Nat} : lend (.ptr a b) = .ret (.ptr a b) := rfl
theorem lend_mp {a : Nat} : lend (.mp a) = .ret (.mp a) := rfl
theorem lend_fn {f : Nat} {cs : List LV} : lend (.fn f cs) = .ret (.fn f cs) := rfl
theorem lend_lit {xs : List D} : lend (.lit xs) = .ret (.d (.sl xs)) := rfl
theorem lend_ar {l : Loc} {a b c : Nat} : lend (.ar l a b c) = (toD (.ar l a b c)).bind fun x => .ret (.d x) := rfl
theorem lend_agg {cs : List LV} : lend (.agg cs) = .ret (.agg cs) := rfl
theorem lend_yl {a : Nat} : lend (.yl a) = .ret (.yl a) := rfl
theorem S_intro {f : FuncId} {args : List LV} {fn : Func} {c : Code} {Q : LV → St → Prop} (hf : cfg.P.funcs[f]? = some fn) (hb : fn.body = some c) (hok : okCode fn.ntmps c = true) (hn : args.length ≤ fn.ntmps)
  (h : PX cfg (hold c .mk) (Env.init args) S (hold (fun x e' S' => x.ends (holdP ((resultV cfg.P e' S' fn.results.toList).holds (hold (fun v => Q v S') .mk)) .mk)) .mk)) (hfar : cfg.far f = none := by rfl) (halt : cfg.alt f = none := by rfl) : SQ cfg f args S Q := SQ_intro hf hb hok hn h hfar halt
theorem e_normal {Q : Prop} {t : TagP Q} : Ex.ends .normal (holdP Q t) ↔ Q := Iff.rfl
theorem e_ret {Q : Prop} {t : TagP Q} : Ex.ends .ret (holdP Q t) ↔ Q := Iff.rfl
theorem V_intro {f : FuncId} {ds : List D} {Q : LV → Prop} (hx : cfg.ext f = none) (h : SQ cfg f (ds.map .d) .empty (hold (fun r S' => TQ (closeV r) S' (hold (fun v _ => Q v) .mk)) .mk)) : VQ cfg f ds Q := VQ_intro hx h
theorem X_loop {β : Type} {c : Code} {t : Tag (Code.loop c)} (I : β → Env → St → Prop) (μ : β → Nat) (b : β) (h0 : I b e S)
  (hr : ∀ b e S, I b e S → PX cfg (hold c .mk) e S (hold (fun x e' S' => x.then (hold (fun e' S' => ∃ b', I b' e' S' ∧ μ b' < μ b) .mk) Q e' S') .mk)) : PX cfg (hold (.loop c) t) e S Q := PX_loop I μ b h0 hr
end
attribute [simp] rel3 rel2 relT rel1 relF X_skip X_exit X_ret X_seq X_block X_cond X_region L_nil L_free L_guard gs_zero gs_succ whenG_some f_yes f_no fork_not then_normal then_exit then_ret out_normal out_exit out_ret e_normal e_ret ends_exit P1_move P1_assign H_pick P1_alloc P1_box P1_build P1_buildSlice P1_load P1_store P1_nilCheck H_binOp H_unOp P1_convert P1_makeFunc P1_makeMap P1_makeSlice P1_slice P1_fieldAddr P1_indexAddr P1_index P1_lookup P1_mapUpdate P1_extract P1_builtin P1_call H_callv whenB_bool whenW_bool whenW_skt whenW_skf whenFn_fn whenFn_yl lend_d lend_ptr lend_mp lend_fn lend_lit lend_ar lend_agg lend_yl TQ_ret TQ_no TQ_vac TQ_get TQ_put TQ_new TQ_tick TQ_leak H_bind H_ofRes TQ_nil H_cons holds_ok holds_no holds_vac
theorem set_at (e : Env) (i j : Nat) (v : LV) : Env.set e i v j = if j = i then v else e j := rfl
theorem setD_some (e : Env) (i : Nat) (v : LV) : setD e (some i) v = e.set i v := rfl
theorem setD_none (e : Env) (v : LV) : setD e none v = e := rfl
theorem init_at (args : List LV) (i : Nat) : Env.init args i = args.getD i .un := rfl
attribute [simp] set_at setD_some setD_none init_at Operand.lv ofConst
theorem bin_none {P : Program} {op : BinOp} {t : TypeId} {x y : LV} : binT P op t none x y = binS P op t x y := rfl
section
variable {P : Program} {t : TypeId} {k : IntKind} {a b : Int}
theorem b_add : binS P .add t (.d (.int k a)) (.d (.int k b)) = .ok (.d (.int k (k.wrap (a + b)))) := by simp [binS, intBin]
theorem b_sub : binS P .sub t (.d (.int k a)) (.d (.int k b)) = .ok (.d (.int k (k.wrap (a - b)))) := by simp [binS, intBin]
theorem b_mul : binS P .mul t (.d (.int k a)) (.d (.int k b)) = .ok (.d (.int k (k.wrap (a * b)))) := by simp [binS, intBin]
theorem b_quo : binS P .quo t (.d (.int k a)) (.d (.int k b)) = if b = 0 then .no else .ok (.d (.int k (k.wrap (a.tdiv b)))) := by simp [binS, intBin]
theorem b_rem : binS P .rem t (.d (.int k a)) (.d (.int k b)) = if b = 0 then .no else .ok (.d (.int k (a.tmod b))) := by simp [binS, intBin]
theorem b_eql : binS P .eql t (.d (.int k a)) (.d (.int k b)) = .ok (.d (.bool (decide (a = b)))) := by simp [binS, intBin]
theorem b_neq : binS P .neq t (.d (.int k a)) (.d (.int k b)) = .ok (.d (.bool (!decide (a = b)))) := by simp [binS, intBin]
theorem b_lss : binS P .lss t (.d (.int k a)) (.d (.int k b)) = .ok (.d (.bool (decide (a < b)))) := by simp [binS, intBin]
theorem b_leq : binS P .leq t (.d (.int k a)) (.d (.int k b)) = .ok (.d (.bool (decide (a ≤ b)))) := by simp [binS, intBin]
theorem b_gtr : binS P .gtr t (.d (.int k a)) (.d (.int k b)) = .ok (.d (.bool (decide (b < a)))) := by simp [binS, intBin]
theorem b_geq : binS P .geq t (.d (.int k a)) (.d (.int k b)) = .ok (.d (.bool (decide (b ≤ a)))) := by simp [binS, intBin]
end
attribute [simp] bin_none b_add b_sub b_mul b_quo b_rem b_eql b_neq b_lss b_leq b_gtr b_geq nilConst
end Go.VM
end
section
namespace Go.VM
def nth {α : Type} [Inhabited α] (l : List α) (i : Nat) : α := l.getD i default
theorem nth_get {α : Type} [Inhabited α] {l : List α} {i : Nat} (h : i < l.length) : l[i]? = some (nth l i) := by simp [nth, h]
theorem nth_none {α : Type} {l : List α} {i : Nat} (h : ¬ i < l.length) : l[i]? = none := by simp at h ⊢; exact h
def byD (b : List UInt8) : List D := b.map fun c => .int .u8 c.toNat
def inD (l : List Int) : List D := l.map fun n => .int .i64 n
theorem byD_length (b : List UInt8) : (byD b).length = b.length := by simp [byD]
theorem inD_length (b : List Int) : (inD b).length = b.length := by simp [inD]
theorem byD_sized (b : List UInt8) : sized 1 (byD b) := by
 intro x hx;obtain ⟨c, _, rfl⟩ := List.mem_map.1 hx;rfl
theorem inD_sized (b : List Int) : sized 1 (inD b) := by
 intro x hx;obtain ⟨c, _, rfl⟩ := List.mem_map.1 hx;rfl
theorem byD_sub (b : List UInt8) (i n : Nat) : sub (byD b) i n = byD ((b.drop i).take n) := by simp [sub, byD, List.map_take, List.map_drop]
theorem inD_sub (b : List Int) (i n : Nat) : sub (inD b) i n = inD ((b.drop i).take n) := by simp [sub, inD, List.map_take, List.map_drop]
theorem byD_append (a b : List UInt8) : byD a ++ byD b = byD (a ++ b) := by simp [byD]
theorem byD_set (b : List UInt8) (i : Nat) (c : UInt8) : (byD b).set i (.int .u8 c.toNat) = byD (b.set i c) := by simp [byD, List.map_set]
theorem inD_set (b : List Int) (i : Nat) (c : Int) : (inD b).set i (.int .i64 c) = inD (b.set i c) := by simp [inD, List.map_set]
theorem byD_of (b : List UInt8) : bytesOf? (byD b) = some b := by
 induction b with
 | nil => rfl
 | cons c b ih =>
  have : byD (c :: b) = .int .u8 c.toNat :: byD b := rfl;rw [this];simp [bytesOf?, byteOf?, ih]
theorem byD_nil : byD [] = [] := rfl
theorem inD_nil : inD [] = [] := rfl
theorem byD_get (b : List UInt8) (i : Nat) : (byD b)[i]? = if i < b.length then some (.int .u8 (nth b i).toNat) else none := by
 by_cases h : i < b.length
 ·rw [byD, List.getElem?_map, nth_get h, if_pos h]; rfl
 ·rw [byD, List.getElem?_map, nth_none h, if_neg h]; rfl
theorem inD_get (b : List Int) (i : Nat) : (inD b)[i]? = if i < b.length then some (.int .i64 (nth b i)) else none := by
 by_cases h : i < b.length
 ·rw [inD, List.getElem?_map, nth_get h, if_pos h]; rfl
 ·rw [inD, List.getElem?_map, nth_none h, if_neg h]; rfl
variable {α : Type} {P : Program} {t : TypeId} {S : St} {Q : LV → St → Prop}
theorem TQ_ite {c : Prop} [Decidable c] {x : T α} {Q : α → St → Prop} : TQ (if c then x else .no) S Q ↔ c ∧ TQ x S Q := by
 by_cases h : c
 ·simp [h]
 ·simp [h]
theorem len1_holds {n : Nat} {Q : LV → Prop} : (len1 n).holds Q ↔ (n ≤ 9223372036854775807 → Q (.d (.int .i64 n))) := by
 unfold len1;split
 ·rename_i h; exact ⟨fun q _ => q, fun q => q h⟩
 ·rename_i h; exact ⟨fun _ q => absurd q h, fun _ => trivial⟩
theorem ba_size (a : Array UInt8) : (ByteArray.mk a).size = a.size := rfl
theorem bi_len {x : LV} : builtinT P .len #[t] [x] = lenT P t x := rfl
theorem bi_append {ts : Array TypeId} {x y : LV} : builtinT P .append ts [x, y] = appendT P ts x y := rfl
theorem bi_copy {ts : Array TypeId} {x y : LV} : builtinT P .copy ts [x, y] = copyT P ts x y := rfl
theorem bi_delete {ts : Array TypeId} {x y : LV} : builtinT P .delete ts [x, y] = deleteT P ts x y := rfl
theorem len_str {s : List UInt8} (h : P.underlying t = some .string) : TQ (lenT P t (.d (.str s))) S Q ↔ (s.length ≤ 9223372036854775807 → Q (.d (.int .i64 s.length)) S) := by
 simp [lenT, h, len1_holds]
def isSl : Option TypeDesc → Prop
 | some (.slice _) => True
 | _ => False
theorem isSl_slice {e : TypeId} : isSl (some (.slice e)) ↔ True := Iff.rfl
theorem len_sl {xs : List D} : TQ (lenT P t (.d (.sl xs))) S Q ↔ isSl (P.underlying t) ∧ (xs.length ≤ 9223372036854775807 → Q (.d (.int .i64 xs.length)) S) ∨ TQ (lenT P t (.d (.sl xs))) S Q ∧ ¬ isSl (P.underlying t) := by
 by_cases h : isSl (P.underlying t)
 ·cases hu : P.underlying t with
  | none => rw [hu] at h; exact h.elim
  | some d =>
   cases d <;> (rw [hu] at h; try exact h.elim)
   simp [lenT, hu, len1_holds, isSl]
 ·simp [h]
theorem slLen {xs : List D} (h : isSl (P.underlying t)) : TQ (lenT P t (.d (.sl xs))) S Q ↔ (xs.length ≤ 9223372036854775807 → Q (.d (.int .i64 xs.length)) S) := by
 rw [len_sl]; simp [h]
theorem litLen {xs : List D} (h : isSl (P.underlying t)) : TQ (lenT P t (.lit xs)) S Q ↔ (xs.length ≤ 9223372036854775807 → Q (.d (.int .i64 xs.length)) S) := by
 cases hu : P.underlying t with
 | none => rw [hu] at h; exact h.elim
 | some d =>
  cases d <;> (rw [hu] at h; try exact h.elim)
  simp [lenT, hu, len1_holds]
theorem arLen {l : Loc} {sz lo n : Nat} (h : isSl (P.underlying t)) : TQ (lenT P t (.ar l sz lo n)) S Q ↔ (n ≤ 9223372036854775807 → Q (.d (.int .i64 n)) S) := by
 cases hu : P.underlying t with
 | none => rw [hu] at h; exact h.elim
 | some d =>
  cases d <;> (rw [hu] at h; try exact h.elim)
  simp [lenT, hu, len1_holds]
theorem index_str {s : List UInt8} {k : IntKind} {i : Int} (h : P.underlying t = some .string) : TQ (indexT P t (.d (.str s)) (.d (.int k i))) S Q ↔ (0 ≤ i ∧ i < s.length) ∧ Q (.d (.int .u8 (nth s i.toNat).toNat)) S := by
 have ht : tyStr P t = true := by simp [tyStr, h]
 simp only [indexT, ht, true_and];rw [TQ_ite];by_cases h0 : 0 ≤ i
 ·by_cases hi : i < s.length
  ·have hn : i.toNat < s.length := by omega
   rw [nth_get hn];simp [h0, hi]
  ·have hn : ¬ i.toNat < s.length := by omega
   rw [nth_none hn];simp [h0, hi]
 ·simp [h0]
theorem elem_by {b : List UInt8} {i : Int} : TQ (elemOf (byD b) 1 i) S Q ↔ (0 ≤ i ∧ i < b.length) ∧ Q (.cp [.int .u8 (nth b i.toNat).toNat]) S := by
 unfold elemOf;rw [TQ_ite, byD_get];by_cases h0 : 0 ≤ i
 ·by_cases hi : i < b.length
  ·have hn : i.toNat < b.length := by omega
   simp [h0, hi, hn, D.cells]
  ·have hn : ¬ i.toNat < b.length := by omega
   simp [h0, hi, hn]
 ·simp [h0]
theorem elem_in {b : List Int} {i : Int} : TQ (elemOf (inD b) 1 i) S Q ↔ (0 ≤ i ∧ i < b.length) ∧ Q (.cp [.int .i64 (nth b i.toNat)]) S := by
 unfold elemOf;rw [TQ_ite, inD_get];by_cases h0 : 0 ≤ i
 ·by_cases hi : i < b.length
  ·have hn : i.toNat < b.length := by omega
   simp [h0, hi, hn, D.cells]
  ·have hn : ¬ i.toNat < b.length := by omega
   simp [h0, hi, hn]
 ·simp [h0]
def esz (P : Program) (t : TypeId) : Option Nat := (tyElem P t).map (·.2)
theorem esz_some {n : Nat} (h : esz P t = some n) : ∃ e, tyElem P t = some (e, n) := by
 unfold esz at h
 cases he : tyElem P t with
 | none => rw [he] at h; cases h
 | some p => rw [he] at h; cases h; exact ⟨p.1, rfl⟩
theorem addr_by {b : List UInt8} {k : IntKind} {i : Int} (h : esz P t = some 1) : TQ (indexAddrT P t (.d (.sl (byD b))) (.d (.int k i))) S Q ↔ (0 ≤ i ∧ i < b.length) ∧ Q (.cp [.int .u8 (nth b i.toNat).toNat]) S := by
 obtain ⟨e, he⟩ := esz_some h;simp only [indexAddrT, he]; exact elem_by
theorem addr_in {b : List Int} {k : IntKind} {i : Int} (h : esz P t = some 1) : TQ (indexAddrT P t (.d (.sl (inD b))) (.d (.int k i))) S Q ↔ (0 ≤ i ∧ i < b.length) ∧ Q (.cp [.int .i64 (nth b i.toNat)]) S := by
 obtain ⟨e, he⟩ := esz_some h;simp only [indexAddrT, he]; exact elem_in
theorem addr_ar {l : Loc} {lo n : Nat} {k : IntKind} {i : Int} (h : esz P t = some 1) : TQ (indexAddrT P t (.ar l 1 lo n) (.d (.int k i))) S Q ↔ (0 ≤ i ∧ i < n) ∧ Q (.elp l 1 (lo + i.toNat) 0) S := by
 obtain ⟨e, he⟩ := esz_some h;simp only [indexAddrT, he];rw [TQ_ite, TQ_ret];simp
theorem load_cp {c : D} {cs : List D} (h : tyAgg P t = some false) : TQ (loadT P t (.cp (c :: cs))) S Q ↔ Q (.d c) S := by simp [loadT, h]
theorem load_cps {cs : List D} (h : tyAgg P t = some true) : TQ (loadT P t (.cp cs)) S Q ↔ tySize P t ≤ cs.length ∧ Q (.d (.agg (cs.take (tySize P t)))) S := by
 simp only [loadT, h]; rw [TQ_ite, TQ_ret]
theorem cut_lo {n : Nat} {a : IntKind} {i : Int} {k : Nat → Nat → T α} {Q : α → St → Prop} : TQ (cut n (some (.d (.int a i))) none none k) S Q ↔ (0 ≤ i ∧ i ≤ n) ∧ TQ (k i.toNat n) S Q := by
 simp only [cut, bound];rw [TQ_ite];simp [and_assoc]
theorem cut_hi {n : Nat} {a : IntKind} {i : Int} {k : Nat → Nat → T α} {Q : α → St → Prop} : TQ (cut n none (some (.d (.int a i))) none k) S Q ↔ (0 ≤ i ∧ i ≤ n) ∧ TQ (k 0 i.toNat) S Q := by
 simp only [cut, bound];rw [TQ_ite];simp [and_assoc]
theorem cut_both {n : Nat} {a b : IntKind} {i j : Int} {k : Nat → Nat → T α} {Q : α → St → Prop} : TQ (cut n (some (.d (.int a i))) (some (.d (.int b j))) none k) S Q ↔ (0 ≤ i ∧ i ≤ j ∧ j ≤ n) ∧ TQ (k i.toNat j.toNat) S Q := by
 simp only [cut, bound];rw [TQ_ite];simp [and_assoc]
theorem slice_ar {l : Loc} {o n : Nat} {lo hi mx : Option LV} (h : esz P t = some 1) : sliceT P t (.ar l 1 o n) lo hi mx = cut n lo hi mx fun a b => .ret (.ar l 1 (o + a) (b - a)) := by
 obtain ⟨e, h⟩ := esz_some h;simp [sliceT, h]
theorem b_str_eql {s r : List UInt8} : binS P .eql t (.d (.str s)) (.d (.str r)) = .ok (.d (.bool (decide (s = r)))) := by simp [binS, strBin]
theorem b_str_neq {s r : List UInt8} : binS P .neq t (.d (.str s)) (.d (.str r)) = .ok (.d (.bool (!decide (s = r)))) := by simp [binS, strBin]
theorem b_bool_neq {a b : Bool} (h : P.underlying t = some .bool) : binS P .neq t (.d (.bool a)) (.d (.bool b)) = .ok (.d (.bool (!(a == b)))) := by simp [binS, h]
theorem u_not {b : Bool} : unT .not (.d (.bool b)) = .ok (.d (.bool (!b))) := rfl
attribute [simp] ba_size TQ_ite bi_len bi_append bi_copy bi_delete len_str isSl_slice slLen litLen arLen index_str elem_by elem_in addr_by addr_in addr_ar load_cp load_cps cut_lo cut_hi cut_both slice_ar b_str_eql b_str_neq b_bool_neq u_not byD_length inD_length
theorem wrap_i64 {n : Int} (h : -9223372036854775808 ≤ n) (k : n ≤ 9223372036854775807) : IntKind.i64.wrap n = n := by
 simp only [IntKind.wrap, IntKind.bits, IntKind.signed];simp;omega
theorem wrap_u8 {n : Int} : IntKind.u8.wrap n = n % 256 := by
 simp only [IntKind.wrap, IntKind.bits, IntKind.signed];simp
theorem all_nth {α : Type} [Inhabited α] {s : List α} {p : α → Bool} : s.all p = true ↔ ∀ i < s.length, p (nth s i) = true := by
 rw [List.all_eq_true];constructor
 ·intro h i hi;exact h _ (List.mem_of_getElem? (nth_get hi))
 ·intro h c hc;obtain ⟨i, hi, rfl⟩ := List.getElem_of_mem hc;have := h i hi;have e : nth s i = s[i] := by simp [nth, hi]
  rw [← e]; exact this
theorem conv_int {s d : TypeId} {a : IntKind} {n : Int} (h : (P.underlying s).isSome = true) : convertT P s d (.d (.int a n)) = match P.underlying d with | some (.int k) => .ret (.d (.int k (k.wrap n))) | _ => .no := by
 simp only [convertT, h, if_true, tyInt]
 cases P.underlying d with
 | none => rfl
 | some u => cases u <;> rfl
theorem conv_str {s d : TypeId} {b : List UInt8} (h : P.underlying s = some .string) (hd : tyStr P d = false) (hb : tyBy P d = true) : TQ (convertT P s d (.d (.str b))) S Q ↔
  b.length ≤ 70368744177664 ∧ Q (.ar (.arr S.next) 1 0 b.length) (S.alloc (.arr 1 (byD b) false)) := by
 simp [convertT, h, hd, hb, byD]
theorem alloc_at (S : St) (o : Obj) (i : Nat) : (S.alloc o).obj i = if i = S.next then o else S.obj i := rfl
theorem alloc_next (S : St) (o : Obj) : (S.alloc o).next = S.next + 1 := rfl
theorem alloc_clk (S : St) (o : Obj) : (S.alloc o).clk = S.clk := rfl
theorem set_next (S : St) (i : Nat) (o : Obj) : (S.set i o).next = S.next := rfl
theorem set_clk (S : St) (i : Nat) (o : Obj) : (S.set i o).clk = S.clk := rfl
theorem tick_obj (S : St) (i : Nat) : S.tick.obj i = S.obj i := rfl
theorem tick_next (S : St) : S.tick.next = S.next := rfl
theorem tick_clk (S : St) : S.tick.clk = S.clk + 1 := rfl
theorem empty_obj (i : Nat) : St.empty.obj i = .dead := rfl
theorem empty_next : St.empty.next = 0 := rfl
theorem empty_clk : St.empty.clk = 0 := rfl
attribute [simp] conv_int conv_str alloc_at alloc_next alloc_clk set_obj set_next set_clk tick_obj tick_next tick_clk empty_obj empty_next empty_clk
theorem b_shl {k k' : IntKind} {a b : Int} : binS P .shl t (.d (.int k a)) (.d (.int k' b)) = if b < 0 then .no else .ok (.d (.int k (k.wrap (a * 2 ^ (min b.toNat k.bits))))) := by simp [binS]
theorem b_shr {k k' : IntKind} {a b : Int} : binS P .shr t (.d (.int k a)) (.d (.int k' b)) = if b < 0 then .no else .ok (.d (.int k (a.fdiv (2 ^ (min b.toNat k.bits))))) := by simp [binS]
theorem b_or {k : IntKind} {a b : Int} : binS P .or t (.d (.int k a)) (.d (.int k b)) = .ok (.d (.int k (k.wrap (BitVec.ofInt k.bits a ||| BitVec.ofInt k.bits b).toNat))) := by simp [binS, intBin]
attribute [simp] b_shl b_shr b_or
end Go.VM
end
section
namespace Go.VM
theorem T.log_bind {α β : Type} {f : α → T β} : ∀ {t : T α} {S S1 : St} {a : α}, t.run S = .ok (a, S1) → (t.bind f).log S = ((t.log S).1 ++ ((f a).log S1).1, (t.log S).2 ++ ((f a).log S1).2) := by
 intro t
 induction t with
 | ret a => intro S S1 b h; cases h; simp [T.bind, T.log]
 | no => intro S S1 b h; cases h
 | vac => intro S S1 b h; cases h
 | get id k ih => intro S S1 b h; simp only [T.bind, T.log]; rw [ih _ h]; rfl
 | put id o k ih => intro S S1 b h; simp only [T.bind, T.log]; rw [ih h]; rfl
 | new o k ih => intro S S1 b h; simp only [T.bind, T.log]; rw [ih _ h]; rfl
 | tick k ih => intro S S1 b h; simp only [T.bind, T.log]; rw [ih _ h]
 | leak k ih => intro S S1 b h; simp only [T.bind, T.log]; rw [ih h]
def TL {α : Type} (t : T α) (S : St) (K : α → St → List Nat → List Nat → Prop) : Prop := (t.run S).holds fun r => K r.1 r.2 (t.log S).1 (t.log S).2
section
variable {α β : Type} {S : St} {K : α → St → List Nat → List Nat → Prop}
theorem TL_ret {a : α} : TL (.ret a) S K ↔ K a S [] [] := Iff.rfl
theorem TL_no : TL (.no : T α) S K ↔ False := Iff.rfl
theorem TL_vac : TL (.vac : T α) S K ↔ True := Iff.rfl
theorem TL_get {id : Nat} {k : Obj → T α} : TL (.get id k) S K ↔ TL (k (S.obj id)) S (hold (fun a S' r w => K a S' (id :: r) w) .mk) := Iff.rfl
theorem TL_put {id : Nat} {o : Obj} {k : T α} : TL (.put id o k) S K ↔ TL k (S.set id o) (hold (fun a S' r w => K a S' r (id :: w)) .mk) := Iff.rfl
theorem TL_new {o : Obj} {k : Nat → T α} : TL (.new o k) S K ↔ TL (k S.next) (S.alloc o) (hold (fun a S' r w => K a S' r (S.next :: w)) .mk) := Iff.rfl
theorem TL_tick {k : Nat → T α} : TL (.tick k) S K ↔ TL (k S.clk) S.tick K := Iff.rfl
theorem TL_leak {k : T α} : TL (.leak k) S K ↔ TL k S.leak K := Iff.rfl
theorem TL_bind {t : T β} {f : β → T α} : TL (t.bind f) S K ↔ TL t S (hold (fun b S' r w => TL (f b) S' (hold (fun a S'' r' w' => K a S'' (r ++ r') (w ++ w')) .mk)) .mk) := by
 unfold TL;rw [T.run_bind]
 cases h : t.run S with
 | ok q =>
  obtain ⟨b, S1⟩ := q;rw [T.log_bind h]; exact Iff.rfl
 | no => exact Iff.rfl
 | vac => exact Iff.rfl
theorem TL_nil {f : β → T α} {K : List α → St → List Nat → List Nat → Prop} : TL (T.mapL f []) S K ↔ K [] S [] [] := Iff.rfl
theorem TL_cons {f : β → T α} {b : β} {l : List β} {K : List α → St → List Nat → List Nat → Prop} :
  TL (T.mapL f (b :: l)) S K ↔ TL (f b) S (hold (fun x S1 r w => TL (T.mapL f l) S1 (hold (fun xs S2 r' w' => K (x :: xs) S2 (r ++ r') (w ++ w')) .mk)) .mk) := by
 simp only [T.mapL];rw [TL_bind];simp only [hold];have : ∀ x S1, TL ((T.mapL f l).bind fun bs => T.ret (x :: bs)) S1 = fun K => TL (T.mapL f l) S1 (fun xs S2 r w => K (x :: xs) S2 r w) := by
  intro x S1; funext K;rw [TL_bind];simp [hold, TL_ret]
 simp only [this]
theorem TL_ite {c : Prop} [Decidable c] {x : T α} : TL (if c then x else .no) S K ↔ c ∧ TL x S K := by
 by_cases h : c
 ·simp [h]
 ·simp [h, TL_no]
def quiet (t : T α) : Prop := ∀ S, t.log S = ([], [])
theorem TL_quiet {t : T α} (h : quiet t) : TL t S K ↔ TQ t S (hold (fun a S' => K a S' [] []) .mk) := by
 unfold TL TQ;rw [h S]; exact Iff.rfl
theorem rel4 {q : α → St → List Nat → List Nat → Prop} {t : Tag q} {a : α} {r w : List Nat} : hold q t a S r w ↔ q a S r w := Iff.rfl
end
theorem q_ret {α : Type} (a : α) : quiet (T.ret a) := fun _ => rfl
theorem q_no {α : Type} : quiet (T.no : T α) := fun _ => rfl
theorem q_ofRes {α : Type} (r : Res α) : quiet (T.ofRes r) := by intro S; cases r <;> rfl
variable {cfg : Cfg} {e : Env} {S : St} {P : Program} {t : TypeId}
theorem q_fieldAddr {f : Nat} {x : LV} : quiet (fieldAddrT P t f x) := by
 unfold fieldAddrT
 repeat' split
 all_goals first | exact q_no | exact q_ret _
theorem q_indexAddr {x i : LV} : quiet (indexAddrT P t x i) := by
 have he : ∀ xs es n, quiet (elemOf xs es n) := by
  intro xs es n;unfold elemOf
  repeat' split
  all_goals first | exact q_no | exact q_ret _
 unfold indexAddrT
 repeat' split
 all_goals first | exact q_no | exact q_ret _ | exact he _ _ _
theorem q_slice {x : LV} {lo hi mx : Option LV} : quiet (sliceT P t x lo hi mx) := by
 have hc : ∀ (n : Nat) (k : Nat → Nat → T LV), (∀ a b, quiet (k a b)) → quiet (cut n lo hi mx k) := by
  intro n k hk;unfold cut
  repeat' split
  all_goals first | exact q_no | exact hk _ _
 have hn : ∀ (n : Nat) (k : Nat → Nat → T LV), (∀ a b, quiet (k a b)) → quiet (cut n lo hi none k) := by
  intro n k hk;unfold cut
  repeat' split
  all_goals first | exact q_no | exact hk _ _
 unfold sliceT
 repeat' split
 all_goals first | exact q_no | exact hc _ _ fun _ _ => q_ret _ | exact hn _ _ fun _ _ => q_ret _
theorem q_build {ps : List (Nat × LV)} : quiet (buildT P t ps) := by
 unfold buildT
 repeat' split
 all_goals first | exact q_no | exact q_ret _
theorem q_nilCheck {x : LV} : quiet (nilCheckT x) := by
 unfold nilCheckT
 repeat' split
 all_goals first | exact q_no | exact q_ret _
theorem q_extract {i : Nat} {x : LV} : quiet (extractT i x) := by
 unfold extractT
 repeat' split
 all_goals first | exact q_no | exact q_ret _
theorem q_loadcp {cs : List D} : quiet (loadT P t (.cp cs)) := by
 intro S;simp only [loadT]
 repeat' split
 all_goals rfl
theorem q_len_str {s : List UInt8} : quiet (lenT P t (.d (.str s))) := by
 unfold lenT
 repeat' split
 all_goals first | exact q_no | exact q_ofRes _ | exact q_ret _ | (simp_all; done)
theorem q_len_sl {xs : List D} : quiet (lenT P t (.d (.sl xs))) := by
 unfold lenT
 repeat' split
 all_goals first | exact q_no | exact q_ofRes _ | exact q_ret _ | (simp_all; done)
end Go.VM
end
section
namespace Go.VM
def D1 (cfg : Cfg) (op : Op) (e : Env) (S : St) (K : LV → St → List Nat → List Nat → Prop) : Prop := ∃ n, TL (stepD cfg (callV cfg n) (ev cfg n) e op) S K
def PD (cfg : Cfg) (nx ck i : Nat) (all os : List Oper) (e : Env) (S : St) (L : List Log) (Q : Env → St → List Log → Prop) : Prop :=
 ∃ n, (popsD cfg (callV cfg n) (ev cfg n) nx ck i (os.map (sop all)) e S L).holds fun r => Q r.1 r.2.1 r.2.2
variable {cfg : Cfg} {e : Env} {S : St} {nx ck i : Nat} {L : List Log}
theorem stepD_up {n m : Nat} (h : n ≤ m) (e : Env) (op : Op) (S : St) : TLe (stepD cfg (callV cfg n) (ev cfg n) e op) (stepD cfg (callV cfg m) (ev cfg m) e op) S := stepD_le (up h).2 (up h).1 e op S
theorem popsD_up {n m : Nat} (h : n ≤ m) (os : List SOp) (i : Nat) (e : Env) (S : St) (L : List Log) : Le (popsD cfg (callV cfg n) (ev cfg n) nx ck i os e S L) (popsD cfg (callV cfg m) (ev cfg m) nx ck i os e S L) := popsD_le (up h).2 (up h).1 nx ck os i e S L
theorem pd_one {os : List SOp} {d : Option Tmp} {op : Op} {Q : Env → St → List Log → Prop} :
  (∃ n, (((stepD cfg (callV cfg n) (ev cfg n) e op).run (startD nx ck i S)).bind fun r => if r.2.next ≤ nx + 100 * i + 100 ∧ r.2.clk ≤ ck + 100 * i + 100 then
    popsD cfg (callV cfg n) (ev cfg n) nx ck (i + 1) os (setD e d r.1) r.2 (⟨i, ((stepD cfg (callV cfg n) (ev cfg n) e op).log (startD nx ck i S)).1, ((stepD cfg (callV cfg n) (ev cfg n) e op).log (startD nx ck i S)).2⟩ :: L) else .no).holds fun r => Q r.1 r.2.1 r.2.2) ↔
  D1 cfg op e (startD nx ck i S) fun r S' rd wr => (S'.next ≤ nx + 100 * i + 100 ∧ S'.clk ≤ ck + 100 * i + 100) ∧
   ∃ m, (popsD cfg (callV cfg m) (ev cfg m) nx ck (i + 1) os (setD e d r) S' (⟨i, rd, wr⟩ :: L)).holds fun r => Q r.1 r.2.1 r.2.2 := by
 constructor
 ·rintro ⟨n, h⟩;refine ⟨n, ?_⟩;unfold TL;rw [holds_bind] at h;refine holds_mono (fun r hr => ?_) h;split at hr
  ·rename_i hc; exact ⟨hc, n, hr⟩
  ·exact hr.elim
 ·rintro ⟨n, h⟩;unfold TL at h
  cases hn : (stepD cfg (callV cfg n) (ev cfg n) e op).run (startD nx ck i S) with
  | ok r =>
   rw [hn] at h;obtain ⟨hc, m, hm⟩ := h;refine ⟨max n m, ?_⟩;rcases stepD_up (cfg := cfg) (Nat.le_max_left n m) e op (startD nx ck i S) with h1 | ⟨h1, h2⟩
   ·rw [hn] at h1; cases h1
   ·rw [h1, h2, hn, holds_bind];show (if r.2.next ≤ nx + 100 * i + 100 ∧ r.2.clk ≤ ck + 100 * i + 100 then _ else _ : Res _).holds _;rw [if_pos hc];exact holds_le (popsD_up (Nat.le_max_right n m) _ _ _ _ _) hm
  | no => rw [hn] at h; exact h.elim
  | vac => exact ⟨n, by rw [hn]; trivial⟩
theorem D_nil {all : List Oper} {t : Tag ([] : List Oper)} {Q : Env → St → List Log → Prop} : PD cfg nx ck i all (hold [] t) e S L Q ↔ Q e S L := ex_const
theorem D_free {all : List Oper} {d : Option Tmp} {op : Op} {ty : TypeId} {p : String} {a : Array Edge} {os : List Oper} {t : Tag (Oper.mk d op ty p a none :: os)} {Q : Env → St → List Log → Prop} :
  PD cfg nx ck i all (hold (Oper.mk d op ty p a none :: os) t) e S L Q ↔ D1 cfg op e (startD nx ck i S) (hold (fun r S' rd wr => (S'.next ≤ nx + 100 * i + 100 ∧ S'.clk ≤ ck + 100 * i + 100) ∧
   PD cfg nx ck (i + 1) all (hold os .mk) (setD e d r) S' (⟨i, rd, wr⟩ :: L) Q) .mk) := pd_one
theorem D_guard {all : List Oper} {d : Option Tmp} {op : Op} {ty : TypeId} {p : String} {a : Array Edge} {os : List Oper} {g : Nat} {w : Bool} {t : Tag (Oper.mk d op ty p a (some (g, w)) :: os)} {Q : Env → St → List Log → Prop} :
  PD cfg nx ck i all (hold (Oper.mk d op ty p a (some (g, w)) :: os) t) e S L Q ↔ whenG w e (gslot all g) (hold (fun b => fork (b = w) (holdP (D1 cfg op e (startD nx ck i S) (hold (fun r S' rd wr => (S'.next ≤ nx + 100 * i + 100 ∧ S'.clk ≤ ck + 100 * i + 100) ∧
   PD cfg nx ck (i + 1) all (hold os .mk) (setD e d r) S' (⟨i, rd, wr⟩ :: L) Q) .mk)) .mk) (holdP (PD cfg nx ck (i + 1) all (hold os .mk) (setD e d (.tup [])) S L Q) .mk)) .mk) := by
 unfold whenG
 cases hg : gslot all g with
 | some s =>
  have hg' : (all[g]?).bind (·.dst) = some s := hg;have key : PD cfg nx ck i all (hold (Oper.mk d op ty p a (some (g, w)) :: os) t) e S L Q ↔ ∃ n, (match wants e (some (some s, w)) with
    | some true => ((stepD cfg (callV cfg n) (ev cfg n) e op).run (startD nx ck i S)).bind fun r => if r.2.next ≤ nx + 100 * i + 100 ∧ r.2.clk ≤ ck + 100 * i + 100 then
      popsD cfg (callV cfg n) (ev cfg n) nx ck (i + 1) (os.map (sop all)) (setD e d r.1) r.2 (⟨i, ((stepD cfg (callV cfg n) (ev cfg n) e op).log (startD nx ck i S)).1, ((stepD cfg (callV cfg n) (ev cfg n) e op).log (startD nx ck i S)).2⟩ :: L) else .no
    | some false => popsD cfg (callV cfg n) (ev cfg n) nx ck (i + 1) (os.map (sop all)) (setD e d (.tup [])) S L
    | none => .no).holds fun r => Q r.1 r.2.1 r.2.2 := by
   unfold PD hold;simp only [List.map_cons, sop, Option.map_some, popsD, hg'];exact Iff.rfl
  rw [key];show _ ↔ whenW w (e s) _;unfold whenW;simp only [wants];generalize e s = v
  cases v with
  | tup vs =>
   cases vs with
   | nil =>
    have h : ¬ (!w) = w := by cases w <;> decide
    show _ ↔ fork ((!w) = w) _ _;simp only [fork, h, not_false_eq_true, true_implies, false_implies, true_and];exact Iff.rfl
   | cons _ _ => exact ex_const
  | d v =>
   cases v with
   | bool b =>
    by_cases h : b = w
    ·subst h;simp only [beq_self_eq_true];rw [pd_one];show _ ↔ fork (b = b) _ _;simp only [fork, true_implies, not_true, false_implies, and_true];exact Iff.rfl
    ·have hb : (b == w) = false := by simp [h]
     simp only [hb];show _ ↔ fork (b = w) _ _;simp only [fork, h, not_false_eq_true, true_implies, false_implies, true_and];exact Iff.rfl
   | _ => exact ex_const
  | _ => exact ex_const
 | none =>
  have hg' : (all[g]?).bind (·.dst) = none := hg;unfold PD hold;simp only [List.map_cons, sop, Option.map_some, popsD, hg', wants];exact ex_const
theorem X_draw {id : Nat} {l : List Oper} {t : Tag (Code.region id l.toArray true)} {Q : Ex → Env → St → Prop} (hd : okDraw l = true)
  (h : PD cfg S.next S.clk 0 (hold l .mk) (hold l .mk) e S [] (hold (fun e' S' L => indep (befs l []) L ∧ Q .normal e' ⟨S'.obj, S.next + 100 * l.length, S.clk + 100 * l.length, S'.esc⟩) .mk)) :
  PX cfg (hold (.region id l.toArray true) t) e S Q := by
 obtain ⟨n, h⟩ := h;refine ⟨n, ?_⟩;show (pexec cfg (callV cfg n) (ev cfg n) n (.region id l.toArray true) e S).holds _;simp only [pexec];rw [holds_bind];refine holds_mono (fun r hr => ?_) h;have hr' : indep (befs l []) r.2.2 ∧ Q .normal r.1 ⟨r.2.1.obj, S.next + 100 * l.length, S.clk + 100 * l.length, r.2.1.esc⟩ := hr;have hc : okDraw l.toArray.toList = true ∧ indep (befs l.toArray.toList []) r.2.2 := ⟨hd, hr'.1⟩;rw [if_pos hc];exact hr'.2
variable {K : LV → St → List Nat → List Nat → Prop}
theorem D1_op {op : Op} (h : callee e op = none) : D1 cfg op e S K ↔ TL (stepT cfg.P e op) S K := by
 unfold D1 stepD;rw [h];exact ⟨fun ⟨_, h⟩ => h, fun h => ⟨0, h⟩⟩
theorem D1_quiet {op : Op} {x : T LV} (h : callee e op = none) (hx : stepT cfg.P e op = x) (hq : quiet x) : D1 cfg op e S K ↔ TQ x S (hold (fun a S' => K a S' [] []) .mk) := by
 rw [D1_op h, hx, TL_quiet hq]
theorem D1_move {x : Operand} : D1 cfg (.move x) e S K ↔ K (Operand.lv e x) S [] [] := D1_op rfl
theorem D1_assign {x : Operand} : D1 cfg (.assign x) e S K ↔ K (Operand.lv e x) S [] [] := D1_op rfl
theorem D1_binOp {op : BinOp} {t u : TypeId} {x y : Operand} : D1 cfg (.binOp op t x y u) e S K ↔ (binT cfg.P op t (nilConst y) (Operand.lv e x) (Operand.lv e y)).holds (hold (fun v => K v S [] []) .mk) :=
 (D1_quiet (x := T.ofRes (binT cfg.P op t (nilConst y) (Operand.lv e x) (Operand.lv e y))) rfl rfl (q_ofRes _)).trans TQ_ofRes
theorem D1_unOp {op : UnOp} {t : TypeId} {x : Operand} : D1 cfg (.unOp op t x) e S K ↔ (unT op (Operand.lv e x)).holds (hold (fun v => K v S [] []) .mk) :=
 (D1_quiet (x := T.ofRes (unT op (Operand.lv e x))) rfl rfl (q_ofRes _)).trans TQ_ofRes
theorem D1_pick {c a b : Operand} : D1 cfg (.pick c a b) e S K ↔ whenB (Operand.lv e c) (hold (fun t => fork (t = true) (holdP (K (Operand.lv e a) S [] []) .mk) (holdP (K (Operand.lv e b) S [] []) .mk)) .mk) := by
 rw [D1_op rfl];simp only [stepT, whenB];generalize Operand.lv e c = v
 cases v with
 | d v =>
  cases v with
  | bool t =>
   show K (if t = true then Operand.lv e a else Operand.lv e b) S [] [] ↔ fork (t = true) _ _
   cases t <;> simp [fork, holdP]
  | _ => exact Iff.rfl
 | _ => exact Iff.rfl
theorem D1_fieldAddr {t : TypeId} {x : Operand} {f : Nat} : D1 cfg (.fieldAddr t x f) e S K ↔ TQ (fieldAddrT cfg.P t f (Operand.lv e x)) S (hold (fun a S' => K a S' [] []) .mk) := D1_quiet rfl rfl q_fieldAddr
theorem D1_indexAddr {t : TypeId} {x i : Operand} : D1 cfg (.indexAddr t x i) e S K ↔ TQ (indexAddrT cfg.P t (Operand.lv e x) (Operand.lv e i)) S (hold (fun a S' => K a S' [] []) .mk) := D1_quiet rfl rfl q_indexAddr
theorem D1_slice {t : TypeId} {x : Operand} {lo hi : Option Operand} : D1 cfg (.slice t x lo hi none) e S K ↔ TQ (sliceT cfg.P t (Operand.lv e x) (lo.map (Operand.lv e)) (hi.map (Operand.lv e)) none) S (hold (fun a S' => K a S' [] []) .mk) :=
 D1_quiet rfl (by simp [stepT]) q_slice
theorem D1_build {t : TypeId} {ps : Array (Nat × Operand)} : D1 cfg (.build t ps) e S K ↔ TQ (buildT cfg.P t (ps.toList.map fun p => (p.1, Operand.lv e p.2))) S (hold (fun a S' => K a S' [] []) .mk) := D1_quiet rfl rfl q_build
theorem D1_nilCheck {x : Operand} : D1 cfg (.nilCheck x) e S K ↔ TQ (nilCheckT (Operand.lv e x)) S (hold (fun a S' => K a S' [] []) .mk) := D1_quiet rfl rfl q_nilCheck
theorem D1_extract {x : Operand} {i : Nat} : D1 cfg (.extract x i) e S K ↔ TQ (extractT i (Operand.lv e x)) S (hold (fun a S' => K a S' [] []) .mk) := D1_quiet rfl rfl q_extract
theorem D1_load {t : TypeId} {x : Operand} : D1 cfg (.load t x) e S K ↔ TL (loadT cfg.P t (Operand.lv e x)) S K := D1_op rfl
theorem D1_store {t : TypeId} {a v : Operand} : D1 cfg (.store t a v) e S K ↔ TL (storeT cfg.P t (Operand.lv e v) (Operand.lv e a)) S K := D1_op rfl
theorem D1_convert {s d : TypeId} {x : Operand} : D1 cfg (.convert s d x) e S K ↔ TL (convertT cfg.P s d (Operand.lv e x)) S K := D1_op rfl
theorem D1_buildSlice {t : TypeId} {n : Nat} {ps : Array (Nat × Operand)} : D1 cfg (.buildSlice t n ps) e S K ↔ TL (buildSliceT cfg.P t n (ps.toList.map fun p => (p.1, Operand.lv e p.2))) S K := D1_op rfl
theorem D1_builtin {b : Builtin} {args : Array Operand} {ts : Array TypeId} : D1 cfg (.call ⟨.builtin b, args, ts⟩) e S K ↔ TL (builtinT cfg.P b ts (args.toList.map (Operand.lv e))) S K := D1_op rfl
theorem D1_lookup {t : TypeId} {m i : Operand} {ok : Bool} : D1 cfg (.lookup t m i ok) e S K ↔ TL (lookupT cfg.P t (Operand.lv e m) (Operand.lv e i) ok) S K := D1_op rfl
theorem D1_alloc {t : TypeId} : D1 cfg (.alloc t) e S K ↔ TL (allocT cfg.P t) S K := D1_op rfl
theorem D1_makeSlice {t : TypeId} {n c : Operand} : D1 cfg (.makeSlice t n c) e S K ↔ TL (makeSliceT cfg.P t (Operand.lv e n) (Operand.lv e c)) S K := D1_op rfl
theorem D1_val {f : FuncId} {args : Array Operand} {ts : Array TypeId} (h : cfg.mode f = .val) : D1 cfg (.call ⟨.value (.func f), args, ts⟩) e S K ↔
  TL (T.mapL toD (args.toList.map (Operand.lv e))) S (hold (fun ds S' r w => VQ cfg f ds (hold (fun v => dataV v = true ∧ K v S' r w) .mk)) .mk) := by
 have hc : callee e (.call ⟨.value (.func f), args, ts⟩) = some (f, args.toList.map (Operand.lv e)) := by simp [callee, Operand.lv]
 unfold D1 stepD;simp only [hc, callT, h];have : ∀ n, TL ((T.mapL toD (args.toList.map (Operand.lv e))).bind fun ds => (T.ofRes (callV cfg n f ds)).bind fun r => if dataV r = true then T.ret r else T.no) S K ↔
   TL (T.mapL toD (args.toList.map (Operand.lv e))) S fun ds S' r w => (callV cfg n f ds).holds fun v => dataV v = true ∧ K v S' r w := by
  intro n;rw [TL_bind];have : ∀ ds S' r w, TL ((T.ofRes (callV cfg n f ds)).bind fun r => if dataV r = true then T.ret r else T.no) S' (fun a S'' r' w' => K a S'' (r ++ r') (w ++ w')) ↔ (callV cfg n f ds).holds fun v => dataV v = true ∧ K v S' r w := by
   intro ds S' r w
   cases callV cfg n f ds with
   | ok v =>
    show TL (if dataV v = true then T.ret v else T.no) S' _ ↔ _;rw [TL_ite];simp [TL_ret, holds_ok]
   | no => exact Iff.rfl
   | vac => exact Iff.rfl
  simp only [hold, this]
 simp only [this];unfold TL VQ hold
 cases (T.mapL toD (args.toList.map (Operand.lv e))).run S with
 | ok r => exact Iff.rfl
 | no => exact ⟨fun ⟨_, h⟩ => h, fun h => ⟨0, h⟩⟩
 | vac => exact ⟨fun ⟨_, h⟩ => h, fun h => ⟨0, h⟩⟩
attribute [simp] TL_ret TL_no TL_vac TL_get TL_put TL_new TL_tick TL_leak TL_bind TL_nil TL_cons TL_ite rel4 D_nil D_free D_guard D1_move D1_assign D1_binOp D1_unOp D1_pick D1_fieldAddr D1_indexAddr D1_slice D1_build D1_nilCheck D1_extract D1_load D1_store D1_convert D1_buildSlice D1_builtin D1_lookup D1_alloc D1_makeSlice
theorem relL {q : Env → St → List Log → Prop} {t : Tag q} : hold q t e S L ↔ q e S L := Iff.rfl
theorem startD_obj {S : St} {j : Nat} : (startD nx ck i S).obj j = S.obj j := rfl
theorem startD_start {nx' ck' j : Nat} : startD nx ck i (startD nx' ck' j S) = startD nx ck i S := rfl
theorem startD_objs : (startD nx ck i S).obj = S.obj := rfl
theorem startD_esc : (startD nx ck i S).esc = S.esc := rfl
theorem startD_next {S : St} : (startD nx ck i S).next = nx + 100 * i := rfl
theorem startD_clk {S : St} : (startD nx ck i S).clk = ck + 100 * i := rfl
section
variable {P : Program} {t s d : TypeId}
theorem L_loadcp {cs : List D} : TL (loadT P t (.cp cs)) S K ↔ TQ (loadT P t (.cp cs)) S (hold (fun a S' => K a S' [] []) .mk) := TL_quiet q_loadcp
theorem L_len_str {b : List UInt8} : TL (lenT P t (.d (.str b))) S K ↔ TQ (lenT P t (.d (.str b))) S (hold (fun a S' => K a S' [] []) .mk) := TL_quiet q_len_str
theorem L_len_sl {xs : List D} : TL (lenT P t (.d (.sl xs))) S K ↔ TQ (lenT P t (.d (.sl xs))) S (hold (fun a S' => K a S' [] []) .mk) := TL_quiet q_len_sl
end
theorem meets_nil {a : List Nat} : meets a [] ↔ False := by simp [meets]
theorem meets_cons {x : Nat} {a b : List Nat} : meets (x :: a) b ↔ x ∈ b ∨ meets a b := by simp [meets]
theorem nil_meets {a : List Nat} : meets [] a ↔ False := by simp [meets]
attribute [simp] relL startD_start startD_objs startD_esc startD_obj startD_next startD_clk L_loadcp L_len_str L_len_sl meets_nil nil_meets meets_cons Log.clash indep
end Go.VM
end
section
namespace Go.VM
variable {P : Program} {t : TypeId} {S : St}
theorem St.ext' {S S' : St} (h : S.obj = S'.obj) (h1 : S.next = S'.next) (h2 : S.clk = S'.clk) (h3 : S.esc = S'.esc) : S = S' := by
 cases S; cases S'; simp at h h1 h2 h3; subst h h1 h2 h3; rfl
theorem set_alloc (S : St) (o o' : Obj) : (S.alloc o).set S.next o' = S.alloc o' := by
 refine St.ext' (funext fun i => ?_) rfl rfl rfl;simp only [set_obj, alloc_at];split <;> rfl
theorem set_set (S : St) (i : Nat) (o o' : Obj) : (S.set i o).set i o' = S.set i o' := by
 refine St.ext' (funext fun j => ?_) rfl rfl rfl;simp only [set_obj];split <;> rfl
theorem set_alloc0 (o o' : Obj) : (St.empty.alloc o).set 0 o' = St.empty.alloc o' := set_alloc St.empty o o'
def onCells {α : Type} (o : Obj) (k : List LV → T α) : T α := match o with | .cells cs => k cs | _ => .no
theorem onCells_cells {α : Type} {cs : List LV} {k : List LV → T α} : onCells (.cells cs) k = k cs := rfl
theorem load_ptr {id off : Nat} : loadT P t (.ptr id off) = .get id fun o => onCells o fun cs => match tyAgg P t with
   | some true => if off + tySize P t ≤ cs.length then .ret (.agg (fetchL id off ((cs.drop off).take (tySize P t)))) else .no
   | some false => match cs[off]? with
    | some c => .ret (fetch id off c)
    | none => .no
   | none => .no := by
 simp only [loadT];congr
theorem store_ptr {v : LV} {id off : Nat} : storeT P t v (.ptr id off) = if (tyAgg P t).isSome ∧ v.cells.length = tySize P t then (storeCellsT id off v.cells).bind fun _ => .ret .un else .no := rfl
theorem storeCell_eq {id off : Nat} {v : LV} : storeCellT id off v = (stow id v).bind fun c => .get id fun o => onCells o fun cs => if off < cs.length then .put id (.cells (cs.set off c)) (.ret ()) else .no := by
 unfold storeCellT;congr
theorem storeCells_nil {id off : Nat} : storeCellsT id off [] = .ret () := rfl
theorem storeCells_cons {id off : Nat} {v : LV} {vs : List LV} : storeCellsT id off (v :: vs) = (storeCellT id off v).bind fun _ => storeCellsT id (off + 1) vs := rfl
theorem fieldAddr_ptr {id off f : Nat} : fieldAddrT P t f (.ptr id off) = match tyField P t f with | some (o, _, n) => if n = 0 then .no else .ret (.ptr id (off + o)) | none => .no := by
 unfold fieldAddrT
 cases tyField P t f <;> rfl
theorem stow_int {id : Nat} {k : IntKind} {n : Int} : stow id (.d (.int k n)) = .ret (.d (.int k n)) := rfl
theorem stow_bool {id : Nat} {b : Bool} : stow id (.d (.bool b)) = .ret (.d (.bool b)) := rfl
theorem stow_str {id : Nat} {b : List UInt8} : stow id (.d (.str b)) = .ret (.d (.str b)) := rfl
theorem stow_sl {id : Nat} {b : List D} : stow id (.d (.sl b)) = .ret (.d (.sl b)) := rfl
theorem stow_lit {id : Nat} {b : List D} : stow id (.lit b) = .ret (.lit b) := rfl
theorem fetch_d {id off : Nat} {x : D} : fetch id off (.d x) = .d x := rfl
theorem fetch_lit {id off : Nat} {x : List D} : fetch id off (.lit x) = .lit x := rfl
theorem fetch_own {id off ver sz : Nat} {x : List D} : fetch id off (.own ver sz x false) = .ar (.cell id off ver) sz 0 x.length := rfl
theorem box_eq {v : LV} : boxT v = .new (.cells (List.replicate v.cells.length .un)) fun id => (storeCellsT id 0 v.cells).bind fun _ => .ret (.ptr id 0) := rfl
theorem cells_agg {cs : List LV} : (LV.agg cs).cells = cs := rfl
theorem cells_dagg {cs : List D} : (LV.d (.agg cs)).cells = cs.map .d := rfl
theorem cells_int {k : IntKind} {n : Int} : (LV.d (.int k n)).cells = [.d (.int k n)] := rfl
theorem cells_str {b : List UInt8} : (LV.d (.str b)).cells = [.d (.str b)] := rfl
theorem cells_bool {b : Bool} : (LV.d (.bool b)).cells = [.d (.bool b)] := rfl
theorem cells_sl {b : List D} : (LV.d (.sl b)).cells = [.d (.sl b)] := rfl
theorem cells_lit {b : List D} : (LV.lit b).cells = [.lit b] := rfl
theorem cells_ar {l : Loc} {a b c : Nat} : (LV.ar l a b c).cells = [.ar l a b c] := rfl
def ezero (P : Program) (t : TypeId) : Bool := match tyElem P t with | some (e, _) => (zeroCells P e).isSome | none => false
theorem bslice {n : Nat} {ps : List (Nat × LV)} {Q : LV → St → Prop} (h : esz P t = some 1) (hz : ezero P t = true) :
  TQ (buildSliceT P t n ps) S Q ↔ (ps.map (·.1) = List.range n ∧ n ≤ 16777216) ∧ TQ (T.mapL toD (ps.map (·.2))) S (hold (fun xs S' => sized 1 xs ∧ Q (.lit xs) S') .mk) := by
 obtain ⟨e, he⟩ := esz_some h;have hz' : (zeroCells P e).isSome = true := by unfold ezero at hz; rw [he] at hz; exact hz
 simp only [buildSliceT, he];rw [TQ_ite, mapL_snd];simp only [hz', and_true, Nat.mul_one];rw [H_bind];have : (fun (b : List D) (S' : St) => TQ (if sized 1 b then T.ret (LV.lit b) else T.no) S' Q) = fun xs S' => sized 1 xs ∧ Q (.lit xs) S' := by
  funext xs S';rw [TQ_ite, TQ_ret]
 rw [this];simp [and_assoc]
theorem sized_cons {x : D} {l : List D} : sized 1 (x :: l) ↔ x.cells.length = 1 ∧ sized 1 l := by simp [sized]
theorem dcells_int {k : IntKind} {n : Int} : (D.int k n).cells = [.int k n] := rfl
def onMap {α : Type} (o : Obj) (k : Option IntKind → List (D × D) → T α) : T α := match o with | .mp ks es => k ks es | _ => .no
theorem onMap_mp {α : Type} {ks : Option IntKind} {es : List (D × D)} {k : Option IntKind → List (D × D) → T α} : onMap (.mp ks es) k = k ks es := rfl
theorem lookup_mp {id : Nat} {i : LV} {ok : Bool} : lookupT P t (.mp id) i ok = match tyMap P t, dOf? i with
 | some (tk, te), some k => match tyKey P tk, zeroM P te with
  | some ks, some z => if k.isKey ks then .get id fun o => onMap o fun ks' es => if ks = ks' then .ret (found (look es k) z ok) else .no else .no
  | _, _ => .no
 | _, _ => .no := by
 unfold lookupT
 cases tyMap P t with
 | none => rfl
 | some p =>
  cases dOf? i with
  | none => rfl
  | some k =>
   obtain ⟨tk, te⟩ := p;simp only
   cases tyKey P tk with
   | none => rfl
   | some ks =>
    cases zeroM P te with
    | none => rfl
    | some z =>
     simp only;split
     ·congr
     ·rfl
theorem mapUpdate_mp {id : Nat} {i v : LV} : mapUpdateT P t (.mp id) i v = match tyMap P t, dOf? i with
 | some (tk, _), some k => match tyKey P tk with
  | some ks => if k.isKey ks then (toD v).bind fun x => .get id fun o => onMap o fun ks' es => if ks = ks' then .put id (.mp ks (upd es k x)) (.ret .un) else .no else .no
  | none => .no
 | _, _ => .no := by
 unfold mapUpdateT
 cases tyMap P t with
 | none => rfl
 | some p =>
  cases dOf? i with
  | none => rfl
  | some k =>
   obtain ⟨tk, te⟩ := p;simp only
   cases tyKey P tk with
   | none => rfl
   | some ks =>
    simp only;split
    ·congr
    ·rfl
def setD' (l : List Int) : List (D × D) := l.map fun n => (.int .i64 n, .bool true)
theorem setD_nil' : setD' [] = [] := rfl
theorem same_int {a b : Int} : (D.int .i64 a).same (.int .i64 b) = decide (a = b) := by simp [D.same]
theorem look_set (l : List Int) (n : Int) : look (setD' l) (.int .i64 n) = if n ∈ l then some (.bool true) else none := by
 induction l with
 | nil => rfl
 | cons m l ih =>
  have : look (setD' (m :: l)) (.int .i64 n) = if n = m then some (.bool true) else look (setD' l) (.int .i64 n) := by
   simp only [look, setD', List.map_cons, List.find?, same_int];by_cases h : n = m <;> simp [h]
  rw [this, ih];by_cases h : n = m
  ·simp [h]
  ·simp [h]
theorem upd_set (l : List Int) (n : Int) (h : n ∉ l) : upd (setD' l) (.int .i64 n) (.bool true) = setD' (l ++ [n]) := by
 induction l with
 | nil => rfl
 | cons m l ih =>
  have hm : n ≠ m := fun e => h (by simp [e])
  have hl : n ∉ l := fun e => h (by simp [e])
  have : upd (setD' (m :: l)) (.int .i64 n) (.bool true) = (.int .i64 m, .bool true) :: upd (setD' l) (.int .i64 n) (.bool true) := by
   simp only [setD', List.map_cons, upd, same_int];simp [hm]
  rw [this, ih hl]; rfl
attribute [simp] set_alloc set_set set_alloc0 onCells_cells load_ptr store_ptr storeCell_eq storeCells_nil storeCells_cons fieldAddr_ptr stow_int stow_bool stow_str stow_sl stow_lit fetch_d fetch_lit fetch_own box_eq cells_agg cells_dagg cells_int cells_str cells_bool cells_sl cells_lit cells_ar bslice sized_cons dcells_int onMap_mp lookup_mp mapUpdate_mp
end Go.VM
end
section
namespace Go.VM
variable {P : Program} {t : TypeId} {S : St} {Q : LV → St → Prop}
def u8 (n : Int) : UInt8 := UInt8.ofNat (n % 256).toNat
theorem u8_val (n : Int) : ((u8 n).toNat : Int) = n % 256 := by
 simp [u8];omega
theorem wrap_by {n : Int} : IntKind.u8.wrap n = ((u8 n).toNat : Int) := by rw [wrap_u8, u8_val]
def zeros (n : Nat) : List UInt8 := List.replicate n 0
theorem zeros_length (n : Nat) : (zeros n).length = n := by simp [zeros]
def mkBy (P : Program) (t : TypeId) : Bool := match tyElem P t with
 | some (e, es) => es == 1 && tyBytes P e == 1 && (match zeroD P e with | some (.int .u8 0) => true | _ => false)
 | none => false
theorem mkBy_spec (h : mkBy P t = true) : ∃ e, tyElem P t = some (e, 1) ∧ tyBytes P e = 1 ∧ zeroD P e = some (.int .u8 0) := by
 unfold mkBy at h;split at h
 ·rename_i e es he;simp only [Bool.and_eq_true, beq_iff_eq] at h;obtain ⟨⟨rfl, h2⟩, h3⟩ := h;refine ⟨e, he, h2, ?_⟩;split at h3
  ·assumption
  ·cases h3
 ·cases h
theorem rep_zero (n : Nat) : List.replicate n (D.int .u8 0) = byD (zeros n) := by simp [byD, zeros]
theorem mk_by {k k' : IntKind} {n c : Int} (h : mkBy P t = true) : TQ (makeSliceT P t (.d (.int k n)) (.d (.int k' c))) S Q ↔ (0 ≤ n ∧ n ≤ c ∧ c ≤ 70368744177664) ∧ Q (.ar (.arr S.next) 1 0 n.toNat) (S.alloc (.arr 1 (byD (zeros n.toNat)) false)) := by
 obtain ⟨e, he, h2, h3⟩ := mkBy_spec h;simp only [makeSliceT, he, h3, h2];rw [TQ_ite, TQ_new, TQ_ret, rep_zero];simp [D.cells, and_assoc]
def st1 (id i : Nat) (c : UInt8) (o : Obj) : T LV := match o with
 | .arr sz xs fz => if fz then .no else match xs[i]? with
   | some x => if 0 + [D.int .u8 c.toNat].length ≤ x.cells.length then (setT (.arr id) sz (xs.set i (putCells x 0 [.int .u8 c.toNat])) false).bind fun _ => .ret .un else .no
   | none => .no
 | _ => .no
theorem store_by {id i s : Nat} {c : UInt8} (ht : tyAgg P t = some false) (hs : tySize P t = 1) : storeT P t (.d (.int .u8 c.toNat)) (.elp (.arr id) s i 0) = .get id fun o => st1 id i c o := by
 simp only [storeT, ht, hs, cells_int, List.length_cons, List.length_nil, Option.isSome_some, and_self, if_true];rfl
def cp1 (id lo n : Nat) (ys : List D) (o : Obj) : T LV := match o with
 | .arr _ xs fz => if fz then .no else if lo + n ≤ xs.length then
   (setT (.arr id) 1 (xs.take lo ++ ys.take n ++ xs.drop (lo + min ys.length n)) false).bind fun _ => .ret (.d (.int .i64 (min ys.length n : Nat))) else .no
 | _ => .no
theorem cp1_eq {id lo n : Nat} {b ys : List UInt8} : cp1 id lo n (byD ys) (.arr 1 (byD b) false) = if lo + n ≤ b.length then
  .put id (.arr 1 (byD (b.take lo ++ ys.take n ++ b.drop (lo + min ys.length n))) false) (.ret (.d (.int .i64 (min ys.length n : Nat)))) else .no := by
 have : (byD b).take lo ++ (byD ys).take n ++ (byD b).drop (lo + min ys.length n) = byD (b.take lo ++ ys.take n ++ b.drop (lo + min ys.length n)) := by simp [byD, List.map_take, List.map_drop]
 simp only [cp1, Bool.false_eq_true, if_false, byD_length, this];rfl
theorem copy_by1 {ts : Array TypeId} {id lo n : Nat} {ys : List UInt8} (ht : (ts[0]?).bind (esz P) = some 1) : copyT P ts (.ar (.arr id) 1 lo n) (.d (.sl (byD ys))) = .get id fun o => cp1 id lo n (byD ys) o := by
 cases h0 : ts[0]? with
 | none => rw [h0] at ht; cases ht
 | some t =>
  rw [h0] at ht;obtain ⟨e, he⟩ := esz_some ht;simp only [copyT, h0, Option.bind_some, he, srcT, byD_sized, if_true];rfl
theorem copy_str1 {ts : Array TypeId} {id lo n : Nat} {ys : List UInt8} (ht : (ts[0]?).bind (esz P) = some 1) : copyT P ts (.ar (.arr id) 1 lo n) (.d (.str ys)) = .get id fun o => cp1 id lo n (byD ys) o := by
 cases h0 : ts[0]? with
 | none => rw [h0] at ht; cases ht
 | some t =>
  rw [h0] at ht;obtain ⟨e, he⟩ := esz_some ht;simp only [copyT, h0, Option.bind_some, he, srcT, if_true];rfl
attribute [simp] zeros_length wrap_by mk_by store_by cp1_eq copy_by1 copy_str1
end Go.VM
end
section
namespace Go.VM
variable {P : Program} {t : TypeId} {S : St} {α : Type}
def rowD {α : Type} (enc : α → D) (l : List α) : List D := l.map enc
theorem rowD_length {enc : α → D} {l : List α} : (rowD enc l).length = l.length := by simp [rowD]
theorem rowD_get [Inhabited α] {enc : α → D} {l : List α} {i : Nat} : (rowD enc l)[i]? = if i < l.length then some (enc (nth l i)) else none := by
 by_cases h : i < l.length
 ·rw [rowD, List.getElem?_map, nth_get h, if_pos h]; rfl
 ·rw [rowD, List.getElem?_map, nth_none h, if_neg h]; rfl
theorem rowD_snoc {enc : α → D} {a : List α} {x : α} : rowD enc (a ++ [x]) = rowD enc a ++ [enc x] := by simp [rowD]
theorem rowD_one {enc : α → D} {x : α} : rowD enc [x] = [enc x] := rfl
theorem rowD_sub {enc : α → D} {l : List α} {i n : Nat} : sub (rowD enc l) i n = rowD enc ((l.drop i).take n) := by simp [sub, rowD, List.map_take, List.map_drop]
theorem rowD_set {enc : α → D} {l : List α} {i : Nat} {x : α} : (rowD enc l).set i (enc x) = rowD enc (l.set i x) := by simp [rowD, List.map_set]
theorem rowD_sized {enc : α → D} {l : List α} {n : Nat} (h : ∀ a, (enc a).cells.length = n) : sized n (rowD enc l) := by
 intro x hx;obtain ⟨c, _, rfl⟩ := List.mem_map.1 hx;exact h c
theorem sizedN_nil {n : Nat} : sized n [] ↔ True := by simp [sized]
theorem sizedN_cons {n : Nat} {x : D} {l : List D} : sized n (x :: l) ↔ x.cells.length = n ∧ sized n l := by simp [sized]
theorem sizedN_by {b : List UInt8} : sized 1 (byD b) ↔ True := iff_true_intro (byD_sized b)
theorem sizedN_in {b : List Int} : sized 1 (inD b) ↔ True := iff_true_intro (inD_sized b)
theorem fits_iff {n b : Nat} : fits n b ↔ n ≤ 70368744177664 ∧ n * b ≤ 70368744177664 := Iff.rfl
def onO {β γ : Type} (o : Option β) (k : β → T γ) : T γ := match o with | some b => k b | none => .no
theorem onO_some {β γ : Type} {b : β} {k : β → T γ} : onO (some b) k = k b := rfl
theorem onO_none {β γ : Type} {k : β → T γ} : onO none k = .no := rfl
theorem esz_none (h : tyElem P t = none) : esz P t = none := by simp [esz, h]
theorem ia_sl {xs : List D} {k : IntKind} {i : Int} : indexAddrT P t (.d (.sl xs)) (.d (.int k i)) = onO (esz P t) fun n => elemOf xs n i := by
 cases h : tyElem P t with
 | none => simp only [indexAddrT, h, esz_none h, onO_none]; cases tyArr P t <;> simp
 | some p => simp [indexAddrT, h, esz, onO]
theorem ia_ar {l : Loc} {sz lo n : Nat} {k : IntKind} {i : Int} : indexAddrT P t (.ar l sz lo n) (.d (.int k i)) = onO (esz P t) fun es => if sz = es ∧ 0 ≤ i ∧ i < n then .ret (.elp l sz (lo + i.toNat) 0) else .no := by
 cases h : tyElem P t with
 | none => simp only [indexAddrT, h, esz_none h, onO_none]; cases tyArr P t <;> simp
 | some p => simp [indexAddrT, h, esz, onO]
theorem elem_row [Inhabited α] {enc : α → D} {l : List α} {es : Nat} {i : Int} : elemOf (rowD enc l) es i = if (0 ≤ i ∧ i < l.length) ∧ (enc (nth l i.toNat)).cells.length = es then .ret (.cp (enc (nth l i.toNat)).cells) else .no := by
 unfold elemOf;rw [rowD_get];by_cases h0 : 0 ≤ i
 ·by_cases hi : i < l.length
  ·have hn : i.toNat < l.length := by omega
   simp [h0, hi, hn]
  ·have hn : ¬ i.toNat < l.length := by omega
   simp [h0, hi, hn]
 ·simp [h0]
theorem elem_byT {b : List UInt8} {i : Int} : elemOf (byD b) 1 i = if 0 ≤ i ∧ i < b.length then .ret (.cp [.int .u8 (nth b i.toNat).toNat]) else .no := by
 unfold elemOf;rw [byD_get];by_cases h0 : 0 ≤ i
 ·by_cases hi : i < b.length
  ·have hn : i.toNat < b.length := by omega
   simp [h0, hi, hn, D.cells]
  ·have hn : ¬ i.toNat < b.length := by omega
   simp [h0, hi, hn]
 ·simp [h0]
theorem elem_inT {b : List Int} {i : Int} : elemOf (inD b) 1 i = if 0 ≤ i ∧ i < b.length then .ret (.cp [.int .i64 (nth b i.toNat)]) else .no := by
 unfold elemOf;rw [inD_get];by_cases h0 : 0 ≤ i
 ·by_cases hi : i < b.length
  ·have hn : i.toNat < b.length := by omega
   simp [h0, hi, hn, D.cells]
  ·have hn : ¬ i.toNat < b.length := by omega
   simp [h0, hi, hn]
 ·simp [h0]
def onArr {β : Type} (o : Obj) (k : Nat → List D → Bool → T β) : T β := match o with | .arr sz xs fz => k sz xs fz | _ => .no
theorem onArr_arr {β : Type} {sz : Nat} {xs : List D} {fz : Bool} {k : Nat → List D → Bool → T β} : onArr (.arr sz xs fz) k = k sz xs fz := rfl
def onOwn {β : Type} (c : Option LV) (v : Nat) (k : Nat → List D → Bool → T β) : T β := match c with
 | some (.own v' sz xs fz) => if v = v' then k sz xs fz else .no
 | _ => .no
theorem onOwn_own {β : Type} {v v' sz : Nat} {xs : List D} {fz : Bool} {k : Nat → List D → Bool → T β} : onOwn (some (.own v' sz xs fz)) v k = if v = v' then k sz xs fz else .no := rfl
theorem arrT_arr {β : Type} {id : Nat} {k : Nat → List D → Bool → T β} : arrT (.arr id) k = .get id fun o => onArr o k := by
 simp only [arrT];congr
theorem arrT_cell {β : Type} {id off v : Nat} {k : Nat → List D → Bool → T β} : arrT (.cell id off v) k = .get id fun o => onCells o fun cs => onOwn cs[off]? v k := by
 simp only [arrT];congr
theorem setT_arr {id sz : Nat} {xs : List D} {fz : Bool} : setT (.arr id) sz xs fz = .put id (.arr sz xs fz) (.ret ()) := rfl
theorem setT_cell {id off v sz : Nat} {xs : List D} {fz : Bool} : setT (.cell id off v) sz xs fz = .get id fun o => onCells o fun cs => .put id (.cells (cs.set off (.own v sz xs fz))) (.ret ()) := by
 simp only [setT];congr
theorem killT_arr {id : Nat} : killT (.arr id) = .put id .dead (.ret ()) := rfl
theorem killT_cell {id off v : Nat} : killT (.cell id off v) = .get id fun o => onCells o fun cs => .put id (.cells (cs.set off .un)) (.ret ()) := by
 simp only [killT];congr
theorem stow_ar {id lo n sz : Nat} {l : Loc} : stow id (.ar l sz lo n) = arrT l fun sz xs fz => if lo + n ≤ xs.length then (if fz then .ret (.d (.sl (sub xs lo n))) else (killT l).bind fun _ => .tick fun v => .ret (.own v sz (sub xs lo n) false)) else .no := rfl
theorem toD_ar {l : Loc} {sz lo n : Nat} : toD (.ar l sz lo n) = arrT l fun sz xs fz => if lo + n ≤ xs.length then (if fz then .ret (.sl (sub xs lo n)) else (setT l sz xs true).bind fun _ => .ret (.sl (sub xs lo n))) else .no := rfl
theorem toD1_ar {l : Loc} {sz lo n : Nat} : toD1 (.ar l sz lo n) = arrT l fun sz xs fz => if lo + n ≤ xs.length then (if fz then .ret (.sl (sub xs lo n)) else (setT l sz xs true).bind fun _ => .ret (.sl (sub xs lo n))) else .no := rfl
theorem peek_ar {l : Loc} {sz lo n : Nat} : peek (.ar l sz lo n) = arrT l fun _ xs _ => if lo + n ≤ xs.length then .ret (.sl (sub xs lo n)) else .no := rfl
theorem peek1_ar {l : Loc} {sz lo n : Nat} : peek1 (.ar l sz lo n) = arrT l fun _ xs _ => if lo + n ≤ xs.length then .ret (.sl (sub xs lo n)) else .no := rfl
theorem not_frozen {β : Type} {x y : T β} : (if false = true then x else y) = y := rfl
theorem is_frozen {β : Type} {x y : T β} : (if true = true then x else y) = x := rfl
def ldE (g : Option Bool) (n : Nat) (x : Option D) (off : Nat) : T LV := match x with
 | some x => match g with
  | some true => if off + n ≤ x.cells.length then .ret (.d (.agg ((x.cells.drop off).take n))) else .no
  | some false => match x.cells[off]? with
   | some c => .ret (.d c)
   | none => .no
  | none => .no
 | none => .no
theorem load_elp {l : Loc} {s i off : Nat} : loadT P t (.elp l s i off) = arrT l fun _ xs _ => ldE (tyAgg P t) (tySize P t) xs[i]? off := by
 simp only [loadT, ldE];congr
theorem ldE_ite {g : Option Bool} {n : Nat} {c : Prop} [Decidable c] {x : D} {off : Nat} : ldE g n (if c then some x else none) off = if c then ldE g n (some x) off else .no := by
 by_cases h : c <;> simp [h, ldE]
theorem ldE_sc {n : Nat} {x : D} {off : Nat} : ldE (some false) n (some x) off = onO x.cells[off]? fun c => .ret (.d c) := by
 simp only [ldE, onO]
 cases x.cells[off]? <;> rfl
theorem ldE_row {n : Nat} {x : D} {off : Nat} : ldE (some true) n (some x) off = if off + n ≤ x.cells.length then .ret (.d (.agg ((x.cells.drop off).take n))) else .no := rfl
def stE (l : Loc) (sz : Nat) (xs : List D) (fz : Bool) (i off : Nat) (ds : List D) : T LV := if fz then .no else match xs[i]? with
 | some x => if off + ds.length ≤ x.cells.length then (setT l sz (xs.set i (putCells x off ds)) false).bind fun _ => .ret .un else .no
 | none => .no
theorem store_elp {v : LV} {l : Loc} {s i off : Nat} : storeT P t v (.elp l s i off) = if (tyAgg P t).isSome ∧ v.cells.length = tySize P t then (T.mapL toD1 v.cells).bind fun ds => arrT l fun sz xs fz => stE l sz xs fz i off ds else .no := rfl
theorem stE_by {l : Loc} {b : List UInt8} {i : Nat} {c : UInt8} : stE l 1 (byD b) false i 0 [.int .u8 c.toNat] = if i < b.length then (setT l 1 (byD (b.set i c)) false).bind fun _ => .ret .un else .no := by
 simp only [stE, byD_get, Bool.false_eq_true, if_false];by_cases h : i < b.length
 ·simp [h, D.cells, putCells, byD_set]
 ·simp [h]
theorem stE_in {l : Loc} {b : List Int} {i : Nat} {c : Int} : stE l 1 (inD b) false i 0 [.int .i64 c] = if i < b.length then (setT l 1 (inD (b.set i c)) false).bind fun _ => .ret .un else .no := by
 simp only [stE, inD_get, Bool.false_eq_true, if_false];by_cases h : i < b.length
 ·simp [h, D.cells, putCells, inD_set]
 ·simp [h]
def sb (b : List UInt8) : D := .sl (byD b)
theorem sb_cells (b : List UInt8) : (sb b).cells = [.sl (byD b)] := rfl
theorem stE_sb {l : Loc} {b : List (List UInt8)} {i : Nat} {c : List UInt8} : stE l 1 (rowD sb b) false i 0 [.sl (byD c)] = if i < b.length then (setT l 1 (rowD sb (b.set i c)) false).bind fun _ => .ret .un else .no := by
 simp only [stE, rowD_get, Bool.false_eq_true, if_false];by_cases h : i < b.length
 ·have e : (rowD sb b).set i (.sl (byD c)) = rowD sb (b.set i c) := rowD_set;simp only [h, if_true, sb_cells];simp [putCells, sb, ← e]
 ·simp [h]
def fldD (cs : List D) (o n : Nat) (g : Option Bool) : T LV := match g with
 | some true => if o + n ≤ cs.length then .ret (.d (.agg ((cs.drop o).take n))) else .no
 | some false => onO cs[o]? fun c => .ret (.d c)
 | none => .no
def fldL (cs : List LV) (o n : Nat) (g : Option Bool) : T LV := match g with
 | some true => if o + n ≤ cs.length then .ret (.agg ((cs.drop o).take n)) else .no
 | some false => onO cs[o]? .ret
 | none => .no
theorem fldD_sc {cs : List D} {o n : Nat} : fldD cs o n (some false) = onO cs[o]? fun c => .ret (.d c) := rfl
theorem fldD_row {cs : List D} {o n : Nat} : fldD cs o n (some true) = if o + n ≤ cs.length then .ret (.d (.agg ((cs.drop o).take n))) else .no := rfl
theorem fldL_sc {cs : List LV} {o n : Nat} : fldL cs o n (some false) = onO cs[o]? .ret := rfl
theorem fldL_row {cs : List LV} {o n : Nat} : fldL cs o n (some true) = if o + n ≤ cs.length then .ret (.agg ((cs.drop o).take n)) else .no := rfl
theorem fieldAddr_elp {l : Loc} {sz i off f : Nat} : fieldAddrT P t f (.elp l sz i off) = onO (tyField P t f) fun p => if p.2.2 = 0 then .no else .ret (.elp l sz i (off + p.1)) := by
 unfold fieldAddrT
 cases tyField P t f <;> rfl
theorem fieldAddr_cp {cs : List D} {f : Nat} : fieldAddrT P t f (.cp cs) = onO (tyField P t f) fun p => if p.2.2 = 0 then .no else .ret (.cp (cs.drop p.1)) := by
 unfold fieldAddrT
 cases tyField P t f <;> rfl
theorem slice_sl {xs : List D} {lo hi mx : Option LV} : sliceT P t (.d (.sl xs)) lo hi mx = onO (esz P t) fun es => if sized es xs then cut xs.length lo hi mx fun l h => .ret (.d (.sl (sub xs l (h - l)))) else .no := by
 cases h : tyElem P t <;> simp [sliceT, h, esz, onO]
theorem slice_lit {xs : List D} {lo hi mx : Option LV} : sliceT P t (.lit xs) lo hi mx = onO (esz P t) fun es => if sized es xs then cut xs.length lo hi mx fun l h => .ret (.d (.sl (sub xs l (h - l)))) else .no := by
 cases h : tyElem P t <;> simp [sliceT, h, esz, onO]
theorem slice_arN {l : Loc} {sz o n : Nat} {lo hi mx : Option LV} : sliceT P t (.ar l sz o n) lo hi mx = onO (esz P t) fun es => if sz = es then cut n lo hi mx fun a b => .ret (.ar l sz (o + a) (b - a)) else .no := by
 cases h : tyElem P t <;> simp [sliceT, h, esz, onO]
theorem sub_all {xs : List D} {n : Nat} (h : xs.length ≤ n) : sub xs 0 n = xs := by simp [sub, List.take_of_length_le h]
theorem wrap_byte (c : UInt8) : IntKind.i64.wrap (c.toNat : Int) = c.toNat := by
 have := c.toNat_lt;exact wrap_i64 (by omega) (by omega)
def mkZ (P : Program) (t : TypeId) : Option (Nat × Nat × D) := match tyElem P t with
 | some (e, es) => match zeroD P e with
  | some z => if z.cells.length = es then some (es, tyBytes P e, z) else none
  | none => none
 | none => none
def reps (n : Nat) (z : D) : List D := List.replicate n z
theorem reps_by {n : Nat} : reps n (.int .u8 0) = byD (zeros n) := rep_zero n
def ints0 (n : Nat) : List Int := List.replicate n 0
theorem reps_in {n : Nat} : reps n (.int .i64 0) = inD (ints0 n) := by simp [reps, inD, ints0]
theorem mk_of {k k' : IntKind} {n c : Int} : makeSliceT P t (.d (.int k n)) (.d (.int k' c)) = onO (mkZ P t) fun p => if 0 ≤ n ∧ n ≤ c ∧ c * p.2.1 ≤ 70368744177664 ∧ c ≤ 70368744177664 then
  .new (.arr p.1 (reps n.toNat p.2.2) false) fun id => .ret (.ar (.arr id) p.1 0 n.toNat) else .no := by
 unfold makeSliceT mkZ
 cases tyElem P t with
 | none => rfl
 | some p =>
  obtain ⟨e, es⟩ := p;simp only
  cases zeroD P e with
  | none => rfl
  | some z =>
   simp only;by_cases h : z.cells.length = es
   ·simp [h, onO, reps]
   ·simp [h, onO]
def appK (P : Program) (t t' : TypeId) : Option (Nat × Nat) := match tyElem P t with
 | some (e, es) => match zeroD P e with
  | some z => if z.cells.length = es ∧ (tyInt P t').isNone = true ∧ (P.underlying t').isSome = true then some (es, tyBytes P e) else none
  | none => none
 | none => none
theorem app_eq {t' : TypeId} {x y : LV} (h : (appK P t t').isSome = true) : appendT P #[t, t'] x y = onO (appK P t t') fun p => srcT p.1 y fun ys => growT p.1 p.2 x ys := by
 unfold appK at h ⊢
 cases he : tyElem P t with
 | none => simp [he] at h
 | some p =>
  obtain ⟨e, es⟩ := p
  cases hz : zeroD P e with
  | none => simp [he, hz] at h
  | some z =>
   by_cases hc : z.cells.length = es ∧ (tyInt P t').isNone = true ∧ (P.underlying t').isSome = true
   ·have h2' : tyInt P t' = none := by simpa using hc.2.1
    have h1 := hc.1;have h3 := hc.2.2;subst h1;simp [appendT, he, hz, h2', h3, onO]
   ·simp only [he, hz, if_neg hc] at h; cases h
theorem src_lit {es : Nat} {xs : List D} {k : List D → T LV} : srcT es (.lit xs) k = if sized es xs then k xs else .no := rfl
theorem src_sl {es : Nat} {xs : List D} {k : List D → T LV} : srcT es (.d (.sl xs)) k = if sized es xs then k xs else .no := rfl
theorem src_str {es : Nat} {s : List UInt8} {k : List D → T LV} : srcT es (.d (.str s)) k = if es = 1 then k (byD s) else .no := rfl
theorem src_ar {es sz lo n : Nat} {l : Loc} {k : List D → T LV} : srcT es (.ar l sz lo n) k = arrT l fun _ xs _ => if lo + n ≤ xs.length ∧ sized es (sub xs lo n) then k (sub xs lo n) else .no := rfl
theorem grow_lit0 {es b : Nat} {ys : List D} : growT es b (.lit []) ys = if fits ys.length b then .new (.arr es ys false) fun id => .ret (.ar (.arr id) es 0 ys.length) else .no := by
 simp [growT, sized]
theorem grow_ar {l : Loc} {es es' b lo n : Nat} {ys : List D} : growT es b (.ar l es' lo n) ys = if es' = es then arrT l fun _ xs fz => if fz then .no else if lo + n ≤ xs.length ∧ fits (n + ys.length) b then
   (killT l).bind fun _ => .new (.arr es (sub xs lo n ++ ys) false) fun id => .ret (.ar (.arr id) es 0 (n + ys.length)) else .no else .no := rfl
section
variable {e : Env} {Q : LV → Prop} {K : List LV → Prop}
theorem res_V {rs : List ResultVar} : (resultV P e S rs).holds Q ↔ (resultL P e S rs).holds (hold (fun vs => Q (tupV vs)) .mk) := by
 unfold resultV;rw [holds_bind]; exact Iff.rfl
theorem res_nil : (resultL P e S []).holds K ↔ K [] := Iff.rfl
theorem res_tmp {t : Tmp} {rs : List ResultVar} : (resultL P e S (.tmp t :: rs)).holds K ↔ (resultL P e S rs).holds (hold (fun vs => K (e t :: vs)) .mk) := by
 simp only [resultL, result1, Res.bind]
 cases resultL P e S rs <;> exact Iff.rfl
theorem res_cell {a : Tmp} {t : TypeId} {rs : List ResultVar} : (resultL P e S (.cell a t :: rs)).holds K ↔ TQ (loadT P t (e a)) S (hold (fun v _ => (resultL P e S rs).holds (hold (fun vs => K (v :: vs)) .mk)) .mk) := by
 simp only [resultL, result1];unfold TQ
 cases (loadT P t (e a)).run S with
 | ok r =>
  show ((resultL P e S rs).bind fun vs => Res.ok (r.1 :: vs)).holds K ↔ _;rw [holds_bind]; exact Iff.rfl
 | no => exact Iff.rfl
 | vac => exact Iff.rfl
theorem tupV_one {v : LV} : tupV [v] = v := rfl
theorem tupV_nil : tupV [] = .tup [] := rfl
theorem tupV_more {v u : LV} {l : List LV} : tupV (v :: u :: l) = .tup (v :: u :: l) := rfl
end
theorem fetchL_nil {id off : Nat} : fetchL id off [] = [] := rfl
theorem fetchL_cons {id off : Nat} {c : LV} {cs : List LV} : fetchL id off (c :: cs) = fetch id off c :: fetchL id (off + 1) cs := rfl
theorem take_drop_all {α : Type} {l : List α} {k : Nat} : (l.drop k).take (l.length - k) = l.drop k := List.take_of_length_le (by simp)
theorem nth_drop {α : Type} [Inhabited α] {l : List α} {k i : Nat} : nth (l.drop k) i = nth l (k + i) := by simp [nth]
theorem nth_take {α : Type} [Inhabited α] {l : List α} {n i : Nat} (h : i < n) : nth (l.take n) i = nth l i := by simp [nth, h]
theorem okb_d {x : D} : (LV.d x).okb = true := rfl
theorem okb_lit {x : List D} : (LV.lit x).okb = true := rfl
theorem okb_ar {l : Loc} {a b c : Nat} : (LV.ar l a b c).okb = true := rfl
theorem okb_agg {cs : List LV} : (LV.agg cs).okb = true := rfl
theorem okb_ptr {a b : Nat} : (LV.ptr a b).okb = true := rfl
def idx (n : Nat) : List Nat := List.range n
theorem idx_zero : idx 0 = [] := rfl
theorem idx_succ {n : Nat} : idx (n + 1) = idx n ++ [n] := by simp [idx, List.range_succ]
theorem bslice_T {n : Nat} {ps : List (Nat × LV)} (hz : ezero P t = true) : buildSliceT P t n ps = onO (esz P t) fun es =>
  if (ps.map (·.1) = idx n ∧ n ≤ 16777216) ∧ n * es ≤ 16777216 then (T.mapL toD (ps.map (·.2))).bind fun xs => if sized es xs then .ret (.lit xs) else .no else .no := by
 unfold ezero at hz
 cases h : tyElem P t with
 | none => rw [h] at hz; cases hz
 | some p =>
  obtain ⟨e, es⟩ := p;rw [h] at hz;have hz' : (zeroCells P e).isSome = true := hz;simp only [buildSliceT, h, hz', and_true, esz, Option.map_some, onO];have e1 : (T.mapL (fun p : Nat × LV => toD p.2) ps) = T.mapL toD (ps.map (·.2)) := mapL_snd ps;rw [e1];simp only [idx, and_assoc]
theorem fetch_fz {id off ver sz : Nat} {x : List D} : fetch id off (.own ver sz x true) = .d (.sl x) := rfl
theorem fetch_ptr {id off a b : Nat} : fetch id off (.ptr a b) = .ptr a b := rfl
theorem fetch_fn {id off f : Nat} {cs : List LV} : fetch id off (.fn f cs) = .fn f cs := rfl
theorem fetch_mp {id off a : Nat} : fetch id off (.mp a) = .mp a := rfl
theorem stow_nilP {id : Nat} : stow id (.d .nilP) = .ret (.d .nilP) := rfl
theorem stow_nilM {id : Nat} : stow id (.d .nilM) = .ret (.d .nilM) := rfl
theorem stow_nilF {id : Nat} : stow id (.d .nilF) = .ret (.d .nilF) := rfl
theorem stow_ptr {id i off : Nat} : stow id (.ptr i off) = if i ≤ id then .ret (.ptr i off) else .leak (.ret (.ptr i off)) := rfl
theorem stow_mp {id i : Nat} : stow id (.mp i) = if i ≤ id then .ret (.mp i) else .leak (.ret (.mp i)) := rfl
theorem stow_fn {id f : Nat} : stow id (.fn f []) = .ret (.fn f []) := rfl
theorem cells_ptr {a b : Nat} : (LV.ptr a b).cells = [.ptr a b] := rfl
theorem cells_fn {f : Nat} {cs : List LV} : (LV.fn f cs).cells = [.fn f cs] := rfl
theorem cells_mp {a : Nat} : (LV.mp a).cells = [.mp a] := rfl
theorem cells_nilP : (LV.d .nilP).cells = [.d .nilP] := rfl
theorem dcells_agg {cs : List D} : (D.agg cs).cells = cs := rfl
theorem dcells_str {s : List UInt8} : (D.str s).cells = [.str s] := rfl
theorem dcells_bool {b : Bool} : (D.bool b).cells = [.bool b] := rfl
theorem dcells_sl {b : List D} : (D.sl b).cells = [.sl b] := rfl
attribute [-simp] bslice
attribute [simp] fetch_fz fetch_ptr fetch_fn fetch_mp stow_nilP stow_nilM stow_nilF stow_ptr stow_mp stow_fn cells_ptr cells_fn cells_mp cells_nilP dcells_agg dcells_str dcells_bool dcells_sl
attribute [simp] idx_zero idx_succ bslice_T wrap_i64 okb_d okb_lit okb_ar okb_agg okb_ptr take_drop_all nth_drop fetchL_nil fetchL_cons res_V res_nil res_tmp res_cell tupV_one tupV_nil tupV_more
attribute [-simp] mk_by store_by addr_by addr_in addr_ar slice_ar
attribute [simp] sub_all byD_sub inD_sub rowD_sub rowD_length rowD_get sizedN_nil sizedN_cons sizedN_by sizedN_in fits_iff onO_some onO_none ia_sl ia_ar elem_row elem_byT elem_inT onArr_arr onOwn_own arrT_arr arrT_cell setT_arr setT_cell killT_arr killT_cell stow_ar toD_ar toD1_ar peek_ar peek1_ar not_frozen is_frozen load_elp ldE_ite ldE_sc ldE_row store_elp stE_by stE_in sb_cells stE_sb fldD_sc fldD_row fldL_sc fldL_row fieldAddr_elp fieldAddr_cp slice_sl slice_lit slice_arN mk_of reps_by reps_in app_eq src_lit src_sl src_str src_ar grow_lit0 grow_ar byD_get inD_get
end Go.VM
end
section
namespace Go.VM
variable {cfg : Cfg} {e : Env} {S : St} {K : LV → St → List Nat → List Nat → Prop}
def maskE (acc : List Nat) : List Nat → Nat
 | [] => 0
 | k :: es => Nat.lor (Nat.lor (Nat.shiftLeft 1 k) (acc.getD k 0)) (maskE acc es)
def befm : List Oper → List Nat → List Nat
 | [], acc => acc
 | o :: os, acc => befm os (acc ++ [maskE acc (edges o)])
def okPairM (ops : List Oper) (ms : List Nat) (i j : Nat) (oi oj : Oper) : Bool :=
 (decide (i = j) || oi.dst.isNone || oi.dst != oj.dst) &&
  (match oi.dst with
  | some d => !(oj.looksAt ops.toArray).contains d || (decide (i < j) && (ms.getD j 0).testBit i) || (decide (j < i) && (ms.getD i 0).testBit j) || decide (i = j)
  | none => true)
def okDrawM (ops : List Oper) (ms : List Nat) : Bool :=
 ops.zipIdx.all fun q => notSelect q.1.op && (edges q.1).all (fun k => decide (k < q.2)) && ops.zipIdx.all fun p => okPairM ops ms p.2 q.2 p.1 q.1
def indepM (ms : List Nat) : List Log → Prop
 | [] => True
 | b :: L => (∀ a ∈ L, (ms.getD b.at_ 0).testBit a.at_ = true ∨ ¬ a.clash b) ∧ indepM ms L
theorem maskE_bit {acc : List Nat} {bef : List (List Nat)} (h : ∀ j i, (acc.getD j 0).testBit i = true ↔ i ∈ bef.getD j []) : ∀ (es : List Nat) (i : Nat), (maskE acc es).testBit i = true ↔ i ∈ es.flatMap fun k => k :: bef.getD k [] := by
 intro es
 induction es with
 | nil => intro i; simp [maskE]
 | cons k es ih =>
  intro i;have e1 : (Nat.lor (Nat.lor (Nat.shiftLeft 1 k) (acc.getD k 0)) (maskE acc es)).testBit i = (((1 <<< k).testBit i || (acc.getD k 0).testBit i) || (maskE acc es).testBit i) := by
   rw [← Nat.testBit_or, ← Nat.testBit_or]; rfl
  show (Nat.lor _ _).testBit i = true ↔ _;rw [e1];simp only [Bool.or_eq_true, List.flatMap_cons, List.mem_append, List.mem_cons];rw [ih i, h k i];have e2 : (1 <<< k).testBit i = true ↔ i = k := by
   rw [Nat.one_shiftLeft, Nat.testBit_two_pow];simp [eq_comm]
  rw [e2]
theorem befm_bit : ∀ (os : List Oper) (acc : List Nat) (bef : List (List Nat)), acc.length = bef.length → (∀ j i, (acc.getD j 0).testBit i = true ↔ i ∈ bef.getD j []) → ∀ j i, ((befm os acc).getD j 0).testBit i = true ↔ i ∈ (befs os bef).getD j [] := by
 intro os
 induction os with
 | nil => intro acc bef _ h; exact h
 | cons o os ih =>
  intro acc bef hl h;simp only [befm, befs];refine ih _ _ (by simp [hl]) fun j i => ?_
  by_cases hj : j < acc.length
  ·have e1 : (acc ++ [maskE acc (edges o)]).getD j 0 = acc.getD j 0 := by simp [List.getD, List.getElem?_append_left hj]
   have e2 : (bef ++ [(edges o).flatMap fun k => k :: bef.getD k []]).getD j [] = bef.getD j [] := by simp [List.getD, List.getElem?_append_left (show j < bef.length by omega)]
   rw [e1, e2]; exact h j i
  ·by_cases hj2 : j = acc.length
   ·subst hj2;have e1 : (acc ++ [maskE acc (edges o)]).getD acc.length 0 = maskE acc (edges o) := by simp
    have e2 : (bef ++ [(edges o).flatMap fun k => k :: bef.getD k []]).getD acc.length [] = (edges o).flatMap fun k => k :: bef.getD k [] := by rw [hl]; simp
    rw [e1, e2]; exact maskE_bit h _ i
   ·have e1 : (acc ++ [maskE acc (edges o)]).getD j 0 = 0 := by
     simp only [List.getD];rw [List.getElem?_eq_none (by simp; omega)]; rfl
    have e2 : (bef ++ [(edges o).flatMap fun k => k :: bef.getD k []]).getD j [] = [] := by
     simp only [List.getD];rw [List.getElem?_eq_none (by simp; omega)]; rfl
    rw [e1, e2]; simp
theorem befm_mem {os : List Oper} {ms : List Nat} (h : befm os [] = ms) (j i : Nat) : (ms.getD j 0).testBit i = true ↔ i ∈ (befs os []).getD j [] := by
 subst h;exact befm_bit os [] [] rfl (fun j i => by simp) j i
theorem okDrawM_ok {os : List Oper} {ms : List Nat} (h : befm os [] = ms) (hd : okDrawM os ms = true) : okDraw os = true := by
 have hp : ∀ i j oi oj, okPairM os ms i j oi oj = okPair os (befs os []) i j oi oj := by
  intro i j oi oj;have hb : ∀ a b, (ms.getD b 0).testBit a = ((befs os []).getD b []).contains a := by
   intro a b;rw [Bool.eq_iff_iff, befm_mem h];simp
  unfold okPairM okPair
  cases oi.dst with
  | none => rfl
  | some d => simp only [hb]
 unfold okDrawM at hd;unfold okDraw;simp only [hp] at hd;exact hd
theorem indepM_ok {os : List Oper} {ms : List Nat} (h : befm os [] = ms) : ∀ {L : List Log}, indepM ms L → indep (befs os []) L := by
 intro L
 induction L with
 | nil => intro _; trivial
 | cons b L ih =>
  intro hi;exact ⟨fun a ha => (hi.1 a ha).imp (befm_mem h _ _).1 (fun x => x), ih hi.2⟩
theorem X_drawM {id : Nat} {l : List Oper} {t : Tag (Code.region id l.toArray true)} {Q : Ex → Env → St → Prop} (ms : List Nat) (hm : befm l [] = ms) (hd : okDrawM l ms = true)
  (h : PD cfg S.next S.clk 0 (hold l .mk) (hold l .mk) e S [] (hold (fun e' S' L => indepM ms L ∧ Q .normal e' ⟨S'.obj, S.next + 100 * l.length, S.clk + 100 * l.length, S'.esc⟩) .mk)) :
  PX cfg (hold (.region id l.toArray true) t) e S Q := by
 refine X_draw (okDrawM_ok hm hd) ?_;obtain ⟨n, h⟩ := h;exact ⟨n, holds_mono (fun r hr => ⟨indepM_ok hm hr.1, hr.2⟩) h⟩
noncomputable def shBody (cfg : Cfg) (n : Nat) (f : FuncId) (as : List LV) (objs : List (Nat × Obj)) (c : Nat) : T LV :=
 if (objs.all fun p => objTame (objs.map (·.1)) p.2) = true ∧ (as.all (argTame (objs.map (·.1)))) = true then
  (T.ofRes (runSh (ev cfg n) f as objs)).bind fun q => putsT (objs.map fun p => (p.1, stampO c (q.2.obj p.1))) (.ret q.1)
 else .no
def ShD (cfg : Cfg) (f : FuncId) (as : List LV) (S : St) (K : LV → St → List Nat → List Nat → Prop) : Prop :=
 ∃ n, TL ((gather 64 (as.flatMap refs) []).bind fun objs => .tick fun c => shBody cfg n f as objs c) S K
theorem D1_sh {f : FuncId} {args : Array Operand} {ts : Array TypeId} (h : cfg.mode f = .shr) : D1 cfg (.call ⟨.value (.func f), args, ts⟩) e S K ↔
  TL (T.mapL prep (args.toList.map (Operand.lv e))) S (hold (fun as S' r w => ShD cfg f as S' (hold (fun v S'' r' w' => K v S'' (r ++ r') (w ++ w')) .mk)) .mk) := by
 have hc : callee e (.call ⟨.value (.func f), args, ts⟩) = some (f, args.toList.map (Operand.lv e)) := by simp [callee, Operand.lv]
 unfold D1 stepD;simp only [hc, callT, h, callSh];have key : ∀ n, TL ((T.mapL prep (args.toList.map (Operand.lv e))).bind fun as => (gather 64 (as.flatMap refs) []).bind fun objs => .tick fun c => shBody cfg n f as objs c) S K ↔
   TL (T.mapL prep (args.toList.map (Operand.lv e))) S fun as S' r w => TL ((gather 64 (as.flatMap refs) []).bind fun objs => .tick fun c => shBody cfg n f as objs c) S' fun v S'' r' w' => K v S'' (r ++ r') (w ++ w') := by
  intro n;rw [TL_bind]; exact Iff.rfl
 constructor
 ·rintro ⟨n, hn⟩;have hn := (key n).1 hn;unfold TL at hn ⊢;refine holds_mono (fun r hr => ?_) hn;exact ⟨n, hr⟩
 ·intro hh;unfold TL at hh
  cases hr : (T.mapL prep (args.toList.map (Operand.lv e))).run S with
  | ok r =>
   rw [hr] at hh;obtain ⟨n, hn⟩ := hh;refine ⟨n, (key n).2 ?_⟩;unfold TL;rw [hr]; exact hn
  | no => rw [hr] at hh; exact hh.elim
  | vac =>
   refine ⟨0, (key 0).2 ?_⟩;unfold TL;rw [hr]; trivial
theorem D1_ln {f : FuncId} {args : Array Operand} {ts : Array TypeId} (h : cfg.mode f = .lnd) : D1 cfg (.call ⟨.value (.func f), args, ts⟩) e S K ↔
  TL (T.mapL prep (args.toList.map (Operand.lv e))) S (hold (fun as S' r w => ShD cfg f as S' (hold (fun v S'' r' w' => K v S'' (r ++ r') (w ++ w')) .mk)) .mk) := by
 have hc : callee e (.call ⟨.value (.func f), args, ts⟩) = some (f, args.toList.map (Operand.lv e)) := by simp [callee, Operand.lv]
 unfold D1 stepD;simp only [hc, callT, h, callSh];have key : ∀ n, TL ((T.mapL prep (args.toList.map (Operand.lv e))).bind fun as => (gather 64 (as.flatMap refs) []).bind fun objs => .tick fun c => shBody cfg n f as objs c) S K ↔
   TL (T.mapL prep (args.toList.map (Operand.lv e))) S fun as S' r w => TL ((gather 64 (as.flatMap refs) []).bind fun objs => .tick fun c => shBody cfg n f as objs c) S' fun v S'' r' w' => K v S'' (r ++ r') (w ++ w') := by
  intro n;rw [TL_bind]; exact Iff.rfl
 constructor
 ·rintro ⟨n, hn⟩;have hn := (key n).1 hn;unfold TL at hn ⊢;refine holds_mono (fun r hr => ?_) hn;exact ⟨n, hr⟩
 ·intro hh;unfold TL at hh
  cases hr : (T.mapL prep (args.toList.map (Operand.lv e))).run S with
  | ok r =>
   rw [hr] at hh;obtain ⟨n, hn⟩ := hh;refine ⟨n, (key n).2 ?_⟩;unfold TL;rw [hr]; exact hn
  | no => rw [hr] at hh; exact hh.elim
  | vac =>
   refine ⟨0, (key 0).2 ?_⟩;unfold TL;rw [hr]; trivial
theorem ShD_1 {f : FuncId} {as : List LV} {id : Nat} {o : Obj} (hr : as.flatMap refs = [id]) (ho : S.obj id = o) (hor : objRefs o = []) (ht : objTame [id] o = true) (ha : as.all (argTame [id]) = true)
  (h : SQ cfg f as (small [(id, o)]) fun r S1 => TQ (closeV r) S1 fun r' S2 => dataV r' = true ∧ objTame [id] (S2.obj id) = true ∧
   K r' ⟨fun j => if j = id then stampO S.clk (S2.obj id) else S.obj j, S.next, S.clk + 1, S.esc⟩ [id] [id]) : ShD cfg f as S K := by
 subst ho;obtain ⟨n, h⟩ := h;refine ⟨n, ?_⟩;have hb : ∀ c, shBody cfg n f as [(id, S.obj id)] c = (T.ofRes (runSh (ev cfg n) f as [(id, S.obj id)])).bind fun q => .put id (stampO c (q.2.obj id)) (.ret q.1) := by
  intro c;unfold shBody;rw [if_pos ⟨by simpa using ht, by simpa using ha⟩]
  rfl
 rw [TL_bind, hr];show TL (.get id fun o => gather 63 (objRefs o ++ []) [(id, o)]) S _;rw [TL_get];rw [hor];show TL (.tick fun c => shBody cfg n f as [(id, S.obj id)] c) S _;rw [TL_tick, hb];have hrun : (runSh (ev cfg n) f as [(id, S.obj id)]).holds fun q => dataV q.1 = true ∧ objTame [id] (q.2.obj id) = true ∧ K q.1 ⟨fun j => if j = id then stampO S.clk (q.2.obj id) else S.obj j, S.next, S.clk + 1, S.esc⟩ [id] [id] := by
  unfold runSh;rw [holds_bind];refine holds_mono (fun q hq => ?_) h;rw [holds_bind];refine holds_mono (fun q' hq' => ?_) hq;have hc : dataV q'.1 = true ∧ allTame [(id, S.obj id)] q'.2 = true := ⟨hq'.1, by simpa [allTame] using hq'.2.1⟩
  rw [if_pos hc];exact hq'
 rw [TL_bind, TL_quiet (q_ofRes _), TQ_ofRes];refine holds_mono (fun q hq => ?_) hrun;have := hq.2.2;have e : (⟨fun j => if j = id then stampO S.clk (q.2.obj id) else S.obj j, S.next, S.clk + 1, S.esc⟩ : St) = S.tick.set id (stampO S.clk (q.2.obj id)) := rfl;rw [e] at this;exact this
theorem ShD_0 {f : FuncId} {as : List LV} (hr : as.flatMap refs = []) (ha : as.all (argTame []) = true)
  (h : SQ cfg f as (small []) fun r S1 => TQ (closeV r) S1 fun r' _ => dataV r' = true ∧ K r' S.tick [] []) : ShD cfg f as S K := by
 obtain ⟨n, h⟩ := h;refine ⟨n, ?_⟩;have hb : ∀ c, shBody cfg n f as [] c = (T.ofRes (runSh (ev cfg n) f as [])).bind fun q => .ret q.1 := by
  intro c;unfold shBody;rw [if_pos ⟨by simp, by simpa using ha⟩]
  rfl
 rw [TL_bind, hr];show TL (.tick fun c => shBody cfg n f as [] c) S _;rw [TL_tick, hb];have hrun : (runSh (ev cfg n) f as []).holds fun q => dataV q.1 = true ∧ K q.1 S.tick [] [] := by
  unfold runSh;rw [holds_bind];refine holds_mono (fun q hq => ?_) h;rw [holds_bind];refine holds_mono (fun q' hq' => ?_) hq;have hc : dataV q'.1 = true ∧ allTame [] q'.2 = true := ⟨hq'.1, by simp [allTame]⟩
  rw [if_pos hc];exact hq'
 rw [TL_bind, TL_quiet (q_ofRes _), TQ_ofRes];exact holds_mono (fun q hq => hq.2) hrun
def NewSl (S S' : St) (v : LV) (sz : Nat) (xs : List D) : Prop := (v = .lit [] ∧ xs = []) ∨ ∃ id, S.next ≤ id ∧ id < S'.next ∧ v = .ar (.arr id) sz 0 xs.length ∧ S'.obj id = .arr sz xs false
def Kept (S S' : St) : Prop := (∀ j, j < S.next → S'.obj j = S.obj j) ∧ S.next ≤ S'.next ∧ S.clk ≤ S'.clk ∧ S'.esc = S.esc
theorem Kept.refl (S : St) : Kept S S := ⟨fun _ _ => rfl, Nat.le_refl _, Nat.le_refl _, rfl⟩
theorem Kept.of {S0 S S' : St} (h : Kept S0 S) (ho : ∀ j, j < S0.next → S'.obj j = S.obj j) (hn : S.next ≤ S'.next) (hc : S.clk ≤ S'.clk) (he : S'.esc = S.esc) : Kept S0 S' :=
 ⟨fun j hj => (ho j hj).trans (h.1 j hj), Nat.le_trans h.2.1 hn, Nat.le_trans h.2.2.1 hc, he.trans h.2.2.2⟩
theorem Kept.trans {S0 S S' : St} (h : Kept S0 S) (k : Kept S S') : Kept S0 S' :=
 h.of (fun j hj => k.1 j (Nat.lt_of_lt_of_le hj h.2.1)) k.2.1 k.2.2.1 k.2.2.2
theorem Kept.alloc {S0 S : St} {o : Obj} (h : Kept S0 S) : Kept S0 (S.alloc o) :=
 h.of (fun j hj => by have := h.2.1; simp only [alloc_at]; rw [if_neg (by omega)]) (by simp) (by simp) rfl
theorem Kept.set {S0 S : St} {i : Nat} {o : Obj} (h : Kept S0 S) (hi : S0.next ≤ i) : Kept S0 (S.set i o) :=
 h.of (fun j hj => by simp only [set_obj]; rw [if_neg (by omega)]) (by simp) (by simp) rfl
theorem NewSl.close {S S' : St} {v : LV} {xs : List D} {sz : Nat} {Q : LV → Prop} (h : NewSl S S' v sz xs) (hq : Q (.d (.sl xs))) : TQ (closeV v) S' fun v _ => Q v := by
 rcases h with ⟨rfl, rfl⟩ | ⟨id, h1, h2, rfl, h4⟩
 ·exact hq
 ·simp only [closeV];rw [TQ_bind, toD_ar, arrT_arr, TQ_get, h4, onArr_arr];simp only [Nat.zero_add, Nat.le_refl, if_true, Bool.false_eq_true, if_false, setT_arr];rw [sub_all (Nat.le_refl _)];exact hq
theorem byD_getE {b : List UInt8} {k : Nat} {h : k < (byD b).length} : (byD b)[k] = .int .u8 (nth b k).toNat := by
 have h' : k < b.length := by simpa using h
 simp [byD, nth, h']
theorem inD_getE {b : List Int} {k : Nat} {h : k < (inD b).length} : (inD b)[k] = .int .i64 (nth b k) := by
 have h' : k < b.length := by simpa using h
 simp [inD, nth, h']
theorem rowD_getE {α : Type} [Inhabited α] {enc : α → D} {b : List α} {k : Nat} {h : k < (rowD enc b).length} : (rowD enc b)[k] = enc (nth b k) := by
 have h' : k < b.length := by simpa using h
 simp [rowD, nth, h']
attribute [simp] byD_getE inD_getE rowD_getE
theorem ext_tup {i : Nat} {vs : List LV} : extractT i (.tup vs) = onO vs[i]? .ret := by
 simp only [extractT, onO]
 cases vs[i]? <;> rfl
section
variable {P : Program} {s d : TypeId}
theorem conv_ar {l : Loc} {sz lo n : Nat} (hs : (P.underlying s).isSome = true) (hd : tyStr P d = true) (hb : tyBy P s = true) : convertT P s d (.ar l sz lo n) = arrT l fun _ xs _ => if lo + n ≤ xs.length then onO (bytesOf? (sub xs lo n)) fun b => .ret (.d (.str b)) else .no := by
 simp only [convertT, hs, hd, hb, if_true, peek1]
 cases l with
 | arr id =>
  rw [arrT_arr, arrT_arr];simp only [T.bind];congr;funext o
  cases o <;> first | rfl | skip
  rename_i sz' xs fz;simp only [onArr];split
  ·simp only [T.bind, onO]
   cases bytesOf? (sub xs lo n) <;> rfl
  ·rfl
 | cell id off v =>
  rw [arrT_cell, arrT_cell];simp only [T.bind];congr;funext o
  cases o <;> first | rfl | skip
  rename_i cs;simp only [onCells]
  cases cs[off]? with
  | none => rfl
  | some c =>
   cases c <;> first | rfl | skip
   rename_i v' sz' xs fz;simp only [onOwn];split
   ·split
    ·simp only [T.bind, onO]
     cases bytesOf? (sub xs lo n) <;> rfl
    ·rfl
   ·rfl
theorem conv_lit {xs : List D} (hs : (P.underlying s).isSome = true) (hd : tyStr P d = true) (hb : tyBy P s = true) : convertT P s d (.lit xs) = onO (bytesOf? xs) fun b => .ret (.d (.str b)) := by
 simp only [convertT, hs, hd, hb, if_true, peek1, T.bind, onO]
 cases bytesOf? xs <;> rfl
theorem conv_byD {b : List UInt8} (hs : (P.underlying s).isSome = true) (hd : tyStr P d = true) (hb : tyBy P s = true) : convertT P s d (.d (.sl (byD b))) = .ret (.d (.str b)) := by
 simp only [convertT, hs, hd, hb, if_true, peek1, T.bind, byD_of]
theorem bytesOf_nil : bytesOf? [] = some [] := rfl
end
attribute [simp] indepM conv_ar conv_lit conv_byD bytesOf_nil byD_of
theorem prep_d {x : D} : prep (.d x) = .ret (.d x) := by cases x <;> rfl
theorem prep_ptr {a b : Nat} : prep (.ptr a b) = .ret (.ptr a b) := rfl
theorem prep_mp {a : Nat} : prep (.mp a) = .ret (.mp a) := rfl
theorem prep_fn {f : Nat} : prep (.fn f []) = .ret (.fn f []) := rfl
theorem prep_lit {x : D} {xs : List D} : prep (.lit (x :: xs)) = .ret (.d (.sl (x :: xs))) := rfl
theorem prep_nil : prep (.lit []) = .ret (.lit []) := rfl
theorem prep_ar {l : Loc} {a b c : Nat} : prep (.ar l a b c) = (toD (.ar l a b c)).bind fun x => .ret (.d x) := rfl
theorem prep_agg {cs : List LV} : prep (.agg cs) = (toD (.agg cs)).bind fun x => .ret (.d x) := rfl
theorem ref_d {x : D} : refs (.d x) = [] := rfl
theorem ref_lit {x : List D} : refs (.lit x) = [] := rfl
theorem ref_own {a b : Nat} {x : List D} {fz : Bool} : refs (.own a b x fz) = [] := rfl
theorem ref_ptr {a b : Nat} : refs (.ptr a b) = [a] := rfl
theorem objRef_cells {cs : List LV} : objRefs (.cells cs) = cs.flatMap refs := rfl
theorem argT_d {R : List Nat} {x : D} : argTame R (.d x) = true := rfl
theorem argT_ptr {R : List Nat} {a b : Nat} : argTame R (.ptr a b) = R.elem a := rfl
theorem argT_nil {R : List Nat} : argTame R (.lit []) = true := rfl
theorem argT_fn {R : List Nat} {f : Nat} : argTame R (.fn f []) = true := rfl
theorem celT_d {R : List Nat} {x : D} : cellTame R (.d x) = true := rfl
theorem celT_lit {R : List Nat} {x : List D} : cellTame R (.lit x) = true := rfl
theorem celT_own {R : List Nat} {a b : Nat} {x : List D} {fz : Bool} : cellTame R (.own a b x fz) = true := rfl
theorem celT_ptr {R : List Nat} {a b : Nat} : cellTame R (.ptr a b) = R.elem a := rfl
theorem objT_cells {R : List Nat} {cs : List LV} : objTame R (.cells cs) = cs.all (cellTame R) := rfl
theorem stamp_d {c : Nat} {x : D} : stamp c (.d x) = .d x := rfl
theorem stamp_lit {c : Nat} {x : List D} : stamp c (.lit x) = .lit x := rfl
theorem stamp_ptr {c a b : Nat} : stamp c (.ptr a b) = .ptr a b := rfl
theorem stamp_own {c a b : Nat} {x : List D} {fz : Bool} : stamp c (.own a b x fz) = .own c b x fz := rfl
theorem stampO_cells {c : Nat} {cs : List LV} : stampO c (.cells cs) = .cells (cs.map (stamp c)) := rfl
theorem small1_obj {id : Nat} {o : Obj} {i : Nat} : (small [(id, o)]).obj i = if i = id then o else .dead := by
 show (([(id, o)].find? fun p => p.1 == i).map (·.2)).getD .dead = _;by_cases h : i = id
 ·subst h; simp
 ·have : ¬ id = i := fun e => h e.symm;simp [h, this]
theorem small1_next {id : Nat} {o : Obj} : (small [(id, o)]).next = id + 1 := by simp [small, nextOf]
theorem small_esc {l : List (Nat × Obj)} : (small l).esc = false := rfl
theorem small0 : small [] = .empty := by
 show (⟨_, _, _, _⟩ : St) = ⟨_, _, _, _⟩;simp [nextOf, clkOf]
attribute [simp] ext_tup prep_d prep_ptr prep_mp prep_fn prep_lit prep_nil argT_nil prep_ar prep_agg ref_d ref_lit ref_own ref_ptr objRef_cells argT_d argT_ptr argT_fn celT_d celT_lit celT_own celT_ptr objT_cells stamp_d stamp_lit stamp_ptr stamp_own stampO_cells small1_obj small1_next small_esc small0
end Go.VM
end
section
namespace Go.VM
open Go.RowKit
variable {P : Program} {t e : TypeId} {α β : Type}
abbrev lim : Nat := 140737488351232
abbrev Old (w : World) : Nat → Prop := fun b => b < w.heap.size
structure Opens (P : Program) (t : TypeId) (enc : α → List D) (ok : α → Prop) : Prop where
 go : ∀ {H : Type} (en : TypeId × Value → H) (w : World) (base : Nat) (spare : Nat → Bool) (held : Bool) (fuel : Nat) (cs : List Value) (x : DataW H × List MemPlace),
  DataW.trod en P w base spare held fuel t cs = some x → (∀ n ∈ x.1.weights P t, n ≤ lim) → ∃ a, ok a ∧ (enc a).length = cs.length ∧ (∀ d ∈ enc a, d.one = true) ∧
   ∀ (i : Nat) (d : D) (c : Value), (enc a)[i]? = some d → cs[i]? = some c → Rep w (Old w) d c
theorem Opens.map {enc : α → List D} {ok : α → Prop} (h : Opens P t enc ok) {enc' : β → List D} {ok' : β → Prop} (g : α → β) (hg : ∀ a, ok a → enc' (g a) = enc a ∧ ok' (g a)) : Opens P t enc' ok' where
 go en w base spare held fuel cs x hx hz := by
  obtain ⟨a, h1, h2, h3, h4⟩ := h.go en w base spare held fuel cs x hx hz;obtain ⟨e1, e2⟩ := hg a h1;exact ⟨g a, e2, by rw [e1]; exact h2, by rw [e1]; exact h3, by rw [e1]; exact h4⟩
theorem one_rep {w : World} {d0 : D} {c0 : Value} (h : Rep w (Old w) d0 c0) : ∀ (i : Nat) (d : D) (c : Value), [d0][i]? = some d → [c0][i]? = some c → Rep w (Old w) d c := by
 intro i d c h1 h2
 cases i with
 | zero => simp at h1 h2; subst h1 h2; exact h
 | succ i => simp at h1
theorem opens_int {k : IntKind} (ht : P.underlying t = some (.int k)) : Opens P t (fun n : Int => [.int k n]) fun n => (Lit.int k n).wf = true where
 go en w base spare held fuel cs x hx _ := by
  obtain ⟨n, rfl, rfl, hw⟩ := DataW.trod_int ht hx;exact ⟨n, hw, rfl, by simp [D.one], one_rep (.int k n)⟩
theorem opens_bool (ht : P.underlying t = some .bool) : Opens P t (fun b : Bool => [.bool b]) fun _ => True where
 go en w base spare held fuel cs x hx _ := by
  obtain ⟨b, rfl, rfl⟩ := DataW.trod_bool ht hx;exact ⟨b, trivial, rfl, by simp [D.one], one_rep (.bool b)⟩
theorem opens_str (ht : P.underlying t = some .string) : Opens P t (fun s : List UInt8 => [.str s]) fun s => s.length ≤ lim where
 go en w base spare held fuel cs x hx hz := by
  obtain ⟨s, rfl, rfl, hs⟩ := DataW.trod_string ht hx;refine ⟨s.data.toList, hz _ (by simp [DataW.weights]), rfl, by simp [D.one], one_rep (.str s ?_)⟩
  unfold maxLen at hs; omega
theorem choices {p : Nat → α → Prop} : ∀ n, (∀ i, i < n → ∃ a, p i a) → ∃ l : List α, l.length = n ∧ ∀ (i : Nat) (a : α), l[i]? = some a → p i a := by
 intro n
 induction n with
 | zero => intro _; exact ⟨[], rfl, fun i a h => by simp at h⟩
 | succ n ih =>
  intro h;obtain ⟨l, h1, h2⟩ := ih fun i hi => h i (by omega)
  obtain ⟨a, ha⟩ := h n (by omega)
  refine ⟨l ++ [a], by simp [h1], fun i b hb => ?_⟩
  by_cases hi : i < n
  ·rw [List.getElem?_append_left (by omega)] at hb
   exact h2 i b hb
  ·have : i = n := by have := (List.getElem?_eq_some_iff.1 hb).1; simp at this; omega
   subst this;rw [List.getElem?_append_right (by omega)] at hb
   simp [h1] at hb;subst hb; exact ha
theorem weights_all {H : Type} : ∀ {l : List (DataW H)} {d : DataW H}, d ∈ l → ∀ n ∈ d.weights P e, n ∈ DataW.weightsAll P e l := by
 intro l
 induction l with
 | nil => intro d h; cases h
 | cons c l ih =>
  intro d h n hn;simp only [DataW.weightsAll, List.mem_append]
  cases h with
  | head => exact .inl hn
  | tail _ h => exact .inr (ih h n hn)
theorem opens_slice {enc : α → List D} {ok : α → Prop} {es bs : Nat} (ht : P.underlying t = some (.slice e)) (hc : P.cellsOf e = es) (hbs : P.bytesOf e = bs) (h0 : 0 < es) (h : Opens P e enc ok) (enc1 : α → D) (h1 : ∀ a, (enc1 a).cells = enc a) (hl : ∀ a, (enc a).length = es) :
  Opens P t (fun l : List α => [.sl (rowD enc1 l)]) fun l => (∀ a ∈ l, ok a) ∧ l.length * bs ≤ lim where
 go en w base spare held fuel cs x hx hz := by
  rcases DataW.trod_slice ht hx with ⟨rfl, _⟩ | ⟨a, len, cap, elems, rest, n, _, rfl, hxe, hb, hlc, hm, hlen, hel, _⟩
  ·exact ⟨[], ⟨by simp, by simp⟩, rfl, by simp [D.one], one_rep (.empty none 0 (by decide))⟩
  ·rw [hc] at hel;have hz1 : ∀ i (hi : i < elems.length), ∀ n ∈ (elems[i]).1.weights P e, n ≤ lim := by
    intro i hi n hn;refine hz n ?_;rw [hxe];simp only [DataW.weights, ht, List.mem_cons, List.mem_append];exact .inr (.inl (weights_all (List.mem_map.2 ⟨elems[i], List.getElem_mem hi, rfl⟩) n hn))
   have hz2 : len * bs ≤ lim := by
    have := hz ((elems.length + rest.length) * P.bytesOf e) (by rw [hxe]; simp [DataW.weights, ht])
    rw [hbs, hlen] at this;exact Nat.le_trans (Nat.mul_le_mul_right bs (Nat.le_add_right len rest.length)) this
   have each : ∀ i, i < len → ∃ b, ok b ∧ ∀ (j : Nat) (d : D), (enc b)[j]? = some d → d.one = true ∧ ∃ v, w.cell? (a.add (i * es + j)) = some v ∧ Rep w (Old w) d v := by
    intro i hi;have hi' : i < elems.length := by omega
    have hel := hel i hi;rw [List.getElem?_eq_getElem hi'] at hel;obtain ⟨cs, hcs, htr⟩ := Option.bind_eq_some_iff.1 hel;obtain ⟨_, k2, k3⟩ := World.cells?_some hcs;obtain ⟨b, b1, b2, b3, b4⟩ := h.go en w base spare held n cs _ htr (hz1 i hi');refine ⟨b, b1, fun j d hj => ⟨b3 d (List.mem_of_getElem? hj), ?_⟩⟩;have hjl : j < es := by have := (List.getElem?_eq_some_iff.1 hj).1; rw [hl] at this; exact this
    have hjc : j < cs.length := by omega
    refine ⟨cs[j], ?_, b4 j d cs[j] hj (List.getElem?_eq_getElem hjc)⟩;have := k3 j hjl;rw [List.getElem?_eq_getElem hjc] at this;rw [← this];by_cases q1 : i * es = 0 <;> by_cases q2 : j = 0 <;> simp [Addr.add, q1, q2, Nat.add_assoc]
   obtain ⟨l, l1, l2⟩ := choices len each;refine ⟨l, ⟨fun b hb => ?_, by rw [l1]; exact hz2⟩, rfl, by simp [D.one], one_rep ?_⟩
   ·obtain ⟨i, hi⟩ := List.getElem?_of_mem hb;exact (l2 i b hi).1
   ·by_cases hz : len = 0
    ·have hnil : l = [] := by cases l with
      | nil => rfl
      | cons b l => simp at l1; omega
     subst hnil hz;exact .empty _ _ hm
    ·have hget : ∀ (i : Nat) (x : D), (rowD enc1 l)[i]? = some x → ∃ b, l[i]? = some b ∧ x = enc1 b := by
      intro i x hx;rw [rowD, List.getElem?_map] at hx
      cases hli : l[i]? with
      | none => rw [hli] at hx; cases hx
      | some b => rw [hli] at hx; cases hx; exact ⟨b, rfl, rfl⟩
     have hspot : a.spot = none ∧ a.block < w.heap.size := by
      have hl0 : 0 < l.length := by omega
      have hb0 := l2 0 l[0] (List.getElem?_eq_getElem hl0);have he : 0 < (enc l[0]).length := by rw [hl]; exact h0
      obtain ⟨_, v, hv, _⟩ := hb0.2 0 _ (List.getElem?_eq_getElem he);have hsp := World.cell?_spot hv;have hsp' : a.spot = none := by simpa [Addr.add] using hsp
      refine ⟨hsp', ?_⟩;have : a.add (0 * es + 0) = a := by obtain ⟨b, o, s⟩ := a; simp [Addr.add]
      rw [this] at hv;obtain ⟨b, o, s⟩ := a;simp only at hsp';subst hsp';obtain ⟨c, ee, f, hh, _⟩ := cell_of_some hv;exact lt_size hh
     obtain ⟨b, off, s⟩ := a;obtain ⟨hs, hlt⟩ := hspot;simp only at hs hlt;subst hs;have hadd : ∀ k, (⟨b, off, none⟩ : Addr).add k = ⟨b, off + k, none⟩ := fun k => Addr.add_mid b off k;have hlen' : (rowD enc1 l).length = len := by simp [l1]
     have hrep : Rep w (Old w) (.sl (rowD enc1 l)) (.slice (some ⟨b, off, none⟩) (rowD enc1 l).length cap) := by
      refine Rep.sl (rowD enc1 l) b off cap es hlt (by omega) hm (fun x hx => ?_) (fun x hx d hd => ?_) (fun i j => (w.cell? ⟨b, off + i * es + j, none⟩).getD undef) (fun i j x d e1 e2 => ?_) (fun i j x d e1 e2 => ?_)
      ·obtain ⟨c, _, rfl⟩ := List.mem_map.1 hx;rw [h1, hl]
      ·obtain ⟨i, hi⟩ := List.getElem?_of_mem hx;obtain ⟨b', hb', rfl⟩ := hget i x hi;rw [h1] at hd;obtain ⟨j, hj⟩ := List.getElem?_of_mem hd;exact ((l2 i b' hb').2 j d hj).1
      ·obtain ⟨b', hb', rfl⟩ := hget i x e1;rw [h1] at e2;obtain ⟨_, v, hv, _⟩ := (l2 i b' hb').2 j d e2;rw [hadd, ← Nat.add_assoc] at hv;rw [hv]; rfl
      ·obtain ⟨b', hb', rfl⟩ := hget i x e1;rw [h1] at e2;obtain ⟨_, v, hv, hr⟩ := (l2 i b' hb').2 j d e2;rw [hadd, ← Nat.add_assoc] at hv;rw [hv]; exact hr
     rw [hlen'] at hrep;exact hrep
structure OpensF (P : Program) (off : Nat) (fs : List Field) (enc : α → List D) (ok : α → Prop) : Prop where
 go : ∀ {H : Type} (en : TypeId × Value → H) (w : World) (base : Nat) (spare : Nat → Bool) (held : Bool) (fuel : Nat) (cs : List Value) (xs : List (DataW H × List MemPlace)), xs.length = fs.length →
  (∀ (i : Nat) (f : Field), fs[i]? = some f → DataW.trod en P w base spare held fuel f.type ((cs.drop f.offset).take (P.cellsOf f.type)) = xs[i]?) →
  (∀ n ∈ DataW.weightsEach P (fs.map (·.type)) (xs.map (·.1)), n ≤ lim) → ∃ a, ok a ∧ (∀ d ∈ enc a, d.one = true) ∧ off + (enc a).length ≤ max off cs.length ∧ ∀ (i : Nat) (d : D) (c : Value), (enc a)[i]? = some d → (cs.drop off)[i]? = some c → Rep w (Old w) d c
theorem opensF_nil {off : Nat} : OpensF P off [] (fun _ : Unit => []) fun _ => True where
 go en w base spare held fuel cs xs hx h _ := ⟨(), trivial, by simp, by simp; omega, fun i d c h1 => by simp at h1⟩
theorem opensF_cons {off n : Nat} {f : Field} {fs : List Field} {enc1 : α → List D} {ok1 : α → Prop} {enc2 : β → List D} {ok2 : β → Prop} (ho : f.offset = off) (hn : P.cellsOf f.type = n) (h0 : 0 < n) (hl : ∀ a, (enc1 a).length = n)
  (h1 : Opens P f.type enc1 ok1) (h2 : OpensF P (off + n) fs enc2 ok2) : OpensF P off (f :: fs) (fun p : α × β => enc1 p.1 ++ enc2 p.2) fun p => ok1 p.1 ∧ ok2 p.2 where
 go en w base spare held fuel cs xs hx h hz := by
  cases xs with
  | nil => simp at hx
  | cons x xs =>
   have q := h 0 f rfl;rw [ho, hn] at q;obtain ⟨a, a1, a2, a3, a4⟩ := h1.go en w base spare held fuel _ x (by simpa using q) (fun m hm => hz m (by simp only [List.map_cons, DataW.weightsEach, List.mem_append]; exact .inl hm))
   obtain ⟨b, b1, b2, b3, b4⟩ := h2.go en w base spare held fuel cs xs (by simpa using hx) (fun i g hg => by simpa using h (i + 1) g (by simpa using hg)) (fun m hm => hz m (by simp only [List.map_cons, DataW.weightsEach, List.mem_append]; exact .inr hm))
   have hlen : n ≤ cs.length - off := by
    rw [hl] at a2;simp at a2; omega
   refine ⟨(a, b), ⟨a1, b1⟩, fun d hd => ?_, ?_, fun i d c e1 e2 => ?_⟩
   ·rcases List.mem_append.1 hd with hd | hd
    ·exact a3 d hd
    ·exact b2 d hd
   ·simp only [List.length_append, hl]; omega
   ·by_cases hi : i < n
    ·rw [List.getElem?_append_left (by rw [hl]; exact hi)] at e1
     refine a4 i d c e1 ?_;rw [List.getElem?_take, if_pos hi]; exact e2
    ·rw [List.getElem?_append_right (by rw [hl]; omega), hl] at e1
     refine b4 (i - n) d c e1 ?_;rw [List.getElem?_drop] at e2 ⊢;rw [← e2]; congr 1; omega
theorem opens_struct {fs : Array Field} {enc : α → List D} {ok : α → Prop} {n : Nat} (ht : P.underlying t = some (.struct fs)) (hn : P.cellsOf t = n) (hl : ∀ a, (enc a).length = n) (h : OpensF P 0 fs.toList enc ok) : Opens P t enc ok where
 go en w base spare held fuel cs x hx hz := by
  obtain ⟨xs, m, _, hxe, h2, h3, h4⟩ := DataW.trod_struct ht hx;obtain ⟨a, a1, a2, a3, a4⟩ := h.go en w base spare held m cs xs (by simpa using h3) (fun i f hf => h4 i f (by simpa using hf)) (fun m hm => hz m (by rw [hxe]; simp only [DataW.weights, ht]; exact hm))
  refine ⟨a, a1, by rw [hl, h2, hn], a2, fun i d c e1 e2 => a4 i d c e1 (by simpa using e2)⟩
theorem opens_struct2 {α1 α2 : Type} {f1 f2 : Field} {n1 n2 : Nat} {e1 : α1 → List D} {k1 : α1 → Prop} {e2 : α2 → List D} {k2 : α2 → Prop} (ht : P.underlying t = some (.struct #[f1, f2])) (h1 : Opens P f1.type e1 k1) (l1 : ∀ a, (e1 a).length = n1) (h2 : Opens P f2.type e2 k2) (l2 : ∀ a, (e2 a).length = n2) (z1 : 0 < n1) (z2 : 0 < n2) (hn : P.cellsOf t = n1 + n2) (o1 : f1.offset = 0) (o2 : f2.offset = 0 + n1) (c1 : P.cellsOf f1.type = n1) (c2 : P.cellsOf f2.type = n2) : Opens P t (fun p : α1 × α2 × Unit => e1 p.1 ++ (e2 p.2.1 ++ ([]))) fun p => k1 p.1 ∧ k2 p.2.1 ∧ True := by
 refine opens_struct ht hn (fun a => by simp [l1, l2]) ?_
 have q := (opensF_cons o1 c1 z1 l1 h1 (opensF_cons o2 c2 z2 l2 h2 opensF_nil));exact q
theorem opens_struct4 {α1 α2 α3 α4 : Type} {f1 f2 f3 f4 : Field} {n1 n2 n3 n4 : Nat} {e1 : α1 → List D} {k1 : α1 → Prop} {e2 : α2 → List D} {k2 : α2 → Prop} {e3 : α3 → List D} {k3 : α3 → Prop} {e4 : α4 → List D} {k4 : α4 → Prop} (ht : P.underlying t = some (.struct #[f1, f2, f3, f4])) (h1 : Opens P f1.type e1 k1) (l1 : ∀ a, (e1 a).length = n1) (h2 : Opens P f2.type e2 k2) (l2 : ∀ a, (e2 a).length = n2) (h3 : Opens P f3.type e3 k3) (l3 : ∀ a, (e3 a).length = n3) (h4 : Opens P f4.type e4 k4) (l4 : ∀ a, (e4 a).length = n4) (z1 : 0 < n1) (z2 : 0 < n2) (z3 : 0 < n3) (z4 : 0 < n4) (hn : P.cellsOf t = n1 + n2 + n3 + n4) (o1 : f1.offset = 0) (o2 : f2.offset = 0 + n1) (o3 : f3.offset = 0 + n1 + n2) (o4 : f4.offset = 0 + n1 + n2 + n3) (c1 : P.cellsOf f1.type = n1) (c2 : P.cellsOf f2.type = n2) (c3 : P.cellsOf f3.type = n3) (c4 : P.cellsOf f4.type = n4) : Opens P t (fun p : α1 × α2 × α3 × α4 × Unit => e1 p.1 ++ (e2 p.2.1 ++ (e3 p.2.2.1 ++ (e4 p.2.2.2.1 ++ ([]))))) fun p => k1 p.1 ∧ k2 p.2.1 ∧ k3 p.2.2.1 ∧ k4 p.2.2.2.1 ∧ True := by
 refine opens_struct ht hn (fun a => by simp [l1, l2, l3, l4, Nat.add_assoc]) ?_
 have q := (opensF_cons o1 c1 z1 l1 h1 (opensF_cons o2 c2 z2 l2 h2 (opensF_cons o3 c3 z3 l3 h3 (opensF_cons o4 c4 z4 l4 h4 opensF_nil))));exact q
theorem arg_one {enc : α → List D} {ok : α → Prop} (ho : Opens P t enc ok) (enc1 : α → D) (h1 : ∀ a, enc a = [enc1 a]) (hg : tyAgg P t = some false) {H : Type} {en : TypeId × Value → H} {w : World} {r : Reach} {b0 base : Nat} {spare : Nat → Bool} {held : Bool} {v : Value} {d : DataW H} {ps : List MemPlace}
  (hv : Value.okWide P w r b0 t v) (h : DataW.Trod en P w base spare held t v d ps) (hz : ∀ n ∈ d.weights P t, n ≤ lim) : ∃ a, ok a ∧ Rep w (Old w) (enc1 a) v := by
 obtain ⟨fuel, hf⟩ := h;obtain ⟨a, a1, a2, a3, a4⟩ := ho.go en w base spare held fuel _ _ hf hz;rw [h1] at a2 a4;have hcell : v.cells.toList = [v] := by
  unfold tyAgg at hg
  cases hu : P.underlying t with
  | none => rw [hu] at hg; cases hg
  | some ty =>
   rw [hu] at hg
   cases v with
   | agg cs =>
    exfalso
    unfold Value.okWide at hv;rw [hu] at hv
    cases ty <;> simp_all [isRowT, Cell.okWide, Cell.ok]
   | _ => rfl
 rw [hcell] at a4;exact ⟨a, a1, a4 0 _ _ rfl rfl⟩
theorem dargs_nil {w : World} {St : Nat → Prop} : DArgs w St [] [] := ⟨rfl, fun i d v h => by simp at h⟩
theorem dargs_cons {w : World} {St : Nat → Prop} {d : D} {v : Value} {ds : List D} {vs : List Value} (h : Rep w St d v) (k : DArgs w St ds vs) : DArgs w St (d :: ds) (v :: vs) := by
 refine ⟨by simp [k.1], fun i d' v' h1 h2 => ?_⟩
 cases i with
 | zero => simp at h1 h2; subst h1 h2; exact h
 | succ i => exact k.2 i d' v' (by simpa using h1) (by simpa using h2)
end Go.VM
end
section
namespace Go.VM
variable {cfg : Cfg} {e : Env} {S : St} {K : LV → St → List Nat → List Nat → Prop} {Q : LV → St → Prop}
end Go.VM
end
section
namespace Go.VM
variable {cfg : Cfg} {e : Env} {S : St} {Q : Ex → Env → St → Prop}
theorem X_range {g : Operand} {ps : Array Tmp} {as bd : Code} {t : Tag (Code.rangeFunc g ps as bd)} {f : FuncId} {caps : List LV} (hg : Operand.lv e g = .fn f caps) (hf : f ≠ YID)
  (h : SQ cfg f (.yl S.next :: caps) (S.alloc (.loop ⟨ps.toList, as, bd, e, .rdy⟩)) fun _ S' => (endY S.next e S').holds fun r => Q r.1 r.2.1 r.2.2) : PX cfg (hold (.rangeFunc g ps as bd) t) e S Q := by
 obtain ⟨n, h⟩ := h;refine ⟨n, ?_⟩;show (pexec cfg (callV cfg n) (ev cfg n) n (.rangeFunc g ps as bd) e S).holds _;simp only [pexec, hg];rw [if_neg hf, holds_bind];exact h
theorem endY_rdy {id : Nat} {L : LoopO} {K : Ex × Env × St → Prop} (ho : S.obj id = .loop L) (hst : L.st = .rdy) (h : K (.normal, e, S.set id .dead)) : (endY id e S).holds K := by
 simp only [endY, ho, hst]; exact h
theorem endY_ret {id : Nat} {L : LoopO} {K : Ex × Env × St → Prop} (ho : S.obj id = .loop L) (hst : L.st = .out none) (h : K (.ret, e, S.set id .dead)) : (endY id e S).holds K := by
 simp only [endY, ho, hst]; exact h
theorem S_yield {id : Nat} {args : List LV} {L : LoopO} {Q : LV → St → Prop} (hY : cfg.P.funcs[YID]? = none) (ho : S.obj id = .loop L) (hl : args.length = L.ps.length) (hst : L.st = .rdy)
  (h : PX cfg (hold L.as .mk) (setPs L.e L.ps args) S (hold (fun x e1 S1 => x = .normal ∧ ∃ L1, S1.obj id = .loop L1 ∧ L1.st = .rdy ∧
   PX cfg (hold L.bd .mk) e1 (S1.set id (.loop { L1 with st := .busy })) (hold (fun x2 _ S2 => ∃ L2, S2.obj id = .loop L2 ∧ Q (.d (.bool x2.on)) (S2.set id (.loop { L2 with st := x2.lst }))) .mk)) .mk)) : SQ cfg YID (.yl id :: args) S Q := by
 have key : ∃ n, (runY (pexec cfg (callV cfg n) (ev cfg n) n) id args S).holds fun r => Q r.1 r.2 := by
  simp only [runY, ho];simp only [hl, hst, and_self, if_true];refine (ex_bind (fun n m h => PX_up h L.as _ S) (fun n m a h => ?_)).2 ?_
  ·split
   ·split
    ·exact (PX_up h _ _ _).bind fun q => .refl _
    ·exact .refl _
   ·exact .refl _
  ·obtain ⟨n, h⟩ := h;refine ⟨n, holds_mono (fun r hr => ?_) h⟩;obtain ⟨x, e1, S1⟩ := r;obtain ⟨hx, L1, h1, h2, h3⟩ := hr;simp only at hx h1 h2 h3;subst hx;simp only [h1, if_pos h2];refine (ex_bind (fun n m h => PX_up h L.bd _ _) (fun n m a h => .refl _)).2 ?_;obtain ⟨m, h3⟩ := h3;refine ⟨m, holds_mono (fun q hq => ⟨0, ?_⟩) h3⟩;obtain ⟨x2, e2, S2⟩ := q;obtain ⟨L2, k1, k2⟩ := hq;simp only at k1 k2;simp only [k1];exact k2
 obtain ⟨n, h⟩ := key;refine ⟨n + 1, ?_⟩;rw [ev_succ, hY];simp only [if_true];exact h
end Go.VM
end
section
namespace Go.VM
open Go.RowKit
open Go.ChangeMaps (setBlock)
variable {w w' w0 w1 w2 : World} {G G' G0 G1 G2 : Gh} {S S' S1 S2 : Go.VM.St} {P : Program}
def freeG (G : Gh) (bm : Nat) : Gh := { G with own := fun b => if b = bm then none else G.own b }
theorem aside {id : Nat} {ks : Option IntKind} {es : List (D × D)} (hr : Rel w G S) (ho : S.obj id = .mp ks es) :
  Rel w (freeG G (G.addr (.arr id)).1) (S.set id .dead) ∧ Ext w G w (freeG G (G.addr (.arr id)).1) := by
 have hob := hr.obj id;rw [ho] at hob;obtain ⟨hks, hd, hw, en, cl, hh, hsz, hcl, hbn⟩ := hob;have hx : Ext w G w (freeG G (G.addr (.arr id)).1) := ⟨Nat.le_refl _, rfl, rfl, rfl, fun _ _ _ _ => rfl, fun b hb c e f hh => ⟨f, hh⟩, fun _ h => h, fun _ h => h, fun _ h => ⟨h, rfl, rfl, rfl⟩,
  fun b _ h => by
   simp only [freeG];split
   ·rfl
   ·exact h, fun b _ h => .inl h, fun b _ h => h⟩
 refine ⟨⟨⟨fun b l hb => ?_, hr.wf.st, hr.wf.lt, hr.wf.max⟩, fun j => ?_⟩, hx⟩
 ·simp only [freeG] at hb;split at hb
  ·cases hb
  ·exact hr.wf.own b l hb
 ·simp only [St.set];split
  ·trivial
  ·rename_i hj;refine (hr.obj j).keep hr.wf hx (X := fun l => l = .arr id) (fun b l hb hl => ⟨rfl, ?_⟩) (fun l hl e => hj (by rw [← hl, e]; rfl))
   simp only [freeG];rw [if_neg]
   ·exact hb
   ·intro e;rw [e, hw] at hb;exact hl (Option.some.inj hb).symm
def backG (G : Gh) (bm : Nat) (l : Loc) : Gh := { G with own := fun b => if b = bm then some l else G.own b }
theorem lv_backG {bm : Nat} {l : Loc} {x : LV} {v : Value} (hv : LVRel w G x v) : LVRel w (backG G bm l) x v := by
 induction hv with
 | d x v hx => exact .d x v hx
 | lit xs a hx hl hn => exact .lit xs a hx hl hn
 | ar l' sz lo len cap a hd hs hb hcc ha => exact .ar (G := backG G bm l) l' sz lo len cap a hd hs hb hcc ha
 | ptr id off hd => exact .ptr (G := backG G bm l) id off hd
 | elp l' sz i off hd hs hi => exact .elp (G := backG G bm l) l' sz i off hd hs hi
 | cp cs b off hs ho f h1 h2 => exact .cp (G := backG G bm l) cs b off hs ho f h1 h2
 | agg cs vs hl _ ho ih => exact .agg cs vs hl ih ho
 | tup cs vs hl _ ih => exact .tup cs vs hl ih
 | fn f cs vs hl _ ih => exact .fn f cs vs hl ih
 | mp id hd => exact .mp (G := backG G bm l) id hd
 | yl id hd => exact .yl (G := backG G bm l) id hd
 | un v => exact .un v
theorem back_map {id bm cl : Nat} {ks : Option IntKind} {es : List (D × D)} {en : Array MapEntry} (hr : Rel w G S) (hx : Ext w0 G0 w G) (hw0 : G0.Wf w0) (hks : ∀ p ∈ es, p.1.isKey ks = true) (hd : G0.dom (.arr id)) (ha : (G0.addr (.arr id)).1 = bm) (hb0 : bm < w0.heap.size) (hn : G0.own bm = none) (hs : ¬ G0.St bm)
  (hh : w.heap[bm]? = some (.map en cl)) (hsz : en.size = es.length) (hcl : ∀ (i : Nat) (p : D × D) (q : MapEntry), es[i]? = some p → en[i]? = some q → Rep w0 G0.St p.1 q.key ∧ Rep w0 G0.St p.2 q.val) (hbn : Born en cl) :
  Rel w (backG G bm (.arr id)) (S.set id (.mp ks es)) ∧ (∀ b, b ≠ bm → (backG G bm (.arr id)).own b = G.own b) := by
 have hnow := hx.own' bm hb0 hn;have hst : ¬ G.St bm := fun h => by
  rcases hx.st' bm hb0 h with h | h
  ·exact hs h
  ·exact h hn
 obtain ⟨k1, k2, _⟩ := hx.dom _ hd;have hx2 : Ext w G w (backG G bm (.arr id)) → True := fun _ => trivial;refine ⟨⟨⟨fun b l hb => ?_, hr.wf.st, hr.wf.lt, hr.wf.max⟩, fun j => ?_⟩, fun b hb => by simp only [backG]; rw [if_neg hb]⟩
 ·simp only [backG] at hb;split at hb
  ·rename_i e; subst e; exact ⟨lt_size hh, hst⟩
  ·exact hr.wf.own b l hb
 ·simp only [St.set];split
  ·rename_i e; subst e;refine ⟨hks, k1, ?_, en, cl, ?_, hsz, fun i p q a b => ?_, hbn⟩
   ·show (if (G.addr (.arr j)).1 = bm then some (Loc.arr j) else G.own (G.addr (.arr j)).1) = some (.arr j);rw [k2, ha, if_pos rfl]
   ·show w.heap[(G.addr (.arr j)).1]? = _;rw [k2, ha]; exact hh
   ·obtain ⟨g1, g2⟩ := hcl i p q a b;exact ⟨g1.ext hw0 hx, g2.ext hw0 hx⟩
  ·rename_i hj;have h := hr.obj j;have hown : ∀ {b : Nat} {l : Loc}, G.own b = some l → (backG G bm (.arr id)).own b = some l := by
    intro b l hb;simp only [backG];rw [if_neg]
    ·exact hb
    ·intro e; rw [e, hnow] at hb; cases hb
   have lv : ∀ {x : LV} {v : Value}, LVRel w G x v → LVRel w (backG G bm (.arr id)) x v := fun hv => lv_backG hv;have arr : ∀ {l : Loc} {sz : Nat} {xs : List D} {fz : Bool}, ArrRel w G l sz xs fz → ArrRel w (backG G bm (.arr id)) l sz xs fz := by
    intro l sz xs fz h;refine ⟨h.dom, h.esz, h.hz, h.ho, h.len, fun hcap => ?_⟩;obtain ⟨c, e, f, h1, h2, h3, h4⟩ := h.row hcap;refine ⟨c, e, f, h1, h2, h3, ?_⟩
    cases fz with
    | true => exact h4
    | false =>
     simp only [Bool.false_eq_true, if_false] at h4 ⊢;exact ⟨hown h4.1, h4.2⟩
   cases hob : S.obj j with
   | dead => trivial
   | cells cs =>
    rw [hob] at h;obtain ⟨hd, hw, c, e, f, hh, hsz, hf, h1c, hcl⟩ := h;refine ⟨hd, hown hw, c, e, f, hh, hsz, hf, h1c, fun k lv' v a b => ?_⟩;have hcell := hcl k lv' v a b
    cases lv' with
    | own ver sz xs fz =>
     obtain ⟨⟨a, cap, p1, p2⟩, p3⟩ := hcell;exact ⟨⟨a, cap, p1, lv p2⟩, arr p3⟩
    | _ => exact lv hcell
   | arr sz xs fz => rw [hob] at h; exact arr h
   | mp ks es =>
    rw [hob] at h;obtain ⟨hks, hd, hw, en, cl, hh, hsz, hcl, hbn⟩ := h;exact ⟨hks, hd, hown hw, en, cl, hh, hsz, hcl, hbn⟩
   | loop L =>
    rw [hob] at h;obtain ⟨hd, hw, r, hh, hL⟩ := h;exact ⟨hd, hown hw, r, hh, hL.ps, hL.as, hL.bd, hL.okA, hL.okB, hL.okP, fun i => lv (hL.env i), hL.st⟩
def iterG (G : Gh) (N r : Nat) : Gh := { G with dom := fun l => l = .arr N ∨ G.dom l, addr := fun l => if l = .arr N then (r, 0) else G.addr l, cap := fun l => if l = .arr N then 0 else G.cap l, esz := fun l => if l = .arr N then 0 else G.esz l }
theorem iter_new (hr : Rel w G S) (hf : Fresh G S) (o : Go.Obj) : Rel (w.alloc o) (iterG G S.next w.heap.size) (S.alloc .dead) ∧ Ext w G (w.alloc o) (iterG G S.next w.heap.size) ∧ Fresh (iterG G S.next w.heap.size) (S.alloc .dead) := by
 have hnd : ¬ G.dom (.arr S.next) := fun h => by have := hf _ h; exact Nat.lt_irrefl _ this
 have hsz : (w.alloc o).heap.size = w.heap.size + 1 := by show (w.heap.push o).size = _; simp
 have hold : ∀ b, b < w.heap.size → (w.alloc o).heap[b]? = w.heap[b]? := fun b hb => by
  show (w.heap.push o)[b]? = _;rw [Array.getElem?_push_lt hb, Array.getElem?_eq_getElem hb]
 have hx : Ext w G (w.alloc o) (iterG G S.next w.heap.size) := ⟨by omega, rfl, rfl, rfl, fun b hb _ _ => hold b hb, fun b hb c e f hh => ⟨f, (hold b (lt_size hh)).trans hh⟩, fun _ h => h, fun _ h => h,
  fun l hl => by
   have hne : l ≠ .arr S.next := fun e => hnd (e ▸ hl);simp [iterG, hl, hne], fun _ _ h => h, fun b _ h => .inl h, fun b _ h => h⟩
 refine ⟨⟨⟨fun b l hb => ?_, fun b hb => ?_, hr.wf.lt, fun l => ?_⟩, fun j => ?_⟩, hx, fun l hl => ?_⟩
 ·obtain ⟨h1, h2⟩ := hr.wf.own b l hb;exact ⟨by omega, h2⟩
 ·have := hr.wf.st b hb; omega
 ·show (if l = .arr S.next then 0 else G.cap l) ≤ _;split
  ·omega
  ·exact hr.wf.max l
 ·simp only [St.alloc];split
  ·trivial
  ·exact (hr.obj j).keep hr.wf hx (X := fun _ => False) (fun b l hb _ => ⟨hold b (hr.wf.own b l hb).1, hb⟩) (fun _ _ h => h)
 ·rcases hl with rfl | hl
  ·exact Nat.lt_succ_self _
  ·have := hf l hl
   cases l with
   | arr id => exact Nat.lt_succ_of_lt this
   | cell id off v => exact this
theorem After.put {a0 a : Act} {e : Env} {r : Nat} {o x : Go.Obj} (h : After w0 G0 a0 e S w G a) (hr0 : w0.heap.size ≤ r) (ho : G.own r = none) (hs : ¬ G.St r) (hx : w.heap[r]? = some x) (hd : x ≠ .deferred (some [])) : After w0 G0 a0 e S (w.putObj r o) G a := by
 have hoth : ∀ b, b < w0.heap.size → (w.putObj r o).heap[b]? = w.heap[b]? := fun b hb => World.putObj_heap_other (by omega)
 refine ⟨h.rel.put ho hs, fun i => (h.env i).same (stays_put hs), ⟨by rw [World.putObj_size]; exact h.ext.size, h.ext.os, h.ext.tape, h.ext.out, fun b hb h1 h2 => (hoth b hb).trans (h.ext.oth b hb h1 h2), fun b hb c e f hh => ?_, h.ext.st, h.ext.ltt, h.ext.dom, h.ext.own', h.ext.st', h.ext.lt'⟩, h.fresh, h.size, ?_⟩
 ·obtain ⟨f', h1⟩ := h.ext.lt b hb c e f hh;exact ⟨f', (hoth b (lt_size hh)).trans h1⟩
 ·obtain ⟨ms, h1, h2⟩ := h.marks;refine ⟨ms, ⟨h1.nd, fun D hD => ?_⟩, h2⟩;obtain ⟨q1, q2, q3, q4⟩ := h1.at_ D hD;refine ⟨q1, q2, q3, ?_⟩;rw [World.putObj_heap_other]
  ·exact q4
  ·intro e;rw [e, hx] at q4;exact hd (Option.some.inj q4)
theorem After.drew {a0 a : Act} {e : Env} (h : After w0 G0 a0 e S w G a) : After w0 G0 a0 e S w.drew G a := by
 obtain ⟨h1, h2⟩ := Rel.same (w := w) (w0 := w.drew) ⟨rfl, rfl, rfl, rfl⟩ h.rel;obtain ⟨ms, h3, h4⟩ := h.marks;exact ⟨h1, fun i => (h.env i).ext h.rel.wf h2, h.ext.trans h2, h.fresh, h.size, ms, h3.ext h.rel.wf h2, h4⟩
theorem After.slot {a0 a : Act} {e : Env} (h : After w0 G0 a0 e S w G a) {d : Nat} (hd : d < a.tmps.size) {lv : LV} {v : Value} (hv : LVRel w G lv v) : After w0 G0 a0 (e.set d lv) S w G (a.put (some d) v) :=
 ⟨h.rel, h.env.put (dst := some d) (fun x hx => by cases hx; exact hd) hv, h.ext, h.fresh, (put_size _ _ _).1.trans h.size, by
  obtain ⟨ms, h3, h4⟩ := h.marks;exact ⟨ms, h3, by rw [(put_size _ _ _).2]; exact h4⟩⟩
theorem wp_plain {o : Oper} {a : Act} {m : Nat} {v : Value} {K : Act → World → Prop} {Q : Exit → Act → World → Prop} (hrun : (execOp a.eval o).run P w = .ok (.value v) w') (hdef : ∀ c, o.op ≠ .defer c) (hk : K (a.put o.dst v) w') : o.wpIn (Fr none) m P a w K Q := by
 refine ⟨fun _ _ => trivial, ?_⟩;rw [Oper.semAt_eq _ _ _ hdef, hrun];exact hk
structure MapLoop (P : Program) (n : Nat) (ops : Array Oper) (k : Nat) (blk : Code) where
 t : TypeId
 rI : Tmp
 rM : Tmp
 rN : Tmp
 rE : Tmp
 rX : Tmp
 nops : Array Oper
 eops : Array Oper
 rest : Code
 bi : Nat
 bj : Nat
 i1 : Nat
 i2 : Nat
 o : Oper
 on : Oper
 ox : Oper
 oe : Oper
 size : ops.size = k + 1
 at_ : ops[k]? = some o
 op : o.op = .range t (.tmp rM) ∧ o.guard = none ∧ o.dst = some rI
 ty : ∃ kk ee, P.underlying t = some (.map kk ee)
 nx : nops = #[on, ox] ∧ on.op = .next (.tmp rI) false ∧ on.guard = none ∧ on.dst = some rN ∧ ox.op = .extract (.tmp rN) 0 ∧ ox.guard = none ∧ ox.dst = some rE
 en : eops[0]? = some oe ∧ oe.op = .entry (.tmp rI) ∧ oe.guard = none ∧ oe.dst = some rX
 ok : okOps n eops.toList = true ∧ okCodeT true n rest = true ∧ rI < n ∧ rN < n ∧ rE < n ∧ rX < n
 ne : rI ≠ rN ∧ rI ≠ rE
 code : blk = .block bi (.loop (.seq (.region i1 nops false) (.seq (.cond (.tmp rE) .skip (.exit bi)) (.block bj (.seq (.region i2 eops false) rest)))))
theorem map_loop {cfg0 : Cfg} (hg : cfg0.Good P) {n k : Nat} {ops : Array Oper} {blk : Code} (L : MapLoop P n ops k blk) {id : Nat} {ks : Option IntKind} {es : List (D × D)} {e : Env} {a : Act} (J : List Nat → Env → Go.VM.St → Prop)
  (hr : Rel w G S) (hf : Fresh G S) (he : EnvRel w G e a) (hn : a.tmps.size = n) (hm : e L.rM = .mp id) (hob : S.obj id = .mp ks es)
  (h0 : J [] (e.set L.rI (.ptr S.next 0)) ((S.set id .dead).alloc .dead)) (hJ : ∀ vi e1 S1, J vi e1 S1 → e1 L.rI = .ptr S.next 0)
  (step : ∀ (vi : List Nat) (i : Nat) (p : D × D) (e1 : Env) (S1 : Go.VM.St), J vi e1 S1 → es[i]? = some p → i ∉ vi → PO cfg0 ((L.eops.toList.drop 1).map (sop L.eops.toList)) (((e1.set L.rN (.tup [.d (.bool true), .d p.1, .d p.2])).set L.rE (.d (.bool true))).set L.rX (.tup [.d p.1, .d p.2])) S1
   fun e2 S2 => PX cfg0 L.rest e2 S2 fun x e3 S3 => x = .normal ∧ J (vi ++ [i]) e3 S3)
  {m : Nat} {K : Act → World → Prop} {Q Z : Exit → Act → World → Prop}
  (fin : ∀ (vi : List Nat) (e1 : Env) (S1 : Go.VM.St) (w' : World) (G' : Gh) (a' : Act), J vi e1 S1 → vi.Nodup → (∀ i, i ∈ vi ↔ i < es.length) → After w G a ((e1.set L.rN (.tup [.d (.bool false)])).set L.rE (.d (.bool false))) (S1.set id (.mp ks es)) w' G' a' → K a' w') :
  wpOpsIn (Fr none) m P ops (Exit.then (blk.wpIn (Fr none) m P (Exit.then K Q)) Z) (List.range' k (ops.size - k)) a w := by
 obtain ⟨kk, ee, hty⟩ := L.ty;obtain ⟨hop, hgd, hdst⟩ := L.op;obtain ⟨hnops, hn1, hn2, hn3, hx1, hx2, hx3⟩ := L.nx;obtain ⟨he1, he2, he3, he4⟩ := L.en;obtain ⟨ok1, ok2, okI, okN, okE, okX⟩ := L.ok;have hobj := hr.obj id;rw [hob] at hobj;obtain ⟨hks, hd, hw, en, cl, hh, hsz, hcl, hbn⟩ := hobj;generalize hbm : (G.addr (.arr id)).1 = bm at hw hh;have hmv : a.eval (.tmp L.rM) = .map (some bm) := by
  have := he L.rM;rw [hm] at this;have e1 : a.eval (.tmp L.rM) = a.tmps.getD L.rM undef := rfl;rw [e1];generalize a.tmps.getD L.rM undef = v at this
  cases this with | mp _ _ => rw [hbm]
 have hnst : ¬ G.St bm := (hr.wf.own bm _ hw).2;have hbs : bm < w.heap.size := (hr.wf.own bm _ hw).1;obtain ⟨hrB, hxB⟩ := aside hr hob;rw [hbm] at hrB hxB;have hfB : Fresh (freeG G bm) (S.set id .dead) := fun l hl => by have := hf l hl; cases l <;> exact this
 have heB : EnvRel w (freeG G bm) e a := fun i => (he i).ext hr.wf hxB;have hnone : (freeG G bm).own bm = none := by simp [freeG]
 have hrg : ops.size - k = 1 := by have := L.size; omega
 rw [hrg];have hrun : (execOp a.eval L.o).run P w = .ok (.value (.pointer (some ⟨w.heap.size, 0, none⟩))) (w.alloc (.mapIter (some bm) cl #[] cl)) := by
  simp [execOp, hop, hmv, run_range_map w L.t kk ee bm en cl hty hh]
 have hwant : Region.wanted L.o (yielded ops a.tmps) = true := by simp [Region.wanted, hgd]
 simp only [List.range', wpOpsIn, L.at_, hwant, if_true];refine wp_plain hrun (by rw [hop]; intro c hc; cases hc) ?_
 rw [hdst];obtain ⟨q1, q2, q3⟩ := iter_new hrB hfB (.mapIter (some bm) cl #[] cl);generalize hr0 : w.heap.size = r at q1 q2 q3;have hwB : (freeG G bm).Wf w := hrB.wf;have hA0 : After w (freeG G bm) a e ((S.set id .dead).alloc .dead) (w.alloc (.mapIter (some bm) cl #[] cl)) (iterG (freeG G bm) S.next r) a := After.mk0 q1 (fun i => (heB i).ext hrB.wf q2) q2 q3 rfl rfl;have hA1 := hA0.slot (d := L.rI) (by rw [hn]; exact okI) (lv := .ptr S.next 0) (v := .pointer (some ⟨r, 0, none⟩)) (by
  have := LVRel.ptr (w := w.alloc (.mapIter (some bm) cl #[] cl)) (G := iterG (freeG G bm) S.next r) S.next 0 (.inl rfl);simpa [iterG] using this)
 have hit0 : (w.alloc (.mapIter (some bm) cl #[] cl)).heap[r]? = some (.mapIter (some bm) cl #[] cl) := by rw [← hr0]; exact heap_alloc_new _ _
 have key : ∀ (c : Code) (a1 : Act) (w1 : World), c = blk → c.wpIn (Fr none) m P (Exit.then K Q) a1 w1 → blk.wpIn (Fr none) m P (Exit.then K Q) a1 w1 := fun c a1 w1 h x => by cases h; exact x
 refine key _ _ _ L.code.symm ?_;refine wpIn_block ?_
 let I : Act → World → Prop := fun a1 w1 => ∃ vi e1 S1 G1 c0 seen, J vi e1 S1 ∧ After w (freeG G bm) a e1 S1 w1 G1 a1 ∧ G1.addr (.arr S.next) = (r, 0) ∧ G1.own r = none ∧ ¬ G1.St r ∧ w1.heap[r]? = some (.mapIter (some bm) cl seen c0) ∧ cl ≤ c0 ∧ vi.Nodup ∧ (∀ i ∈ vi, i < es.length) ∧ seen.toList = vi.map fun i => (en.getD i default).born
 let μ : Act → World → Nat := fun _ w1 => match w1.heap[r]? with
  | some (.mapIter _ _ seen _) => (leftOf en seen).size
  | _ => 0
 have hor : (iterG (freeG G bm) S.next r).own r = none := by
  cases ho : (iterG (freeG G bm) S.next r).own r with
  | none => rfl
  | some l => have := (hrB.wf.own r l ho).1; omega
 have hsr : ¬ (iterG (freeG G bm) S.next r).St r := fun h => by have := hrB.wf.st r h; omega
 refine wpIn_loop I μ ⟨[], _, _, _, cl, #[], h0, hA1, by simp [iterG], hor, hsr, hit0, Nat.le_refl _, List.nodup_nil, fun i h => (by cases h), rfl⟩ fun a1 w1 hI => ?_
 obtain ⟨vi, e1, S1, G1, c0, seen, j1, hA, haddr, hown, hst, hit, hc0, hnd, hlt, hseen⟩ := hI;have hsz1 : a1.tmps.size = n := hA.size.trans hn;have hm1 : w1.heap[bm]? = some (.map en cl) := (hA.ext.oth bm hbs hnone (fun h => hnst (hr.wf.lt _ h))).trans hh;have hval : ∀ {a' : Act} {x : Tmp}, a'.eval (.tmp x) = a'.tmps.getD x undef := rfl;have hiv : a1.eval (.tmp L.rI) = .pointer (some ⟨r, 0, none⟩) := by
  have := hA.env L.rI;rw [hJ _ _ _ j1] at this;rw [hval];generalize a1.tmps.getD L.rI undef = v at this
  cases this with | ptr _ _ _ => rw [haddr]
 have hwn : Region.wanted L.on (yielded L.nops a1.tmps) = true := by simp [Region.wanted, hn2]
 have hwx : ∀ t, Region.wanted L.ox (yielded L.nops t) = true := fun t => by simp [Region.wanted, hx2]
 have hnsz : List.range L.nops.size = [0, 1] := by rw [hnops]; rfl
 have g0 : L.nops[0]? = some L.on := by rw [hnops]; rfl
 have g1 : L.nops[1]? = some L.ox := by rw [hnops]; rfl
 refine wpIn_seq (wpIn_region ?_);rw [hnsz];simp only [wpOpsIn, g0, g1, hwn, hwx, if_true];rcases run_next_at (P := P) w1 L.on.type r bm cl c0 seen en cl hit hm1 hbn.2 hc0 with ⟨hz, hrun1⟩ | ⟨q, hq, w2', hw2, hrun1⟩
 ·-- nothing is left
  refine wp_plain (w' := w1) (v := .tuple #[.bool false]) (by simp [execOp, hn1, hiv, hrun1]) (by rw [hn1]; intro c hc; cases hc) ?_
  rw [hn3];have two : LVRel w1 G1 (.tup [.d (.bool false)]) (.tuple #[.bool false]) := .tup _ _ rfl (fun i c v h1 h2 => by
   cases i with
   | zero => simp at h1 h2; subst h1 h2; exact .d _ _ (.bool _)
   | succ i => simp at h1)
  have hA2 := hA.slot (d := L.rN) (by rw [hsz1]; exact okN) two
  have hsz2 : (a1.put (some L.rN) (.tuple #[.bool false])).tmps.size = n := hA2.size.trans hn;have hv2 : (a1.put (some L.rN) (.tuple #[.bool false])).eval (.tmp L.rN) = .tuple #[.bool false] := by
   rw [hval]; simp [Act.put, hsz1, okN]
  refine wp_plain (w' := w1) (v := .bool false) (by simp [execOp, hx1, hv2, Instr.extract]) (by rw [hx1]; intro c hc; cases hc) ?_
  rw [hx3];have hA3 := hA2.slot (d := L.rE) (by rw [hsz2]; exact okE) (lv := .d (.bool false)) (v := .bool false) (.d _ _ (.bool _))
  have hv3 : (((a1.put (some L.rN) (.tuple #[.bool false])).put (some L.rE) (.bool false))).eval (.tmp L.rE) = .bool false := by
   rw [hval];have : L.rE < (a1.put (some L.rN) (.tuple #[.bool false])).tmps.size := by rw [hsz2]; exact okE
   generalize a1.put (some L.rN) (.tuple #[.bool false]) = a2 at this;simp [Act.put, this]
  refine wpIn_seq (wpIn_cond_false hv3 (wpIn_exit ?_));show (if L.bi = L.bi then K _ _ else _);rw [if_pos rfl];obtain ⟨hrel, hownE⟩ := back_map hA3.rel hA3.ext hwB hks (G0 := freeG G bm) hd hbm hbs hnone hnst hm1 hsz hcl hbn;have hxx := hxB.trans hA3.ext;refine fin vi e1 S1 w1 (backG G1 bm (.arr id)) _ j1 hnd (fun i => ⟨hlt i, fun hi => ?_⟩) ⟨hrel, fun i => lv_backG (hA3.env i), ⟨hxx.size, hxx.os, hxx.tape, hxx.out, hxx.oth, hxx.lt, hxx.st, hxx.ltt, hxx.dom, fun b hb ho => ?_, hxx.st', hxx.lt'⟩, hA3.fresh, hA3.size, ?_⟩
  ·have hien : i < en.size := by omega
   by_cases hmem : i ∈ vi
   ·exact hmem
   ·exfalso
    have hne : en[i] ∉ leftOf en seen := by
     have : leftOf en seen = #[] := Array.eq_empty_of_size_eq_zero hz;rw [this]; simp
    apply hne
    simp only [leftOf, Array.mem_filter, Array.getElem_mem, true_and];rw [Bool.not_eq_true']
    cases hcn : seen.contains en[i].born with
    | false => rfl
    | true =>
    exfalso
    have this : en[i].born ∈ seen.toList := by simpa using hcn
    rw [hseen] at this;obtain ⟨j, hj, ej⟩ := List.mem_map.1 this;have hjl := hlt j hj;have hjen : j < en.size := by omega
    have ej' : en[j].born = en[i].born := by simpa [hjen] using ej
    have h1 : (en.toList.map (·.born))[j]? = some en[j].born := by simp [hjen]
    have h2 : (en.toList.map (·.born))[i]? = some en[i].born := by simp [hien]
    have this : j = i := (List.getElem?_inj (by simpa using hjen) hbn.1).1 (h1.trans ((congrArg some ej').trans h2.symm))
    exact hmem (this ▸ hj)
  ·show (if b = bm then some (Loc.arr id) else G1.own b) = none;rw [if_neg]
   ·exact hxx.own' b hb ho
   ·intro e; rw [e, hw] at ho; cases ho
  ·obtain ⟨ms, h3, h4⟩ := hA3.marks;refine ⟨ms, ⟨h3.nd, fun D hD => ?_⟩, h4⟩;obtain ⟨z1, z2, z3, z4⟩ := h3.at_ D hD;refine ⟨z1, ?_, z3, z4⟩;show (if D = bm then some (Loc.arr id) else G1.own D) = none;rw [if_neg (by omega)]
   exact z2
 ·-- one more
  have hqm : q ∈ en.toList ∧ seen.contains q.born = false := by
   have hq := hq;simp only [leftOf, Array.mem_toList_iff, Array.mem_filter, Bool.not_eq_true'] at hq;exact ⟨by simpa using hq.1, hq.2⟩
  obtain ⟨i, hien, hqi⟩ := List.getElem_of_mem hqm.1;have hien' : i < en.size := by simpa using hien
  have hei : en[i]? = some q := by rw [← hqi]; simp [hien']
  have hip : i < es.length := by omega
  have hpi : es[i]? = some es[i] := List.getElem?_eq_getElem hip;have hnot : i ∉ vi := by
   intro hm;have : q.born ∈ seen.toList := by
    rw [hseen];refine List.mem_map.2 ⟨i, hm, ?_⟩;simp [hei]
   have : seen.contains q.born = true := by simpa using this
   rw [hqm.2] at this; cases this
  have hA' : After w (freeG G bm) a e1 S1 w2' G1 a1 := by
   rcases hw2 with rfl | rfl
   ·exact hA
   ·exact hA.drew
  have hit' : w2'.heap[r]? = some (.mapIter (some bm) cl seen c0) := by rcases hw2 with rfl | rfl <;> exact hit
  refine wp_plain (w' := setBlock w2' r (.mapIter (some bm) cl (seen.push q.born) cl)) (v := .tuple #[.bool true, q.key, q.val]) (by simp [execOp, hn1, hiv, hrun1]) (by rw [hn1]; intro c hc; cases hc) ?_
  rw [hn3];have hA2 : After w (freeG G bm) a e1 S1 (setBlock w2' r (.mapIter (some bm) cl (seen.push q.born) cl)) G1 a1 := hA'.put (by omega) hown hst hit' (by intro h; cases h)
  have hit2 : (setBlock w2' r (.mapIter (some bm) cl (seen.push q.born) cl)).heap[r]? = some (.mapIter (some bm) cl (seen.push q.born) cl) := World.putObj_heap_same (lt_size hit');have hbr : bm ≠ r := by omega
  have hm2 : (setBlock w2' r (.mapIter (some bm) cl (seen.push q.born) cl)).heap[bm]? = some (.map en cl) := by
   refine (World.putObj_heap_other hbr).trans ?_;rcases hw2 with rfl | rfl <;> exact hm1
  generalize setBlock w2' r (.mapIter (some bm) cl (seen.push q.born) cl) = w2 at hA2 hit2 hm2;have hxx := hxB.trans hA2.ext;obtain ⟨r1, r2⟩ := hcl i es[i] q hpi hei;have r1' := r1.ext hr.wf hxx;have r2' := r2.ext hr.wf hxx;have three : LVRel w2 G1 (.tup [.d (.bool true), .d es[i].1, .d es[i].2]) (.tuple #[.bool true, q.key, q.val]) := .tup _ _ rfl (fun i' c v h1 h2 => by
   match i' with
   | 0 => simp at h1 h2; subst h1 h2; exact .d _ _ (.bool _)
   | 1 => simp at h1 h2; subst h1 h2; exact .d _ _ r1'
   | 2 => simp at h1 h2; subst h1 h2; exact .d _ _ r2'
   | i' + 3 => simp at h1)
  have pair : LVRel w2 G1 (.tup [.d es[i].1, .d es[i].2]) (.tuple #[q.key, q.val]) := .tup _ _ rfl (fun i' c v h1 h2 => by
   match i' with
   | 0 => simp at h1 h2; subst h1 h2; exact .d _ _ r1'
   | 1 => simp at h1 h2; subst h1 h2; exact .d _ _ r2'
   | i' + 2 => simp at h1)
  have hA3 := hA2.slot (d := L.rN) (by rw [hsz1]; exact okN) three
  have hsz2 : (a1.put (some L.rN) (.tuple #[.bool true, q.key, q.val])).tmps.size = n := hA3.size.trans hn;have hv2 : (a1.put (some L.rN) (.tuple #[.bool true, q.key, q.val])).eval (.tmp L.rN) = .tuple #[.bool true, q.key, q.val] := by
   rw [hval]; simp [Act.put, hsz1, okN]
  refine wp_plain (w' := w2) (v := .bool true) (by simp [execOp, hx1, hv2, Instr.extract]) (by rw [hx1]; intro c hc; cases hc) ?_
  rw [hx3];have hA4 := hA3.slot (d := L.rE) (by rw [hsz2]; exact okE) (lv := .d (.bool true)) (v := .bool true) (.d _ _ (.bool _))
  have hsz3 := hA4.size.trans hn;have hv3 : (((a1.put (some L.rN) (.tuple #[.bool true, q.key, q.val])).put (some L.rE) (.bool true))).eval (.tmp L.rE) = .bool true := by
   rw [hval];have : L.rE < (a1.put (some L.rN) (.tuple #[.bool true, q.key, q.val])).tmps.size := by rw [hsz2]; exact okE
   generalize a1.put (some L.rN) (.tuple #[.bool true, q.key, q.val]) = a2 at this;simp [Act.put, this]
  refine wpIn_seq (wpIn_cond_true hv3 (wpIn_skip ?_));generalize (a1.put (some L.rN) (.tuple #[.bool true, q.key, q.val])).put (some L.rE) (.bool true) = a4 at hA4 hsz3;refine wpIn_block (wpIn_seq (wpIn_region ?_));have hesz : 0 < L.eops.size := (Array.getElem?_eq_some_iff.1 he1).1;have hel : List.range L.eops.size = 0 :: List.range' 1 (L.eops.size - 1) := by
   rw [List.range_eq_range'];obtain ⟨z, hz⟩ : ∃ z, L.eops.size = z + 1 := ⟨L.eops.size - 1, by omega⟩
   rw [hz]; rfl
  rw [hel];have hwe : Region.wanted L.oe (yielded L.eops a4.tmps) = true := by simp [Region.wanted, he3]
  simp only [wpOpsIn, he1, hwe, if_true];have hiv4 : a4.eval (.tmp L.rI) = .pointer (some ⟨r, 0, none⟩) := by
   have := hA4.env L.rI;have e0 : ((e1.set L.rN (.tup [.d (.bool true), .d es[i].1, .d es[i].2])).set L.rE (.d (.bool true))) L.rI = .ptr S.next 0 := by
    simp only [Env.set];rw [if_neg L.ne.2, if_neg L.ne.1];exact hJ _ _ _ j1
   rw [e0] at this;rw [hval];generalize a4.tmps.getD L.rI undef = v at this
   cases this with | ptr _ _ _ => rw [haddr]
  have hrunE := run_entry_at (P := P) w2 r bm cl seen en cl q hit2 hm2 hqm.1 hbn.1;refine wp_plain (w' := w2) (v := .tuple #[q.key, q.val]) (by simp [execOp, he2, hiv4, hrunE]) (by rw [he2]; intro c hc; cases hc) ?_
  rw [he4];have hA5 := hA4.slot (d := L.rX) (by rw [hsz3]; exact okX) pair
  have hsz5 := hA5.size.trans hn;generalize a4.put (some L.rX) (.tuple #[q.key, q.val]) = a5 at hA5 hsz5;have hstep := step vi i es[i] e1 S1 j1 hpi hnot;generalize (((e1.set L.rN (.tup [.d (.bool true), .d es[i].1, .d es[i].2])).set L.rE (.d (.bool true))).set L.rX (.tup [.d es[i].1, .d es[i].2])) = e5 at hA5 hstep;obtain ⟨n1, hp⟩ := hstep;have hmap : (L.eops.toList.drop 1).map (sop L.eops.toList) = (List.range' 1 (L.eops.size - 1)).map fun i => sop L.eops.toList (L.eops.getD i default) := by
   apply List.ext_getElem?
   intro x;rw [List.getElem?_map, List.getElem?_map, List.getElem?_drop];by_cases hx : 1 + x < L.eops.size
   ·have : x < L.eops.size - 1 := by omega
    simp [hx, this]
   ·have : ¬ x < L.eops.size - 1 := by omega
    simp [hx, this]
  rw [hmap] at hp;have hev := ev_sound hg n1;obtain ⟨v1, v2⟩ := pops_soundR hg.prog (v_sound hg hev) hev ok1 [] (List.range' 1 (L.eops.size - 1)) w2 G1 S1 e5 a5 hA5.rel hA5.fresh hA5.env hsz5 (fun x hx => by have := List.mem_range'.1 hx; omega)
  cases hpo : pops cfg0 (callV cfg0 n1) (ev cfg0 n1) ((List.range' 1 (L.eops.size - 1)).map fun i => sop L.eops.toList (L.eops.getD i default)) e5 S1 with
  | vac => exact absurd hpo v1
  | no => rw [hpo] at hp; exact hp.elim
  | ok y =>
  obtain ⟨e6, S6⟩ := y;rw [hpo] at hp;obtain ⟨n2, hpx⟩ : PX cfg0 L.rest e6 S6 fun x e3 S3 => x = .normal ∧ J (vi ++ [i]) e3 S3 := hp;have v3 := v2 e6 S6 hpo none m;rw [List.append_nil] at v3;refine v3 _ fun w6 G6 a6 hA6 => ?_;have hev2 := ev_sound hg n2;obtain ⟨u1, u2⟩ := code_sound hg.prog hg.mixed (v_sound hg hev2) hev2 true n2 n L.rest ok2 w6 G6 S6 e6 a6 hA6.rel hA6.fresh hA6.env (hA6.size.trans hsz5)
  cases hco : pexec cfg0 (callV cfg0 n2) (ev cfg0 n2) n2 L.rest e6 S6 with
  | vac => exact absurd hco u1
  | no => rw [hco] at hpx; exact hpx.elim
  | ok y =>
  obtain ⟨x7, e7, S7⟩ := y;rw [hco] at hpx;obtain ⟨hx7, j7⟩ : x7 = .normal ∧ J (vi ++ [i]) e7 S7 := hpx;subst hx7;refine u2 _ e7 S7 hco none (fun _ => rfl) m _ fun w7 G7 a7 hA7 => ?_;have hloc := hA6.trans hA7;have hrs2 : r < w2.heap.size := lt_size hit2;have hrl : ¬ G1.Lt r := fun h => hst (hA2.rel.wf.lt r h);have hit7 : w7.heap[r]? = some (.mapIter (some bm) cl (seen.push q.born) cl) := (hloc.ext.oth r hrs2 hown hrl).trans hit2;have hall := hA5.trans hloc;have hdN : G1.dom (.arr S.next) := by
   have := hA.env L.rI;rw [hJ _ _ _ j1] at this;generalize a1.tmps.getD L.rI undef = v at this
   cases this with | ptr _ _ hd => exact hd
  refine ⟨⟨vi ++ [i], e7, S7, G7, cl, seen.push q.born, j7, hall, (hloc.ext.dom _ hdN).2.1.trans haddr, hloc.ext.own' r hrs2 hown, fun hs => ?_, hit7, Nat.le_refl _, ?_, fun x hx => ?_, ?_⟩, ?_⟩
  ·rcases hloc.ext.st' r hrs2 hs with h | h
   ·exact hst h
   ·exact h hown
  ·exact List.nodup_append.2 ⟨hnd, by simp, fun x hx y hy e => by simp at hy; subst hy; exact hnot (e ▸ hx)⟩
  ·rcases List.mem_append.1 hx with h | h
   ·exact hlt x h
   ·simp at h; subst h; exact hip
  ·simp [hseen, hei]
  ·show (match w7.heap[r]? with | some (.mapIter _ _ seen _) => (leftOf en seen).size | _ => 0) < (match w1.heap[r]? with | some (.mapIter _ _ seen _) => (leftOf en seen).size | _ => 0)
   rw [hit7, hit];show (leftOf en (seen.push q.born)).size < (leftOf en seen).size;have := filter_lt (fun e : MapEntry => !seen.contains e.born) (fun e => !(seen.push q.born).contains e.born) (fun x hx => by
    simp only [Bool.not_eq_true'] at hx ⊢
    cases hc : seen.contains x.born with
    | false => rfl
    | true => rw [show (seen.push q.born).contains x.born = true by simp at hc ⊢; exact .inl hc] at hx; cases hx) q (by rw [hqm.2]; rfl) (by simp) en.toList hqm.1
   have es : ∀ p : MapEntry → Bool, (Array.filter p en).size = (List.filter p en.toList).length := fun p => by rw [← Array.length_toList, Array.toList_filter]
   unfold leftOf;rw [es, es];exact this
end Go.VM
end
