/- The machine of values, part 3: Go code run on plain data, and that what it answers is what the program answers. No condition. -/
import Derived.Test.YtmahmajoelmmeaaVmB
import Derived.WalkKit
import Derived.ProofKit
import Derived.OpenShut
import Derived.ShutString
import Derived.ChangeOld
import Derived.Below
/- The machine of values: rules to reckon with, where the order is open. No condition. -/
section
namespace Go.VM

theorem T.log_bind {α β : Type} {f : α → T β} : ∀ {t : T α} {S S1 : St} {a : α}, t.run S = .ok (a, S1) → (t.bind f).log S = ((t.log S).1 ++ ((f a).log S1).1, (t.log S).2 ++ ((f a).log S1).2) := by
  intro t
  induction t with
  | ret a => intro S S1 b h; cases h; simp [T.bind, T.log]
  | no => intro S S1 b h; cases h
  | vac => intro S S1 b h; cases h
  | get id k ih => intro S S1 b h; simp only [T.bind, T.log]; rw [ih _ h]; rfl
  | put id o k ih => intro S S1 b h; simp only [T.bind, T.log]; rw [ih h]; rfl
  | new o k ih => intro S S1 b h; simp only [T.bind, T.log]; rw [ih _ h]; rfl
  | tick k ih => intro S S1 b h; simp only [T.bind, T.log]; rw [ih _ h]
  | leak k ih => intro S S1 b h; simp only [T.bind, T.log]; rw [ih h]
/-- a transaction, with what it reads and writes -/
def TL {α : Type} (t : T α) (S : St) (K : α → St → List Nat → List Nat → Prop) : Prop := (t.run S).holds fun r => K r.1 r.2 (t.log S).1 (t.log S).2
section
variable {α β : Type} {S : St} {K : α → St → List Nat → List Nat → Prop}
theorem TL_ret {a : α} : TL (.ret a) S K ↔ K a S [] [] := Iff.rfl
theorem TL_no : TL (.no : T α) S K ↔ False := Iff.rfl
theorem TL_vac : TL (.vac : T α) S K ↔ True := Iff.rfl
theorem TL_get {id : Nat} {k : Obj → T α} : TL (.get id k) S K ↔ TL (k (S.obj id)) S (hold (fun a S' r w => K a S' (id :: r) w) .mk) := Iff.rfl
theorem TL_put {id : Nat} {o : Obj} {k : T α} : TL (.put id o k) S K ↔ TL k (S.set id o) (hold (fun a S' r w => K a S' r (id :: w)) .mk) := Iff.rfl
theorem TL_new {o : Obj} {k : Nat → T α} : TL (.new o k) S K ↔ TL (k S.next) (S.alloc o) (hold (fun a S' r w => K a S' r (S.next :: w)) .mk) := Iff.rfl
theorem TL_tick {k : Nat → T α} : TL (.tick k) S K ↔ TL (k S.clk) S.tick K := Iff.rfl
theorem TL_leak {k : T α} : TL (.leak k) S K ↔ TL k S.leak K := Iff.rfl
theorem TL_bind {t : T β} {f : β → T α} : TL (t.bind f) S K ↔ TL t S (hold (fun b S' r w => TL (f b) S' (hold (fun a S'' r' w' => K a S'' (r ++ r') (w ++ w')) .mk)) .mk) := by
  unfold TL
  rw [T.run_bind]
  cases h : t.run S with
  | ok q =>
    obtain ⟨b, S1⟩ := q
    rw [T.log_bind h]; exact Iff.rfl
  | no => exact Iff.rfl
  | vac => exact Iff.rfl
theorem TL_nil {f : β → T α} {K : List α → St → List Nat → List Nat → Prop} : TL (T.mapL f []) S K ↔ K [] S [] [] := Iff.rfl
theorem TL_cons {f : β → T α} {b : β} {l : List β} {K : List α → St → List Nat → List Nat → Prop} :
    TL (T.mapL f (b :: l)) S K ↔ TL (f b) S (hold (fun x S1 r w => TL (T.mapL f l) S1 (hold (fun xs S2 r' w' => K (x :: xs) S2 (r ++ r') (w ++ w')) .mk)) .mk) := by
  simp only [T.mapL]
  rw [TL_bind]
  simp only [hold]
  have : ∀ x S1, TL ((T.mapL f l).bind fun bs => T.ret (x :: bs)) S1 = fun K => TL (T.mapL f l) S1 (fun xs S2 r w => K (x :: xs) S2 r w) := by
    intro x S1; funext K
    rw [TL_bind]
    simp [hold, TL_ret]
  simp only [this]
theorem TL_ite {c : Prop} [Decidable c] {x : T α} : TL (if c then x else .no) S K ↔ c ∧ TL x S K := by
  by_cases h : c
  · simp [h]
  · simp [h, TL_no]
/-- nothing is read or written -/
def quiet (t : T α) : Prop := ∀ S, t.log S = ([], [])
theorem TL_quiet {t : T α} (h : quiet t) : TL t S K ↔ TQ t S (hold (fun a S' => K a S' [] []) .mk) := by
  unfold TL TQ
  rw [h S]; exact Iff.rfl
theorem rel4 {q : α → St → List Nat → List Nat → Prop} {t : Tag q} {a : α} {r w : List Nat} : hold q t a S r w ↔ q a S r w := Iff.rfl
end
theorem q_ret {α : Type} (a : α) : quiet (T.ret a) := fun _ => rfl
theorem q_no {α : Type} : quiet (T.no : T α) := fun _ => rfl
theorem q_ofRes {α : Type} (r : Res α) : quiet (T.ofRes r) := by intro S; cases r <;> rfl
variable {cfg : Cfg} {e : Env} {S : St} {P : Program} {t : TypeId}
theorem q_fieldAddr {f : Nat} {x : LV} : quiet (fieldAddrT P t f x) := by
  unfold fieldAddrT
  repeat' split
  all_goals first | exact q_no | exact q_ret _
theorem q_field {f : Nat} {x : LV} : quiet (fieldT P t f x) := by
  unfold fieldT
  repeat' split
  all_goals first | exact q_no | exact q_ret _
theorem q_indexAddr {x i : LV} : quiet (indexAddrT P t x i) := by
  have he : ∀ xs es n, quiet (elemOf xs es n) := by
    intro xs es n
    unfold elemOf
    repeat' split
    all_goals first | exact q_no | exact q_ret _
  unfold indexAddrT
  repeat' split
  all_goals first | exact q_no | exact q_ret _ | exact he _ _ _
theorem q_index {x i : LV} : quiet (indexT P t x i) := by
  unfold indexT
  repeat' split
  all_goals first | exact q_no | exact q_ret _
theorem q_slice {x : LV} {lo hi mx : Option LV} : quiet (sliceT P t x lo hi mx) := by
  have hc : ∀ (n : Nat) (k : Nat → Nat → T LV), (∀ a b, quiet (k a b)) → quiet (cut n lo hi mx k) := by
    intro n k hk
    unfold cut
    repeat' split
    all_goals first | exact q_no | exact hk _ _
  have hn : ∀ (n : Nat) (k : Nat → Nat → T LV), (∀ a b, quiet (k a b)) → quiet (cut n lo hi none k) := by
    intro n k hk
    unfold cut
    repeat' split
    all_goals first | exact q_no | exact hk _ _
  unfold sliceT
  repeat' split
  all_goals first | exact q_no | exact hc _ _ fun _ _ => q_ret _ | exact hn _ _ fun _ _ => q_ret _
theorem q_build {ps : List (Nat × LV)} : quiet (buildT P t ps) := by
  unfold buildT
  repeat' split
  all_goals first | exact q_no | exact q_ret _
theorem q_nilCheck {x : LV} : quiet (nilCheckT x) := by
  unfold nilCheckT
  repeat' split
  all_goals first | exact q_no | exact q_ret _
theorem q_extract {i : Nat} {x : LV} : quiet (extractT i x) := by
  unfold extractT
  repeat' split
  all_goals first | exact q_no | exact q_ret _
theorem q_loadcp {cs : List D} : quiet (loadT P t (.cp cs)) := by
  intro S
  simp only [loadT]
  repeat' split
  all_goals rfl
theorem q_conv_int {s d : TypeId} {k : IntKind} {n : Int} : quiet (convertT P s d (.d (.int k n))) := by
  intro S
  simp only [convertT]
  repeat' split
  all_goals rfl
theorem q_conv_sl {s d : TypeId} {xs : List D} : quiet (convertT P s d (.d (.sl xs))) := by
  intro S
  simp only [convertT, peek1, T.bind]
  repeat' split
  all_goals rfl
theorem q_len_str {s : List UInt8} : quiet (lenT P t (.d (.str s))) := by
  unfold lenT
  repeat' split
  all_goals first | exact q_no | exact q_ofRes _ | exact q_ret _ | (simp_all; done)
theorem q_len_sl {xs : List D} : quiet (lenT P t (.d (.sl xs))) := by
  unfold lenT
  repeat' split
  all_goals first | exact q_no | exact q_ofRes _ | exact q_ret _ | (simp_all; done)
theorem q_len_lit {xs : List D} : quiet (lenT P t (.lit xs)) := by
  unfold lenT
  repeat' split
  all_goals first | exact q_no | exact q_ofRes _ | exact q_ret _ | (simp_all; done)
theorem q_len_ar {l : Loc} {a b c : Nat} : quiet (lenT P t (.ar l a b c)) := by
  unfold lenT
  repeat' split
  all_goals first | exact q_no | exact q_ofRes _ | exact q_ret _ | (simp_all; done)
end Go.VM
end

/- The machine of values: rules to reckon with, where the order is open: operations, regions. No condition. -/
section
namespace Go.VM

def D1 (cfg : Cfg) (op : Op) (e : Env) (S : St) (K : LV → St → List Nat → List Nat → Prop) : Prop := ∃ n, TL (stepD cfg (callV cfg n) (ev cfg n) e op) S K
def PD (cfg : Cfg) (nx ck i : Nat) (all os : List Oper) (e : Env) (S : St) (L : List Log) (Q : Env → St → List Log → Prop) : Prop :=
  ∃ n, (popsD cfg (callV cfg n) (ev cfg n) nx ck i (os.map (sop all)) e S L).holds fun r => Q r.1 r.2.1 r.2.2
variable {cfg : Cfg} {e : Env} {S : St} {nx ck i : Nat} {L : List Log}
theorem stepD_up {n m : Nat} (h : n ≤ m) (e : Env) (op : Op) (S : St) : TLe (stepD cfg (callV cfg n) (ev cfg n) e op) (stepD cfg (callV cfg m) (ev cfg m) e op) S := stepD_le (up h).2 (up h).1 e op S
theorem popsD_up {n m : Nat} (h : n ≤ m) (os : List SOp) (i : Nat) (e : Env) (S : St) (L : List Log) : Le (popsD cfg (callV cfg n) (ev cfg n) nx ck i os e S L) (popsD cfg (callV cfg m) (ev cfg m) nx ck i os e S L) := popsD_le (up h).2 (up h).1 nx ck os i e S L
theorem pd_one {os : List SOp} {d : Option Tmp} {op : Op} {Q : Env → St → List Log → Prop} :
    (∃ n, (((stepD cfg (callV cfg n) (ev cfg n) e op).run (startD nx ck i S)).bind fun r => if r.2.next ≤ nx + 100 * i + 100 ∧ r.2.clk ≤ ck + 100 * i + 100 then
        popsD cfg (callV cfg n) (ev cfg n) nx ck (i + 1) os (setD e d r.1) r.2 (⟨i, ((stepD cfg (callV cfg n) (ev cfg n) e op).log (startD nx ck i S)).1, ((stepD cfg (callV cfg n) (ev cfg n) e op).log (startD nx ck i S)).2⟩ :: L) else .no).holds fun r => Q r.1 r.2.1 r.2.2) ↔
    D1 cfg op e (startD nx ck i S) fun r S' rd wr => (S'.next ≤ nx + 100 * i + 100 ∧ S'.clk ≤ ck + 100 * i + 100) ∧
      ∃ m, (popsD cfg (callV cfg m) (ev cfg m) nx ck (i + 1) os (setD e d r) S' (⟨i, rd, wr⟩ :: L)).holds fun r => Q r.1 r.2.1 r.2.2 := by
  constructor
  · rintro ⟨n, h⟩
    refine ⟨n, ?_⟩
    unfold TL
    rw [holds_bind] at h
    refine holds_mono (fun r hr => ?_) h
    split at hr
    · rename_i hc; exact ⟨hc, n, hr⟩
    · exact hr.elim
  · rintro ⟨n, h⟩
    unfold TL at h
    cases hn : (stepD cfg (callV cfg n) (ev cfg n) e op).run (startD nx ck i S) with
    | ok r =>
      rw [hn] at h
      obtain ⟨hc, m, hm⟩ := h
      refine ⟨max n m, ?_⟩
      rcases stepD_up (cfg := cfg) (Nat.le_max_left n m) e op (startD nx ck i S) with h1 | ⟨h1, h2⟩
      · rw [hn] at h1; cases h1
      · rw [h1, h2, hn, holds_bind]
        show (if r.2.next ≤ nx + 100 * i + 100 ∧ r.2.clk ≤ ck + 100 * i + 100 then _ else _ : Res _).holds _
        rw [if_pos hc]
        exact holds_le (popsD_up (Nat.le_max_right n m) _ _ _ _ _) hm
    | no => rw [hn] at h; exact h.elim
    | vac => exact ⟨n, by rw [hn]; trivial⟩
theorem D_nil {all : List Oper} {t : Tag ([] : List Oper)} {Q : Env → St → List Log → Prop} : PD cfg nx ck i all (hold [] t) e S L Q ↔ Q e S L := ex_const
theorem D_free {all : List Oper} {d : Option Tmp} {op : Op} {ty : TypeId} {p : String} {a : Array Edge} {os : List Oper} {t : Tag (Oper.mk d op ty p a none :: os)} {Q : Env → St → List Log → Prop} :
    PD cfg nx ck i all (hold (Oper.mk d op ty p a none :: os) t) e S L Q ↔ D1 cfg op e (startD nx ck i S) (hold (fun r S' rd wr => (S'.next ≤ nx + 100 * i + 100 ∧ S'.clk ≤ ck + 100 * i + 100) ∧
      PD cfg nx ck (i + 1) all (hold os .mk) (setD e d r) S' (⟨i, rd, wr⟩ :: L) Q) .mk) := pd_one
theorem D_guard {all : List Oper} {d : Option Tmp} {op : Op} {ty : TypeId} {p : String} {a : Array Edge} {os : List Oper} {g : Nat} {w : Bool} {t : Tag (Oper.mk d op ty p a (some (g, w)) :: os)} {Q : Env → St → List Log → Prop} :
    PD cfg nx ck i all (hold (Oper.mk d op ty p a (some (g, w)) :: os) t) e S L Q ↔ whenG w e (gslot all g) (hold (fun b => fork (b = w) (holdP (D1 cfg op e (startD nx ck i S) (hold (fun r S' rd wr => (S'.next ≤ nx + 100 * i + 100 ∧ S'.clk ≤ ck + 100 * i + 100) ∧
      PD cfg nx ck (i + 1) all (hold os .mk) (setD e d r) S' (⟨i, rd, wr⟩ :: L) Q) .mk)) .mk) (holdP (PD cfg nx ck (i + 1) all (hold os .mk) (setD e d (.tup [])) S L Q) .mk)) .mk) := by
  unfold whenG
  cases hg : gslot all g with
  | some s =>
    have hg' : (all[g]?).bind (·.dst) = some s := hg
    have key : PD cfg nx ck i all (hold (Oper.mk d op ty p a (some (g, w)) :: os) t) e S L Q ↔ ∃ n, (match wants e (some (some s, w)) with
        | some true => ((stepD cfg (callV cfg n) (ev cfg n) e op).run (startD nx ck i S)).bind fun r => if r.2.next ≤ nx + 100 * i + 100 ∧ r.2.clk ≤ ck + 100 * i + 100 then
            popsD cfg (callV cfg n) (ev cfg n) nx ck (i + 1) (os.map (sop all)) (setD e d r.1) r.2 (⟨i, ((stepD cfg (callV cfg n) (ev cfg n) e op).log (startD nx ck i S)).1, ((stepD cfg (callV cfg n) (ev cfg n) e op).log (startD nx ck i S)).2⟩ :: L) else .no
        | some false => popsD cfg (callV cfg n) (ev cfg n) nx ck (i + 1) (os.map (sop all)) (setD e d (.tup [])) S L
        | none => .no).holds fun r => Q r.1 r.2.1 r.2.2 := by
      unfold PD hold
      simp only [List.map_cons, sop, Option.map_some, popsD, hg']
      exact Iff.rfl
    rw [key]
    show _ ↔ whenW w (e s) _
    unfold whenW
    simp only [wants]
    generalize e s = v
    cases v with
    | tup vs =>
      cases vs with
      | nil =>
        have h : ¬ (!w) = w := by cases w <;> decide
        show _ ↔ fork ((!w) = w) _ _
        simp only [fork, h, not_false_eq_true, true_implies, false_implies, true_and]
        exact Iff.rfl
      | cons _ _ => exact ex_const
    | d v =>
      cases v with
      | bool b =>
        by_cases h : b = w
        · subst h
          simp only [beq_self_eq_true]
          rw [pd_one]
          show _ ↔ fork (b = b) _ _
          simp only [fork, true_implies, not_true, false_implies, and_true]
          exact Iff.rfl
        · have hb : (b == w) = false := by simp [h]
          simp only [hb]
          show _ ↔ fork (b = w) _ _
          simp only [fork, h, not_false_eq_true, true_implies, false_implies, true_and]
          exact Iff.rfl
      | _ => exact ex_const
    | _ => exact ex_const
  | none =>
    have hg' : (all[g]?).bind (·.dst) = none := hg
    unfold PD hold
    simp only [List.map_cons, sop, Option.map_some, popsD, hg', wants]
    exact ex_const
theorem X_draw {id : Nat} {l : List Oper} {t : Tag (Code.region id l.toArray true)} {Q : Ex → Env → St → Prop} (hd : okDraw l = true)
    (h : PD cfg S.next S.clk 0 (hold l .mk) (hold l .mk) e S [] (hold (fun e' S' L => indep (befs l []) L ∧ Q .normal e' ⟨S'.obj, S.next + 100 * l.length, S.clk + 100 * l.length, S'.esc⟩) .mk)) :
    PX cfg (hold (.region id l.toArray true) t) e S Q := by
  obtain ⟨n, h⟩ := h
  refine ⟨n, ?_⟩
  show (pexec cfg (callV cfg n) (ev cfg n) n (.region id l.toArray true) e S).holds _
  simp only [pexec]
  rw [holds_bind]
  refine holds_mono (fun r hr => ?_) h
  have hr' : indep (befs l []) r.2.2 ∧ Q .normal r.1 ⟨r.2.1.obj, S.next + 100 * l.length, S.clk + 100 * l.length, r.2.1.esc⟩ := hr
  have hc : okDraw l.toArray.toList = true ∧ indep (befs l.toArray.toList []) r.2.2 := ⟨hd, hr'.1⟩
  rw [if_pos hc]
  exact hr'.2
/-! ### operations -/
variable {K : LV → St → List Nat → List Nat → Prop}
theorem D1_op {op : Op} (h : callee e op = none) : D1 cfg op e S K ↔ TL (stepT cfg.P e op) S K := by
  unfold D1 stepD
  rw [h]
  exact ⟨fun ⟨_, h⟩ => h, fun h => ⟨0, h⟩⟩
theorem D1_quiet {op : Op} {x : T LV} (h : callee e op = none) (hx : stepT cfg.P e op = x) (hq : quiet x) : D1 cfg op e S K ↔ TQ x S (hold (fun a S' => K a S' [] []) .mk) := by
  rw [D1_op h, hx, TL_quiet hq]
theorem D1_move {x : Operand} : D1 cfg (.move x) e S K ↔ K (Operand.lv e x) S [] [] := D1_op rfl
theorem D1_assign {x : Operand} : D1 cfg (.assign x) e S K ↔ K (Operand.lv e x) S [] [] := D1_op rfl
theorem D1_binOp {op : BinOp} {t u : TypeId} {x y : Operand} : D1 cfg (.binOp op t x y u) e S K ↔ (binT cfg.P op t (nilConst y) (Operand.lv e x) (Operand.lv e y)).holds (hold (fun v => K v S [] []) .mk) :=
  (D1_quiet (x := T.ofRes (binT cfg.P op t (nilConst y) (Operand.lv e x) (Operand.lv e y))) rfl rfl (q_ofRes _)).trans TQ_ofRes
theorem D1_unOp {op : UnOp} {t : TypeId} {x : Operand} : D1 cfg (.unOp op t x) e S K ↔ (unT op (Operand.lv e x)).holds (hold (fun v => K v S [] []) .mk) :=
  (D1_quiet (x := T.ofRes (unT op (Operand.lv e x))) rfl rfl (q_ofRes _)).trans TQ_ofRes
theorem D1_pick {c a b : Operand} : D1 cfg (.pick c a b) e S K ↔ whenB (Operand.lv e c) (hold (fun t => fork (t = true) (holdP (K (Operand.lv e a) S [] []) .mk) (holdP (K (Operand.lv e b) S [] []) .mk)) .mk) := by
  rw [D1_op rfl]
  simp only [stepT, whenB]
  generalize Operand.lv e c = v
  cases v with
  | d v =>
    cases v with
    | bool t =>
      show K (if t = true then Operand.lv e a else Operand.lv e b) S [] [] ↔ fork (t = true) _ _
      cases t <;> simp [fork, holdP]
    | _ => exact Iff.rfl
  | _ => exact Iff.rfl
theorem D1_fieldAddr {t : TypeId} {x : Operand} {f : Nat} : D1 cfg (.fieldAddr t x f) e S K ↔ TQ (fieldAddrT cfg.P t f (Operand.lv e x)) S (hold (fun a S' => K a S' [] []) .mk) := D1_quiet rfl rfl q_fieldAddr
theorem D1_field {t : TypeId} {x : Operand} {f : Nat} : D1 cfg (.field t x f) e S K ↔ TQ (fieldT cfg.P t f (Operand.lv e x)) S (hold (fun a S' => K a S' [] []) .mk) := D1_quiet rfl rfl q_field
theorem D1_indexAddr {t : TypeId} {x i : Operand} : D1 cfg (.indexAddr t x i) e S K ↔ TQ (indexAddrT cfg.P t (Operand.lv e x) (Operand.lv e i)) S (hold (fun a S' => K a S' [] []) .mk) := D1_quiet rfl rfl q_indexAddr
theorem D1_index {t : TypeId} {x i : Operand} : D1 cfg (.index t x i) e S K ↔ TQ (indexT cfg.P t (Operand.lv e x) (Operand.lv e i)) S (hold (fun a S' => K a S' [] []) .mk) := D1_quiet rfl rfl q_index
theorem D1_slice {t : TypeId} {x : Operand} {lo hi : Option Operand} : D1 cfg (.slice t x lo hi none) e S K ↔ TQ (sliceT cfg.P t (Operand.lv e x) (lo.map (Operand.lv e)) (hi.map (Operand.lv e)) none) S (hold (fun a S' => K a S' [] []) .mk) :=
  D1_quiet rfl (by simp [stepT]) q_slice
theorem D1_build {t : TypeId} {ps : Array (Nat × Operand)} : D1 cfg (.build t ps) e S K ↔ TQ (buildT cfg.P t (ps.toList.map fun p => (p.1, Operand.lv e p.2))) S (hold (fun a S' => K a S' [] []) .mk) := D1_quiet rfl rfl q_build
theorem D1_nilCheck {x : Operand} : D1 cfg (.nilCheck x) e S K ↔ TQ (nilCheckT (Operand.lv e x)) S (hold (fun a S' => K a S' [] []) .mk) := D1_quiet rfl rfl q_nilCheck
theorem D1_extract {x : Operand} {i : Nat} : D1 cfg (.extract x i) e S K ↔ TQ (extractT i (Operand.lv e x)) S (hold (fun a S' => K a S' [] []) .mk) := D1_quiet rfl rfl q_extract
theorem D1_load {t : TypeId} {x : Operand} : D1 cfg (.load t x) e S K ↔ TL (loadT cfg.P t (Operand.lv e x)) S K := D1_op rfl
theorem D1_store {t : TypeId} {a v : Operand} : D1 cfg (.store t a v) e S K ↔ TL (storeT cfg.P t (Operand.lv e v) (Operand.lv e a)) S K := D1_op rfl
theorem D1_convert {s d : TypeId} {x : Operand} : D1 cfg (.convert s d x) e S K ↔ TL (convertT cfg.P s d (Operand.lv e x)) S K := D1_op rfl
theorem D1_buildSlice {t : TypeId} {n : Nat} {ps : Array (Nat × Operand)} : D1 cfg (.buildSlice t n ps) e S K ↔ TL (buildSliceT cfg.P t n (ps.toList.map fun p => (p.1, Operand.lv e p.2))) S K := D1_op rfl
theorem D1_builtin {b : Builtin} {args : Array Operand} {ts : Array TypeId} : D1 cfg (.call ⟨.builtin b, args, ts⟩) e S K ↔ TL (builtinT cfg.P b ts (args.toList.map (Operand.lv e))) S K := D1_op rfl
theorem D1_lookup {t : TypeId} {m i : Operand} {ok : Bool} : D1 cfg (.lookup t m i ok) e S K ↔ TL (lookupT cfg.P t (Operand.lv e m) (Operand.lv e i) ok) S K := D1_op rfl
theorem D1_alloc {t : TypeId} : D1 cfg (.alloc t) e S K ↔ TL (allocT cfg.P t) S K := D1_op rfl
theorem D1_makeSlice {t : TypeId} {n c : Operand} : D1 cfg (.makeSlice t n c) e S K ↔ TL (makeSliceT cfg.P t (Operand.lv e n) (Operand.lv e c)) S K := D1_op rfl
/-- a call of a function on data -/
theorem D1_val {f : FuncId} {args : Array Operand} {ts : Array TypeId} (h : cfg.mode f = .val) : D1 cfg (.call ⟨.value (.func f), args, ts⟩) e S K ↔
    TL (T.mapL toD (args.toList.map (Operand.lv e))) S (hold (fun ds S' r w => VQ cfg f ds (hold (fun v => dataV v = true ∧ K v S' r w) .mk)) .mk) := by
  have hc : callee e (.call ⟨.value (.func f), args, ts⟩) = some (f, args.toList.map (Operand.lv e)) := by simp [callee, Operand.lv]
  unfold D1 stepD
  simp only [hc, callT, h]
  have : ∀ n, TL ((T.mapL toD (args.toList.map (Operand.lv e))).bind fun ds => (T.ofRes (callV cfg n f ds)).bind fun r => if dataV r = true then T.ret r else T.no) S K ↔
      TL (T.mapL toD (args.toList.map (Operand.lv e))) S fun ds S' r w => (callV cfg n f ds).holds fun v => dataV v = true ∧ K v S' r w := by
    intro n
    rw [TL_bind]
    have : ∀ ds S' r w, TL ((T.ofRes (callV cfg n f ds)).bind fun r => if dataV r = true then T.ret r else T.no) S' (fun a S'' r' w' => K a S'' (r ++ r') (w ++ w')) ↔ (callV cfg n f ds).holds fun v => dataV v = true ∧ K v S' r w := by
      intro ds S' r w
      cases callV cfg n f ds with
      | ok v =>
        show TL (if dataV v = true then T.ret v else T.no) S' _ ↔ _
        rw [TL_ite]
        simp [TL_ret, holds_ok]
      | no => exact Iff.rfl
      | vac => exact Iff.rfl
    simp only [hold, this]
  simp only [this]
  unfold TL VQ hold
  cases (T.mapL toD (args.toList.map (Operand.lv e))).run S with
  | ok r => exact Iff.rfl
  | no => exact ⟨fun ⟨_, h⟩ => h, fun h => ⟨0, h⟩⟩
  | vac => exact ⟨fun ⟨_, h⟩ => h, fun h => ⟨0, h⟩⟩
attribute [simp] TL_ret TL_no TL_vac TL_get TL_put TL_new TL_tick TL_leak TL_bind TL_nil TL_cons TL_ite rel4 D_nil D_free D_guard D1_move D1_assign D1_binOp D1_unOp D1_pick D1_fieldAddr D1_field D1_indexAddr D1_index D1_slice D1_build D1_nilCheck D1_extract
  D1_load D1_store D1_convert D1_buildSlice D1_builtin D1_lookup D1_alloc D1_makeSlice
theorem relL {q : Env → St → List Log → Prop} {t : Tag q} : hold q t e S L ↔ q e S L := Iff.rfl
theorem startD_obj {S : St} {j : Nat} : (startD nx ck i S).obj j = S.obj j := rfl
theorem startD_start {nx' ck' j : Nat} : startD nx ck i (startD nx' ck' j S) = startD nx ck i S := rfl
theorem startD_objs : (startD nx ck i S).obj = S.obj := rfl
theorem startD_esc : (startD nx ck i S).esc = S.esc := rfl
theorem startD_next {S : St} : (startD nx ck i S).next = nx + 100 * i := rfl
theorem startD_clk {S : St} : (startD nx ck i S).clk = ck + 100 * i := rfl
section
variable {P : Program} {t s d : TypeId}
theorem L_loadcp {cs : List D} : TL (loadT P t (.cp cs)) S K ↔ TQ (loadT P t (.cp cs)) S (hold (fun a S' => K a S' [] []) .mk) := TL_quiet q_loadcp
theorem L_conv_int {k : IntKind} {n : Int} : TL (convertT P s d (.d (.int k n))) S K ↔ TQ (convertT P s d (.d (.int k n))) S (hold (fun a S' => K a S' [] []) .mk) := TL_quiet q_conv_int
theorem L_conv_sl {xs : List D} : TL (convertT P s d (.d (.sl xs))) S K ↔ TQ (convertT P s d (.d (.sl xs))) S (hold (fun a S' => K a S' [] []) .mk) := TL_quiet q_conv_sl
theorem L_len_str {b : List UInt8} : TL (lenT P t (.d (.str b))) S K ↔ TQ (lenT P t (.d (.str b))) S (hold (fun a S' => K a S' [] []) .mk) := TL_quiet q_len_str
theorem L_len_sl {xs : List D} : TL (lenT P t (.d (.sl xs))) S K ↔ TQ (lenT P t (.d (.sl xs))) S (hold (fun a S' => K a S' [] []) .mk) := TL_quiet q_len_sl
theorem L_len_lit {xs : List D} : TL (lenT P t (.lit xs)) S K ↔ TQ (lenT P t (.lit xs)) S (hold (fun a S' => K a S' [] []) .mk) := TL_quiet q_len_lit
theorem L_len_ar {l : Loc} {a b c : Nat} : TL (lenT P t (.ar l a b c)) S K ↔ TQ (lenT P t (.ar l a b c)) S (hold (fun a S' => K a S' [] []) .mk) := TL_quiet q_len_ar
end
theorem meets_nil {a : List Nat} : meets a [] ↔ False := by simp [meets]
theorem meets_cons {x : Nat} {a b : List Nat} : meets (x :: a) b ↔ x ∈ b ∨ meets a b := by simp [meets]
theorem nil_meets {a : List Nat} : meets [] a ↔ False := by simp [meets]
attribute [simp] relL startD_start startD_objs startD_esc startD_obj startD_next startD_clk L_loadcp L_conv_int L_conv_sl L_len_str L_len_sl L_len_lit L_len_ar meets_nil nil_meets meets_cons Log.clash indep
end Go.VM
end

/- The machine of values: rules to reckon with, for variables, structs, literals, maps. No condition. -/
section
namespace Go.VM
variable {P : Program} {t : TypeId} {S : St}

theorem St.ext' {S S' : St} (h : S.obj = S'.obj) (h1 : S.next = S'.next) (h2 : S.clk = S'.clk) (h3 : S.esc = S'.esc) : S = S' := by
  cases S; cases S'; simp at h h1 h2 h3; subst h h1 h2 h3; rfl
theorem set_alloc (S : St) (o o' : Obj) : (S.alloc o).set S.next o' = S.alloc o' := by
  refine St.ext' (funext fun i => ?_) rfl rfl rfl
  simp only [set_obj, alloc_at]
  split <;> rfl
theorem set_set (S : St) (i : Nat) (o o' : Obj) : (S.set i o).set i o' = S.set i o' := by
  refine St.ext' (funext fun j => ?_) rfl rfl rfl
  simp only [set_obj]
  split <;> rfl
theorem set_alloc0 (o o' : Obj) : (St.empty.alloc o).set 0 o' = St.empty.alloc o' := set_alloc St.empty o o'
/-- a variable's cells -/
def onCells {α : Type} (o : Obj) (k : List LV → T α) : T α := match o with | .cells cs => k cs | _ => .no
theorem onCells_cells {α : Type} {cs : List LV} {k : List LV → T α} : onCells (.cells cs) k = k cs := rfl
theorem load_ptr {id off : Nat} : loadT P t (.ptr id off) = .get id fun o => onCells o fun cs => match tyAgg P t with
      | some true => if off + tySize P t ≤ cs.length then .ret (.agg (fetchL id off ((cs.drop off).take (tySize P t)))) else .no
      | some false => match cs[off]? with
        | some c => .ret (fetch id off c)
        | none => .no
      | none => .no := by
  simp only [loadT]
  congr
theorem store_ptr {v : LV} {id off : Nat} : storeT P t v (.ptr id off) = if (tyAgg P t).isSome ∧ v.cells.length = tySize P t then (storeCellsT id off v.cells).bind fun _ => .ret .un else .no := rfl
theorem storeCell_eq {id off : Nat} {v : LV} : storeCellT id off v = (stow id v).bind fun c => .get id fun o => onCells o fun cs => if off < cs.length then .put id (.cells (cs.set off c)) (.ret ()) else .no := by
  unfold storeCellT
  congr
theorem storeCells_nil {id off : Nat} : storeCellsT id off [] = .ret () := rfl
theorem storeCells_cons {id off : Nat} {v : LV} {vs : List LV} : storeCellsT id off (v :: vs) = (storeCellT id off v).bind fun _ => storeCellsT id (off + 1) vs := rfl
theorem fieldAddr_ptr {id off f : Nat} : fieldAddrT P t f (.ptr id off) = match tyField P t f with | some (o, _, n) => if n = 0 then .no else .ret (.ptr id (off + o)) | none => .no := by
  unfold fieldAddrT
  cases tyField P t f <;> rfl
theorem stow_int {id : Nat} {k : IntKind} {n : Int} : stow id (.d (.int k n)) = .ret (.d (.int k n)) := rfl
theorem stow_bool {id : Nat} {b : Bool} : stow id (.d (.bool b)) = .ret (.d (.bool b)) := rfl
theorem stow_str {id : Nat} {b : List UInt8} : stow id (.d (.str b)) = .ret (.d (.str b)) := rfl
theorem stow_sl {id : Nat} {b : List D} : stow id (.d (.sl b)) = .ret (.d (.sl b)) := rfl
theorem stow_lit {id : Nat} {b : List D} : stow id (.lit b) = .ret (.lit b) := rfl
theorem fetch_d {id off : Nat} {x : D} : fetch id off (.d x) = .d x := rfl
theorem fetch_lit {id off : Nat} {x : List D} : fetch id off (.lit x) = .lit x := rfl
theorem fetch_own {id off ver sz : Nat} {x : List D} : fetch id off (.own ver sz x false) = .ar (.cell id off ver) sz 0 x.length := rfl
theorem box_eq {v : LV} : boxT v = .new (.cells (List.replicate v.cells.length .un)) fun id => (storeCellsT id 0 v.cells).bind fun _ => .ret (.ptr id 0) := rfl
theorem cells_agg {cs : List LV} : (LV.agg cs).cells = cs := rfl
theorem cells_dagg {cs : List D} : (LV.d (.agg cs)).cells = cs.map .d := rfl
theorem cells_int {k : IntKind} {n : Int} : (LV.d (.int k n)).cells = [.d (.int k n)] := rfl
theorem cells_str {b : List UInt8} : (LV.d (.str b)).cells = [.d (.str b)] := rfl
theorem cells_bool {b : Bool} : (LV.d (.bool b)).cells = [.d (.bool b)] := rfl
theorem cells_sl {b : List D} : (LV.d (.sl b)).cells = [.d (.sl b)] := rfl
theorem cells_lit {b : List D} : (LV.lit b).cells = [.lit b] := rfl
theorem cells_ar {l : Loc} {a b c : Nat} : (LV.ar l a b c).cells = [.ar l a b c] := rfl
/-! literals -/
def ezero (P : Program) (t : TypeId) : Bool := match tyElem P t with | some (e, _) => (zeroCells P e).isSome | none => false
theorem bslice {n : Nat} {ps : List (Nat × LV)} {Q : LV → St → Prop} (h : esz P t = some 1) (hz : ezero P t = true) :
    TQ (buildSliceT P t n ps) S Q ↔ (ps.map (·.1) = List.range n ∧ n ≤ 16777216) ∧ TQ (T.mapL toD (ps.map (·.2))) S (hold (fun xs S' => sized 1 xs ∧ Q (.lit xs) S') .mk) := by
  obtain ⟨e, he⟩ := esz_some h
  have hz' : (zeroCells P e).isSome = true := by unfold ezero at hz; rw [he] at hz; exact hz
  simp only [buildSliceT, he]
  rw [TQ_ite, mapL_snd]
  simp only [hz', and_true, Nat.mul_one]
  rw [H_bind]
  have : (fun (b : List D) (S' : St) => TQ (if sized 1 b then T.ret (LV.lit b) else T.no) S' Q) = fun xs S' => sized 1 xs ∧ Q (.lit xs) S' := by
    funext xs S'
    rw [TQ_ite, TQ_ret]
  rw [this]
  simp [and_assoc]
theorem sized_nil : sized 1 [] ↔ True := by simp [sized]
theorem sized_cons {x : D} {l : List D} : sized 1 (x :: l) ↔ x.cells.length = 1 ∧ sized 1 l := by simp [sized]
theorem dcells_int {k : IntKind} {n : Int} : (D.int k n).cells = [.int k n] := rfl
/-! maps -/
def onMap {α : Type} (o : Obj) (k : Option IntKind → List (D × D) → T α) : T α := match o with | .mp ks es => k ks es | _ => .no
theorem onMap_mp {α : Type} {ks : Option IntKind} {es : List (D × D)} {k : Option IntKind → List (D × D) → T α} : onMap (.mp ks es) k = k ks es := rfl
theorem lookup_mp {id : Nat} {i : LV} {ok : Bool} : lookupT P t (.mp id) i ok = match tyMap P t, dOf? i with
  | some (tk, te), some k => match tyKey P tk, zeroM P te with
    | some ks, some z => if k.isKey ks then .get id fun o => onMap o fun ks' es => if ks = ks' then .ret (found (look es k) z ok) else .no else .no
    | _, _ => .no
  | _, _ => .no := by
  unfold lookupT
  cases tyMap P t with
  | none => rfl
  | some p =>
    cases dOf? i with
    | none => rfl
    | some k =>
      obtain ⟨tk, te⟩ := p
      simp only
      cases tyKey P tk with
      | none => rfl
      | some ks =>
        cases zeroM P te with
        | none => rfl
        | some z =>
          simp only
          split
          · congr
          · rfl
theorem mapUpdate_mp {id : Nat} {i v : LV} : mapUpdateT P t (.mp id) i v = match tyMap P t, dOf? i with
  | some (tk, _), some k => match tyKey P tk with
    | some ks => if k.isKey ks then (toD v).bind fun x => .get id fun o => onMap o fun ks' es => if ks = ks' then .put id (.mp ks (upd es k x)) (.ret .un) else .no else .no
    | none => .no
  | _, _ => .no := by
  unfold mapUpdateT
  cases tyMap P t with
  | none => rfl
  | some p =>
    cases dOf? i with
    | none => rfl
    | some k =>
      obtain ⟨tk, te⟩ := p
      simp only
      cases tyKey P tk with
      | none => rfl
      | some ks =>
        simp only
        split
        · congr
        · rfl
/-- a set of whole numbers, as a map to true -/
def setD' (l : List Int) : List (D × D) := l.map fun n => (.int .i64 n, .bool true)
theorem setD_nil' : setD' [] = [] := rfl
theorem same_int {a b : Int} : (D.int .i64 a).same (.int .i64 b) = decide (a = b) := by simp [D.same]
theorem look_set (l : List Int) (n : Int) : look (setD' l) (.int .i64 n) = if n ∈ l then some (.bool true) else none := by
  induction l with
  | nil => rfl
  | cons m l ih =>
    have : look (setD' (m :: l)) (.int .i64 n) = if n = m then some (.bool true) else look (setD' l) (.int .i64 n) := by
      simp only [look, setD', List.map_cons, List.find?, same_int]
      by_cases h : n = m <;> simp [h]
    rw [this, ih]
    by_cases h : n = m
    · simp [h]
    · simp [h]
theorem upd_set (l : List Int) (n : Int) (h : n ∉ l) : upd (setD' l) (.int .i64 n) (.bool true) = setD' (l ++ [n]) := by
  induction l with
  | nil => rfl
  | cons m l ih =>
    have hm : n ≠ m := fun e => h (by simp [e])
    have hl : n ∉ l := fun e => h (by simp [e])
    have : upd (setD' (m :: l)) (.int .i64 n) (.bool true) = (.int .i64 m, .bool true) :: upd (setD' l) (.int .i64 n) (.bool true) := by
      simp only [setD', List.map_cons, upd, same_int]
      simp [hm]
    rw [this, ih hl]; rfl
attribute [simp] set_alloc set_set set_alloc0 onCells_cells load_ptr store_ptr storeCell_eq storeCells_nil storeCells_cons fieldAddr_ptr stow_int stow_bool stow_str stow_sl stow_lit fetch_d fetch_lit fetch_own box_eq
  cells_agg cells_dagg cells_int cells_str cells_bool cells_sl cells_lit cells_ar bslice sized_nil sized_cons dcells_int onMap_mp lookup_mp mapUpdate_mp
end Go.VM
end

/- The machine of values: rules to reckon with, for slices of bytes that are owned. No condition. -/
section
namespace Go.VM
variable {P : Program} {t : TypeId} {S : St} {Q : LV → St → Prop}

/-- a number's last byte -/
def u8 (n : Int) : UInt8 := UInt8.ofNat (n % 256).toNat
theorem u8_val (n : Int) : ((u8 n).toNat : Int) = n % 256 := by
  simp [u8]
  omega
theorem wrap_by {n : Int} : IntKind.u8.wrap n = ((u8 n).toNat : Int) := by rw [wrap_u8, u8_val]
def zeros (n : Nat) : List UInt8 := List.replicate n 0
theorem zeros_length (n : Nat) : (zeros n).length = n := by simp [zeros]
/-- are its elements bytes that begin as 0? -/
def mkBy (P : Program) (t : TypeId) : Bool := match tyElem P t with
  | some (e, es) => es == 1 && tyBytes P e == 1 && (match zeroD P e with | some (.int .u8 0) => true | _ => false)
  | none => false
theorem mkBy_spec (h : mkBy P t = true) : ∃ e, tyElem P t = some (e, 1) ∧ tyBytes P e = 1 ∧ zeroD P e = some (.int .u8 0) := by
  unfold mkBy at h
  split at h
  · rename_i e es he
    simp only [Bool.and_eq_true, beq_iff_eq] at h
    obtain ⟨⟨rfl, h2⟩, h3⟩ := h
    refine ⟨e, he, h2, ?_⟩
    split at h3
    · assumption
    · cases h3
  · cases h
theorem rep_zero (n : Nat) : List.replicate n (D.int .u8 0) = byD (zeros n) := by simp [byD, zeros]
theorem mk_by {k k' : IntKind} {n c : Int} (h : mkBy P t = true) : TQ (makeSliceT P t (.d (.int k n)) (.d (.int k' c))) S Q ↔ (0 ≤ n ∧ n ≤ c ∧ c ≤ 70368744177664) ∧ Q (.ar (.arr S.next) 1 0 n.toNat) (S.alloc (.arr 1 (byD (zeros n.toNat)) false)) := by
  obtain ⟨e, he, h2, h3⟩ := mkBy_spec h
  simp only [makeSliceT, he, h3, h2]
  rw [TQ_ite, TQ_new, TQ_ret, rep_zero]
  simp [D.cells, and_assoc]
theorem st_by {id i : Nat} {c : UInt8} {b : List UInt8} (ht : tyAgg P t = some false) (hs : tySize P t = 1) (ho : S.obj id = .arr 1 (byD b) false) :
    TQ (storeT P t (.d (.int .u8 c.toNat)) (.elp (.arr id) 1 i 0)) S Q ↔ i < b.length ∧ Q .un (S.set id (.arr 1 (byD (b.set i c)) false)) := by
  simp only [storeT, ht, hs, cells_int, List.length_cons, List.length_nil, Option.isSome_some, and_self, if_true]
  simp only [T.mapL, toD1, T.bind, arrT]
  rw [TQ_get, ho]
  simp only [Bool.false_eq_true, if_false, byD_get]
  by_cases hi : i < b.length
  · simp [hi, D.cells, putCells, setT, T.bind, byD_set, TQ_put, TQ_ret]
  · simp [hi, TQ_no]
theorem copy_by {ts : Array TypeId} {id lo n : Nat} {b ys : List UInt8} (ht : (ts[0]?).bind (esz P) = some 1) (ho : S.obj id = .arr 1 (byD b) false) :
    TQ (copyT P ts (.ar (.arr id) 1 lo n) (.d (.sl (byD ys)))) S Q ↔ lo + n ≤ b.length ∧ Q (.d (.int .i64 (min ys.length n : Nat))) (S.set id (.arr 1 (byD (b.take lo ++ ys.take n ++ b.drop (lo + min ys.length n))) false)) := by
  cases h0 : ts[0]? with
  | none => rw [h0] at ht; cases ht
  | some t =>
    rw [h0] at ht
    obtain ⟨e, he⟩ := esz_some ht
    simp only [copyT, h0, Option.bind_some, he, srcT, byD_sized, if_true, arrT]
    rw [TQ_get, ho]
    simp only [Bool.false_eq_true, if_false, byD_length]
    rw [TQ_ite]
    have : (byD b).take lo ++ (byD ys).take n ++ (byD b).drop (lo + min ys.length n) = byD (b.take lo ++ ys.take n ++ b.drop (lo + min ys.length n)) := by simp [byD, List.map_take, List.map_drop]
    rw [this]
    exact Iff.rfl
theorem copy_str {ts : Array TypeId} {id lo n : Nat} {b ys : List UInt8} (ht : (ts[0]?).bind (esz P) = some 1) (ho : S.obj id = .arr 1 (byD b) false) :
    TQ (copyT P ts (.ar (.arr id) 1 lo n) (.d (.str ys))) S Q ↔ lo + n ≤ b.length ∧ Q (.d (.int .i64 (min ys.length n : Nat))) (S.set id (.arr 1 (byD (b.take lo ++ ys.take n ++ b.drop (lo + min ys.length n))) false)) := by
  rw [← copy_by ht ho]
  cases h0 : ts[0]? with
  | none => rw [h0] at ht; cases ht
  | some t =>
    rw [h0] at ht
    obtain ⟨e, he⟩ := esz_some ht
    simp only [copyT, h0, Option.bind_some, he, srcT, byD_sized, if_true]
    exact Iff.rfl
theorem L_copy_by {ts : Array TypeId} {id lo n : Nat} {b ys : List UInt8} {K : LV → St → List Nat → List Nat → Prop} (ht : (ts[0]?).bind (esz P) = some 1) (ho : S.obj id = .arr 1 (byD b) false) :
    TL (copyT P ts (.ar (.arr id) 1 lo n) (.d (.sl (byD ys)))) S K ↔ lo + n ≤ b.length ∧ K (.d (.int .i64 (min ys.length n : Nat))) (S.set id (.arr 1 (byD (b.take lo ++ ys.take n ++ b.drop (lo + min ys.length n))) false)) [id] [id] := by
  cases h0 : ts[0]? with
  | none => rw [h0] at ht; cases ht
  | some t =>
    rw [h0] at ht
    obtain ⟨e, he⟩ := esz_some ht
    simp only [copyT, h0, Option.bind_some, he, srcT, byD_sized, if_true, arrT]
    rw [TL_get, ho]
    simp only [Bool.false_eq_true, if_false, byD_length]
    rw [TL_ite]
    have : (byD b).take lo ++ (byD ys).take n ++ (byD b).drop (lo + min ys.length n) = byD (b.take lo ++ ys.take n ++ b.drop (lo + min ys.length n)) := by simp [byD, List.map_take, List.map_drop]
    rw [this]
    exact Iff.rfl
theorem L_copy_str {ts : Array TypeId} {id lo n : Nat} {b ys : List UInt8} {K : LV → St → List Nat → List Nat → Prop} (ht : (ts[0]?).bind (esz P) = some 1) (ho : S.obj id = .arr 1 (byD b) false) :
    TL (copyT P ts (.ar (.arr id) 1 lo n) (.d (.str ys))) S K ↔ lo + n ≤ b.length ∧ K (.d (.int .i64 (min ys.length n : Nat))) (S.set id (.arr 1 (byD (b.take lo ++ ys.take n ++ b.drop (lo + min ys.length n))) false)) [id] [id] := by
  rw [← L_copy_by ht ho]
  cases h0 : ts[0]? with
  | none => rw [h0] at ht; cases ht
  | some t =>
    rw [h0] at ht
    obtain ⟨e, he⟩ := esz_some ht
    simp only [copyT, h0, Option.bind_some, he, srcT, byD_sized, if_true]
    exact Iff.rfl
/-- a byte is written into a row -/
def st1 (id i : Nat) (c : UInt8) (o : Obj) : T LV := match o with
  | .arr sz xs fz => if fz then .no else match xs[i]? with
      | some x => if 0 + [D.int .u8 c.toNat].length ≤ x.cells.length then (setT (.arr id) sz (xs.set i (putCells x 0 [.int .u8 c.toNat])) false).bind fun _ => .ret .un else .no
      | none => .no
  | _ => .no
theorem st1_eq {id i : Nat} {c : UInt8} {b : List UInt8} : st1 id i c (.arr 1 (byD b) false) = if i < b.length then .put id (.arr 1 (byD (b.set i c)) false) (.ret .un) else .no := by
  simp only [st1, Bool.false_eq_true, if_false, byD_get]
  by_cases hi : i < b.length
  · simp [hi, D.cells, putCells, setT, T.bind, byD_set]
  · simp [hi]
theorem store_by {id i s : Nat} {c : UInt8} (ht : tyAgg P t = some false) (hs : tySize P t = 1) : storeT P t (.d (.int .u8 c.toNat)) (.elp (.arr id) s i 0) = .get id fun o => st1 id i c o := by
  simp only [storeT, ht, hs, cells_int, List.length_cons, List.length_nil, Option.isSome_some, and_self, if_true]
  rfl
/-- bytes are copied into a row -/
def cp1 (id lo n : Nat) (ys : List D) (o : Obj) : T LV := match o with
  | .arr _ xs fz => if fz then .no else if lo + n ≤ xs.length then
      (setT (.arr id) 1 (xs.take lo ++ ys.take n ++ xs.drop (lo + min ys.length n)) false).bind fun _ => .ret (.d (.int .i64 (min ys.length n : Nat))) else .no
  | _ => .no
theorem cp1_eq {id lo n : Nat} {b ys : List UInt8} : cp1 id lo n (byD ys) (.arr 1 (byD b) false) = if lo + n ≤ b.length then
    .put id (.arr 1 (byD (b.take lo ++ ys.take n ++ b.drop (lo + min ys.length n))) false) (.ret (.d (.int .i64 (min ys.length n : Nat)))) else .no := by
  have : (byD b).take lo ++ (byD ys).take n ++ (byD b).drop (lo + min ys.length n) = byD (b.take lo ++ ys.take n ++ b.drop (lo + min ys.length n)) := by simp [byD, List.map_take, List.map_drop]
  simp only [cp1, Bool.false_eq_true, if_false, byD_length, this]
  rfl
theorem copy_by1 {ts : Array TypeId} {id lo n : Nat} {ys : List UInt8} (ht : (ts[0]?).bind (esz P) = some 1) : copyT P ts (.ar (.arr id) 1 lo n) (.d (.sl (byD ys))) = .get id fun o => cp1 id lo n (byD ys) o := by
  cases h0 : ts[0]? with
  | none => rw [h0] at ht; cases ht
  | some t =>
    rw [h0] at ht
    obtain ⟨e, he⟩ := esz_some ht
    simp only [copyT, h0, Option.bind_some, he, srcT, byD_sized, if_true]
    rfl
theorem copy_str1 {ts : Array TypeId} {id lo n : Nat} {ys : List UInt8} (ht : (ts[0]?).bind (esz P) = some 1) : copyT P ts (.ar (.arr id) 1 lo n) (.d (.str ys)) = .get id fun o => cp1 id lo n (byD ys) o := by
  cases h0 : ts[0]? with
  | none => rw [h0] at ht; cases ht
  | some t =>
    rw [h0] at ht
    obtain ⟨e, he⟩ := esz_some ht
    simp only [copyT, h0, Option.bind_some, he, srcT, if_true]
    rfl
attribute [simp] zeros_length wrap_by mk_by st1_eq store_by cp1_eq copy_by1 copy_str1
end Go.VM
end

/- The machine of values: rules to reckon with, for slices of any elements. No condition. -/
section
namespace Go.VM
variable {P : Program} {t : TypeId} {S : St} {α : Type}

/-- a slice's elements, by what stands for one -/
def rowD {α : Type} (enc : α → D) (l : List α) : List D := l.map enc
theorem rowD_length {enc : α → D} {l : List α} : (rowD enc l).length = l.length := by simp [rowD]
theorem rowD_nil {enc : α → D} : rowD enc [] = [] := rfl
theorem rowD_get [Inhabited α] {enc : α → D} {l : List α} {i : Nat} : (rowD enc l)[i]? = if i < l.length then some (enc (nth l i)) else none := by
  by_cases h : i < l.length
  · rw [rowD, List.getElem?_map, nth_get h, if_pos h]; rfl
  · rw [rowD, List.getElem?_map, nth_none h, if_neg h]; rfl
theorem rowD_append {enc : α → D} {a b : List α} : rowD enc a ++ rowD enc b = rowD enc (a ++ b) := by simp [rowD]
theorem rowD_snoc {enc : α → D} {a : List α} {x : α} : rowD enc (a ++ [x]) = rowD enc a ++ [enc x] := by simp [rowD]
theorem rowD_one {enc : α → D} {x : α} : rowD enc [x] = [enc x] := rfl
theorem rowD_cons {enc : α → D} {x : α} {l : List α} : rowD enc (x :: l) = enc x :: rowD enc l := rfl
theorem rowD_sub {enc : α → D} {l : List α} {i n : Nat} : sub (rowD enc l) i n = rowD enc ((l.drop i).take n) := by simp [sub, rowD, List.map_take, List.map_drop]
theorem rowD_set {enc : α → D} {l : List α} {i : Nat} {x : α} : (rowD enc l).set i (enc x) = rowD enc (l.set i x) := by simp [rowD, List.map_set]
theorem rowD_sized {enc : α → D} {l : List α} {n : Nat} (h : ∀ a, (enc a).cells.length = n) : sized n (rowD enc l) := by
  intro x hx
  obtain ⟨c, _, rfl⟩ := List.mem_map.1 hx
  exact h c
theorem sizedN_nil {n : Nat} : sized n [] ↔ True := by simp [sized]
theorem sizedN_cons {n : Nat} {x : D} {l : List D} : sized n (x :: l) ↔ x.cells.length = n ∧ sized n l := by simp [sized]
theorem sizedN_app {n : Nat} {a b : List D} : sized n (a ++ b) ↔ sized n a ∧ sized n b := by
  simp only [sized, List.mem_append]
  exact ⟨fun h => ⟨fun x hx => h x (.inl hx), fun x hx => h x (.inr hx)⟩, fun h x hx => hx.elim (h.1 x) (h.2 x)⟩
theorem sizedN_by {b : List UInt8} : sized 1 (byD b) ↔ True := iff_true_intro (byD_sized b)
theorem sizedN_in {b : List Int} : sized 1 (inD b) ↔ True := iff_true_intro (inD_sized b)
theorem fits_iff {n b : Nat} : fits n b ↔ n ≤ 70368744177664 ∧ n * b ≤ 70368744177664 := Iff.rfl
/-- if there is one -/
def onO {β γ : Type} (o : Option β) (k : β → T γ) : T γ := match o with | some b => k b | none => .no
theorem onO_some {β γ : Type} {b : β} {k : β → T γ} : onO (some b) k = k b := rfl
theorem onO_none {β γ : Type} {k : β → T γ} : onO none k = .no := rfl
theorem esz_none (h : tyElem P t = none) : esz P t = none := by simp [esz, h]
/-! places of elements -/
theorem ia_sl {xs : List D} {k : IntKind} {i : Int} : indexAddrT P t (.d (.sl xs)) (.d (.int k i)) = onO (esz P t) fun n => elemOf xs n i := by
  cases h : tyElem P t with
  | none => simp only [indexAddrT, h, esz_none h, onO_none]; cases tyArr P t <;> simp
  | some p => simp [indexAddrT, h, esz, onO]
theorem ia_lit {xs : List D} {k : IntKind} {i : Int} : indexAddrT P t (.lit xs) (.d (.int k i)) = onO (esz P t) fun n => elemOf xs n i := by
  cases h : tyElem P t with
  | none => simp only [indexAddrT, h, esz_none h, onO_none]; cases tyArr P t <;> simp
  | some p => simp [indexAddrT, h, esz, onO]
theorem ia_ar {l : Loc} {sz lo n : Nat} {k : IntKind} {i : Int} : indexAddrT P t (.ar l sz lo n) (.d (.int k i)) = onO (esz P t) fun es => if sz = es ∧ 0 ≤ i ∧ i < n then .ret (.elp l sz (lo + i.toNat) 0) else .no := by
  cases h : tyElem P t with
  | none => simp only [indexAddrT, h, esz_none h, onO_none]; cases tyArr P t <;> simp
  | some p => simp [indexAddrT, h, esz, onO]
theorem elem_row [Inhabited α] {enc : α → D} {l : List α} {es : Nat} {i : Int} : elemOf (rowD enc l) es i = if (0 ≤ i ∧ i < l.length) ∧ (enc (nth l i.toNat)).cells.length = es then .ret (.cp (enc (nth l i.toNat)).cells) else .no := by
  unfold elemOf
  rw [rowD_get]
  by_cases h0 : 0 ≤ i
  · by_cases hi : i < l.length
    · have hn : i.toNat < l.length := by omega
      simp [h0, hi, hn]
    · have hn : ¬ i.toNat < l.length := by omega
      simp [h0, hi, hn]
  · simp [h0]
theorem elem_byT {b : List UInt8} {i : Int} : elemOf (byD b) 1 i = if 0 ≤ i ∧ i < b.length then .ret (.cp [.int .u8 (nth b i.toNat).toNat]) else .no := by
  unfold elemOf
  rw [byD_get]
  by_cases h0 : 0 ≤ i
  · by_cases hi : i < b.length
    · have hn : i.toNat < b.length := by omega
      simp [h0, hi, hn, D.cells]
    · have hn : ¬ i.toNat < b.length := by omega
      simp [h0, hi, hn]
  · simp [h0]
theorem elem_inT {b : List Int} {i : Int} : elemOf (inD b) 1 i = if 0 ≤ i ∧ i < b.length then .ret (.cp [.int .i64 (nth b i.toNat)]) else .no := by
  unfold elemOf
  rw [inD_get]
  by_cases h0 : 0 ≤ i
  · by_cases hi : i < b.length
    · have hn : i.toNat < b.length := by omega
      simp [h0, hi, hn, D.cells]
    · have hn : ¬ i.toNat < b.length := by omega
      simp [h0, hi, hn]
  · simp [h0]
theorem ia_arr_ptr {id off : Nat} {k : IntKind} {i : Int} (h : tyElem P t = none) : indexAddrT P t (.ptr id off) (.d (.int k i)) = onO (tyArr P t) fun p => if 0 ≤ i ∧ i < p.1 then .ret (.ptr id (off + i.toNat * p.2.2)) else .no := by
  simp only [indexAddrT, h]
  cases tyArr P t <;> simp [onO]
theorem ia_arr_cp {cs : List D} {k : IntKind} {i : Int} (h : tyElem P t = none) : indexAddrT P t (.cp cs) (.d (.int k i)) = onO (tyArr P t) fun p => if 0 ≤ i ∧ i < p.1 then .ret (.cp (cs.drop (i.toNat * p.2.2))) else .no := by
  simp only [indexAddrT, h]
  cases tyArr P t <;> simp [onO]
/-! loads, stores -/
def onArr {β : Type} (o : Obj) (k : Nat → List D → Bool → T β) : T β := match o with | .arr sz xs fz => k sz xs fz | _ => .no
theorem onArr_arr {β : Type} {sz : Nat} {xs : List D} {fz : Bool} {k : Nat → List D → Bool → T β} : onArr (.arr sz xs fz) k = k sz xs fz := rfl
def onOwn {β : Type} (c : Option LV) (v : Nat) (k : Nat → List D → Bool → T β) : T β := match c with
  | some (.own v' sz xs fz) => if v = v' then k sz xs fz else .no
  | _ => .no
theorem onOwn_own {β : Type} {v v' sz : Nat} {xs : List D} {fz : Bool} {k : Nat → List D → Bool → T β} : onOwn (some (.own v' sz xs fz)) v k = if v = v' then k sz xs fz else .no := rfl
theorem arrT_arr {β : Type} {id : Nat} {k : Nat → List D → Bool → T β} : arrT (.arr id) k = .get id fun o => onArr o k := by
  simp only [arrT]
  congr
theorem arrT_cell {β : Type} {id off v : Nat} {k : Nat → List D → Bool → T β} : arrT (.cell id off v) k = .get id fun o => onCells o fun cs => onOwn cs[off]? v k := by
  simp only [arrT]
  congr
theorem setT_arr {id sz : Nat} {xs : List D} {fz : Bool} : setT (.arr id) sz xs fz = .put id (.arr sz xs fz) (.ret ()) := rfl
theorem setT_cell {id off v sz : Nat} {xs : List D} {fz : Bool} : setT (.cell id off v) sz xs fz = .get id fun o => onCells o fun cs => .put id (.cells (cs.set off (.own v sz xs fz))) (.ret ()) := by
  simp only [setT]
  congr
theorem killT_arr {id : Nat} : killT (.arr id) = .put id .dead (.ret ()) := rfl
theorem killT_cell {id off v : Nat} : killT (.cell id off v) = .get id fun o => onCells o fun cs => .put id (.cells (cs.set off .un)) (.ret ()) := by
  simp only [killT]
  congr
theorem stow_ar {id lo n sz : Nat} {l : Loc} : stow id (.ar l sz lo n) = arrT l fun sz xs fz => if lo + n ≤ xs.length then (if fz then .ret (.d (.sl (sub xs lo n))) else (killT l).bind fun _ => .tick fun v => .ret (.own v sz (sub xs lo n) false)) else .no := rfl
theorem toD_ar {l : Loc} {sz lo n : Nat} : toD (.ar l sz lo n) = arrT l fun sz xs fz => if lo + n ≤ xs.length then (if fz then .ret (.sl (sub xs lo n)) else (setT l sz xs true).bind fun _ => .ret (.sl (sub xs lo n))) else .no := rfl
theorem toD1_ar {l : Loc} {sz lo n : Nat} : toD1 (.ar l sz lo n) = arrT l fun sz xs fz => if lo + n ≤ xs.length then (if fz then .ret (.sl (sub xs lo n)) else (setT l sz xs true).bind fun _ => .ret (.sl (sub xs lo n))) else .no := rfl
theorem peek_ar {l : Loc} {sz lo n : Nat} : peek (.ar l sz lo n) = arrT l fun _ xs _ => if lo + n ≤ xs.length then .ret (.sl (sub xs lo n)) else .no := rfl
theorem peek1_ar {l : Loc} {sz lo n : Nat} : peek1 (.ar l sz lo n) = arrT l fun _ xs _ => if lo + n ≤ xs.length then .ret (.sl (sub xs lo n)) else .no := rfl
theorem not_frozen {β : Type} {x y : T β} : (if false = true then x else y) = y := rfl
theorem is_frozen {β : Type} {x y : T β} : (if true = true then x else y) = x := rfl
/-- what is read of an element -/
def ldE (g : Option Bool) (n : Nat) (x : Option D) (off : Nat) : T LV := match x with
  | some x => match g with
    | some true => if off + n ≤ x.cells.length then .ret (.d (.agg ((x.cells.drop off).take n))) else .no
    | some false => match x.cells[off]? with
      | some c => .ret (.d c)
      | none => .no
    | none => .no
  | none => .no
theorem load_elp {l : Loc} {s i off : Nat} : loadT P t (.elp l s i off) = arrT l fun _ xs _ => ldE (tyAgg P t) (tySize P t) xs[i]? off := by
  simp only [loadT, ldE]
  congr
theorem ldE_ite {g : Option Bool} {n : Nat} {c : Prop} [Decidable c] {x : D} {off : Nat} : ldE g n (if c then some x else none) off = if c then ldE g n (some x) off else .no := by
  by_cases h : c <;> simp [h, ldE]
theorem ldE_sc {n : Nat} {x : D} {off : Nat} : ldE (some false) n (some x) off = onO x.cells[off]? fun c => .ret (.d c) := by
  simp only [ldE, onO]
  cases x.cells[off]? <;> rfl
theorem ldE_row {n : Nat} {x : D} {off : Nat} : ldE (some true) n (some x) off = if off + n ≤ x.cells.length then .ret (.d (.agg ((x.cells.drop off).take n))) else .no := rfl
/-- an element is written -/
def stE (l : Loc) (sz : Nat) (xs : List D) (fz : Bool) (i off : Nat) (ds : List D) : T LV := if fz then .no else match xs[i]? with
  | some x => if off + ds.length ≤ x.cells.length then (setT l sz (xs.set i (putCells x off ds)) false).bind fun _ => .ret .un else .no
  | none => .no
theorem store_elp {v : LV} {l : Loc} {s i off : Nat} : storeT P t v (.elp l s i off) = if (tyAgg P t).isSome ∧ v.cells.length = tySize P t then (T.mapL toD1 v.cells).bind fun ds => arrT l fun sz xs fz => stE l sz xs fz i off ds else .no := rfl
theorem stE_by {l : Loc} {b : List UInt8} {i : Nat} {c : UInt8} : stE l 1 (byD b) false i 0 [.int .u8 c.toNat] = if i < b.length then (setT l 1 (byD (b.set i c)) false).bind fun _ => .ret .un else .no := by
  simp only [stE, byD_get, Bool.false_eq_true, if_false]
  by_cases h : i < b.length
  · simp [h, D.cells, putCells, byD_set]
  · simp [h]
theorem stE_in {l : Loc} {b : List Int} {i : Nat} {c : Int} : stE l 1 (inD b) false i 0 [.int .i64 c] = if i < b.length then (setT l 1 (inD (b.set i c)) false).bind fun _ => .ret .un else .no := by
  simp only [stE, inD_get, Bool.false_eq_true, if_false]
  by_cases h : i < b.length
  · simp [h, D.cells, putCells, inD_set]
  · simp [h]
/-- a slice of bytes, as an element -/
def sb (b : List UInt8) : D := .sl (byD b)
theorem sb_cells (b : List UInt8) : (sb b).cells = [.sl (byD b)] := rfl
theorem stE_sb {l : Loc} {b : List (List UInt8)} {i : Nat} {c : List UInt8} : stE l 1 (rowD sb b) false i 0 [.sl (byD c)] = if i < b.length then (setT l 1 (rowD sb (b.set i c)) false).bind fun _ => .ret .un else .no := by
  simp only [stE, rowD_get, Bool.false_eq_true, if_false]
  by_cases h : i < b.length
  · have e : (rowD sb b).set i (.sl (byD c)) = rowD sb (b.set i c) := rowD_set
    simp only [h, if_true, sb_cells]
    simp [putCells, sb, ← e]
  · simp [h]
/-! fields -/
/-- a part of a struct -/
def fldD (cs : List D) (o n : Nat) (g : Option Bool) : T LV := match g with
  | some true => if o + n ≤ cs.length then .ret (.d (.agg ((cs.drop o).take n))) else .no
  | some false => onO cs[o]? fun c => .ret (.d c)
  | none => .no
def fldL (cs : List LV) (o n : Nat) (g : Option Bool) : T LV := match g with
  | some true => if o + n ≤ cs.length then .ret (.agg ((cs.drop o).take n)) else .no
  | some false => onO cs[o]? .ret
  | none => .no
theorem field_d {f : Nat} {cs : List D} : fieldT P t f (.d (.agg cs)) = onO (tyField P t f) fun p => fldD cs p.1 p.2.2 (tyAgg P p.2.1) := by
  unfold fieldT
  cases tyField P t f with
  | none => rfl
  | some p =>
    obtain ⟨o, ft, n⟩ := p
    simp only [onO, fldD]
    cases tyAgg P ft with
    | none => rfl
    | some b =>
      cases b
      · simp only; cases cs[o]? <;> rfl
      · rfl
theorem field_agg {f : Nat} {cs : List LV} : fieldT P t f (.agg cs) = onO (tyField P t f) fun p => fldL cs p.1 p.2.2 (tyAgg P p.2.1) := by
  unfold fieldT
  cases tyField P t f with
  | none => rfl
  | some p =>
    obtain ⟨o, ft, n⟩ := p
    simp only [onO, fldL]
    cases tyAgg P ft with
    | none => rfl
    | some b =>
      cases b
      · simp only; cases cs[o]? <;> rfl
      · rfl
theorem fldD_sc {cs : List D} {o n : Nat} : fldD cs o n (some false) = onO cs[o]? fun c => .ret (.d c) := rfl
theorem fldD_row {cs : List D} {o n : Nat} : fldD cs o n (some true) = if o + n ≤ cs.length then .ret (.d (.agg ((cs.drop o).take n))) else .no := rfl
theorem fldL_sc {cs : List LV} {o n : Nat} : fldL cs o n (some false) = onO cs[o]? .ret := rfl
theorem fldL_row {cs : List LV} {o n : Nat} : fldL cs o n (some true) = if o + n ≤ cs.length then .ret (.agg ((cs.drop o).take n)) else .no := rfl
theorem fieldAddr_elp {l : Loc} {sz i off f : Nat} : fieldAddrT P t f (.elp l sz i off) = onO (tyField P t f) fun p => if p.2.2 = 0 then .no else .ret (.elp l sz i (off + p.1)) := by
  unfold fieldAddrT
  cases tyField P t f <;> rfl
theorem fieldAddr_cp {cs : List D} {f : Nat} : fieldAddrT P t f (.cp cs) = onO (tyField P t f) fun p => if p.2.2 = 0 then .no else .ret (.cp (cs.drop p.1)) := by
  unfold fieldAddrT
  cases tyField P t f <;> rfl
/-! cuts -/
theorem slice_sl {xs : List D} {lo hi mx : Option LV} : sliceT P t (.d (.sl xs)) lo hi mx = onO (esz P t) fun es => if sized es xs then cut xs.length lo hi mx fun l h => .ret (.d (.sl (sub xs l (h - l)))) else .no := by
  cases h : tyElem P t <;> simp [sliceT, h, esz, onO]
theorem slice_lit {xs : List D} {lo hi mx : Option LV} : sliceT P t (.lit xs) lo hi mx = onO (esz P t) fun es => if sized es xs then cut xs.length lo hi mx fun l h => .ret (.d (.sl (sub xs l (h - l)))) else .no := by
  cases h : tyElem P t <;> simp [sliceT, h, esz, onO]
theorem slice_arN {l : Loc} {sz o n : Nat} {lo hi mx : Option LV} : sliceT P t (.ar l sz o n) lo hi mx = onO (esz P t) fun es => if sz = es then cut n lo hi mx fun a b => .ret (.ar l sz (o + a) (b - a)) else .no := by
  cases h : tyElem P t <;> simp [sliceT, h, esz, onO]
theorem cut_3 {n : Nat} {a b : IntKind} {i j : Int} {k : Nat → Nat → T α} {Q : α → St → Prop} : TQ (cut n none (some (.d (.int a i))) (some (.d (.int b j))) k) S Q ↔ (0 ≤ i ∧ i ≤ j ∧ j ≤ n) ∧ TQ (k 0 i.toNat) S Q := by
  simp only [cut, bound]
  rw [TQ_ite]
  simp [and_assoc]
theorem sub_all {xs : List D} {n : Nat} (h : xs.length ≤ n) : sub xs 0 n = xs := by simp [sub, List.take_of_length_le h]
theorem wrap_byte (c : UInt8) : IntKind.i64.wrap (c.toNat : Int) = c.toNat := by
  have := c.toNat_lt
  exact wrap_i64 (by omega) (by omega)
/-! what is made, what grows -/
def mkZ (P : Program) (t : TypeId) : Option (Nat × Nat × D) := match tyElem P t with
  | some (e, es) => match zeroD P e with
    | some z => if z.cells.length = es then some (es, tyBytes P e, z) else none
    | none => none
  | none => none
def reps (n : Nat) (z : D) : List D := List.replicate n z
theorem reps_by {n : Nat} : reps n (.int .u8 0) = byD (zeros n) := rep_zero n
def ints0 (n : Nat) : List Int := List.replicate n 0
theorem reps_in {n : Nat} : reps n (.int .i64 0) = inD (ints0 n) := by simp [reps, inD, ints0]
theorem ints0_length {n : Nat} : (ints0 n).length = n := by simp [ints0]
theorem reps_length {n : Nat} {z : D} : (reps n z).length = n := by simp [reps]
theorem mk_of {k k' : IntKind} {n c : Int} : makeSliceT P t (.d (.int k n)) (.d (.int k' c)) = onO (mkZ P t) fun p => if 0 ≤ n ∧ n ≤ c ∧ c * p.2.1 ≤ 70368744177664 ∧ c ≤ 70368744177664 then
    .new (.arr p.1 (reps n.toNat p.2.2) false) fun id => .ret (.ar (.arr id) p.1 0 n.toNat) else .no := by
  unfold makeSliceT mkZ
  cases tyElem P t with
  | none => rfl
  | some p =>
    obtain ⟨e, es⟩ := p
    simp only
    cases zeroD P e with
    | none => rfl
    | some z =>
      simp only
      by_cases h : z.cells.length = es
      · simp [h, onO, reps]
      · simp [h, onO]
def appK (P : Program) (t t' : TypeId) : Option (Nat × Nat) := match tyElem P t with
  | some (e, es) => match zeroD P e with
    | some z => if z.cells.length = es ∧ (tyInt P t').isNone = true ∧ (P.underlying t').isSome = true then some (es, tyBytes P e) else none
    | none => none
  | none => none
theorem app_eq {t' : TypeId} {x y : LV} (h : (appK P t t').isSome = true) : appendT P #[t, t'] x y = onO (appK P t t') fun p => srcT p.1 y fun ys => growT p.1 p.2 x ys := by
  unfold appK at h ⊢
  cases he : tyElem P t with
  | none => simp [he] at h
  | some p =>
    obtain ⟨e, es⟩ := p
    cases hz : zeroD P e with
    | none => simp [he, hz] at h
    | some z =>
      by_cases hc : z.cells.length = es ∧ (tyInt P t').isNone = true ∧ (P.underlying t').isSome = true
      · have h2' : tyInt P t' = none := by simpa using hc.2.1
        have h1 := hc.1
        have h3 := hc.2.2
        subst h1
        simp [appendT, he, hz, h2', h3, onO]
      · simp only [he, hz, if_neg hc] at h; cases h
theorem src_lit {es : Nat} {xs : List D} {k : List D → T LV} : srcT es (.lit xs) k = if sized es xs then k xs else .no := rfl
theorem src_sl {es : Nat} {xs : List D} {k : List D → T LV} : srcT es (.d (.sl xs)) k = if sized es xs then k xs else .no := rfl
theorem src_str {es : Nat} {s : List UInt8} {k : List D → T LV} : srcT es (.d (.str s)) k = if es = 1 then k (byD s) else .no := rfl
theorem src_ar {es sz lo n : Nat} {l : Loc} {k : List D → T LV} : srcT es (.ar l sz lo n) k = arrT l fun _ xs _ => if lo + n ≤ xs.length ∧ sized es (sub xs lo n) then k (sub xs lo n) else .no := rfl
theorem grow_lit0 {es b : Nat} {ys : List D} : growT es b (.lit []) ys = if fits ys.length b then .new (.arr es ys false) fun id => .ret (.ar (.arr id) es 0 ys.length) else .no := by
  simp [growT, sized]
theorem grow_ar {l : Loc} {es es' b lo n : Nat} {ys : List D} : growT es b (.ar l es' lo n) ys = if es' = es then arrT l fun _ xs fz => if fz then .no else if lo + n ≤ xs.length ∧ fits (n + ys.length) b then
      (killT l).bind fun _ => .new (.arr es (sub xs lo n ++ ys) false) fun id => .ret (.ar (.arr id) es 0 (n + ys.length)) else .no else .no := rfl
/-! results -/
section
variable {e : Env} {Q : LV → Prop} {K : List LV → Prop}
theorem res_V {rs : List ResultVar} : (resultV P e S rs).holds Q ↔ (resultL P e S rs).holds (hold (fun vs => Q (tupV vs)) .mk) := by
  unfold resultV
  rw [holds_bind]; exact Iff.rfl
theorem res_nil : (resultL P e S []).holds K ↔ K [] := Iff.rfl
theorem res_tmp {t : Tmp} {rs : List ResultVar} : (resultL P e S (.tmp t :: rs)).holds K ↔ (resultL P e S rs).holds (hold (fun vs => K (e t :: vs)) .mk) := by
  simp only [resultL, result1, Res.bind]
  cases resultL P e S rs <;> exact Iff.rfl
theorem res_cell {a : Tmp} {t : TypeId} {rs : List ResultVar} : (resultL P e S (.cell a t :: rs)).holds K ↔ TQ (loadT P t (e a)) S (hold (fun v _ => (resultL P e S rs).holds (hold (fun vs => K (v :: vs)) .mk)) .mk) := by
  simp only [resultL, result1]
  unfold TQ
  cases (loadT P t (e a)).run S with
  | ok r =>
    show ((resultL P e S rs).bind fun vs => Res.ok (r.1 :: vs)).holds K ↔ _
    rw [holds_bind]; exact Iff.rfl
  | no => exact Iff.rfl
  | vac => exact Iff.rfl
theorem tupV_one {v : LV} : tupV [v] = v := rfl
theorem tupV_nil : tupV [] = .tup [] := rfl
theorem tupV_more {v u : LV} {l : List LV} : tupV (v :: u :: l) = .tup (v :: u :: l) := rfl
end
theorem fetchL_nil {id off : Nat} : fetchL id off [] = [] := rfl
theorem fetchL_cons {id off : Nat} {c : LV} {cs : List LV} : fetchL id off (c :: cs) = fetch id off c :: fetchL id (off + 1) cs := rfl
theorem take_drop_all {α : Type} {l : List α} {k : Nat} : (l.drop k).take (l.length - k) = l.drop k := List.take_of_length_le (by simp)
theorem nth_drop {α : Type} [Inhabited α] {l : List α} {k i : Nat} : nth (l.drop k) i = nth l (k + i) := by simp [nth]
theorem nth_take {α : Type} [Inhabited α] {l : List α} {n i : Nat} (h : i < n) : nth (l.take n) i = nth l i := by simp [nth, h]
theorem okb_d {x : D} : (LV.d x).okb = true := rfl
theorem okb_lit {x : List D} : (LV.lit x).okb = true := rfl
theorem okb_ar {l : Loc} {a b c : Nat} : (LV.ar l a b c).okb = true := rfl
theorem okb_agg {cs : List LV} : (LV.agg cs).okb = true := rfl
theorem okb_ptr {a b : Nat} : (LV.ptr a b).okb = true := rfl
def idx (n : Nat) : List Nat := List.range n
theorem idx_zero : idx 0 = [] := rfl
theorem idx_succ {n : Nat} : idx (n + 1) = idx n ++ [n] := by simp [idx, List.range_succ]
theorem bslice_T {n : Nat} {ps : List (Nat × LV)} (hz : ezero P t = true) : buildSliceT P t n ps = onO (esz P t) fun es =>
    if (ps.map (·.1) = idx n ∧ n ≤ 16777216) ∧ n * es ≤ 16777216 then (T.mapL toD (ps.map (·.2))).bind fun xs => if sized es xs then .ret (.lit xs) else .no else .no := by
  unfold ezero at hz
  cases h : tyElem P t with
  | none => rw [h] at hz; cases hz
  | some p =>
    obtain ⟨e, es⟩ := p
    rw [h] at hz
    have hz' : (zeroCells P e).isSome = true := hz
    simp only [buildSliceT, h, hz', and_true, esz, Option.map_some, onO]
    have e1 : (T.mapL (fun p : Nat × LV => toD p.2) ps) = T.mapL toD (ps.map (·.2)) := mapL_snd ps
    rw [e1]
    simp only [idx, and_assoc]
theorem fetch_fz {id off ver sz : Nat} {x : List D} : fetch id off (.own ver sz x true) = .d (.sl x) := rfl
theorem fetch_ptr {id off a b : Nat} : fetch id off (.ptr a b) = .ptr a b := rfl
theorem fetch_fn {id off f : Nat} {cs : List LV} : fetch id off (.fn f cs) = .fn f cs := rfl
theorem fetch_mp {id off a : Nat} : fetch id off (.mp a) = .mp a := rfl
theorem stow_nilP {id : Nat} : stow id (.d .nilP) = .ret (.d .nilP) := rfl
theorem stow_nilM {id : Nat} : stow id (.d .nilM) = .ret (.d .nilM) := rfl
theorem stow_nilF {id : Nat} : stow id (.d .nilF) = .ret (.d .nilF) := rfl
theorem stow_ptr {id i off : Nat} : stow id (.ptr i off) = if i ≤ id then .ret (.ptr i off) else .leak (.ret (.ptr i off)) := rfl
theorem stow_mp {id i : Nat} : stow id (.mp i) = if i ≤ id then .ret (.mp i) else .leak (.ret (.mp i)) := rfl
theorem stow_fn {id f : Nat} : stow id (.fn f []) = .ret (.fn f []) := rfl
theorem cells_ptr {a b : Nat} : (LV.ptr a b).cells = [.ptr a b] := rfl
theorem cells_fn {f : Nat} {cs : List LV} : (LV.fn f cs).cells = [.fn f cs] := rfl
theorem cells_mp {a : Nat} : (LV.mp a).cells = [.mp a] := rfl
theorem cells_nilP : (LV.d .nilP).cells = [.d .nilP] := rfl
theorem dcells_agg {cs : List D} : (D.agg cs).cells = cs := rfl
theorem dcells_str {s : List UInt8} : (D.str s).cells = [.str s] := rfl
theorem dcells_bool {b : Bool} : (D.bool b).cells = [.bool b] := rfl
theorem dcells_sl {b : List D} : (D.sl b).cells = [.sl b] := rfl
attribute [-simp] bslice
attribute [simp] fetch_fz fetch_ptr fetch_fn fetch_mp stow_nilP stow_nilM stow_nilF stow_ptr stow_mp stow_fn cells_ptr cells_fn cells_mp cells_nilP dcells_agg dcells_str dcells_bool dcells_sl
attribute [simp] idx_zero idx_succ bslice_T wrap_i64 okb_d okb_lit okb_ar okb_agg okb_ptr take_drop_all nth_drop fetchL_nil fetchL_cons res_V res_nil res_tmp res_cell tupV_one tupV_nil tupV_more
attribute [-simp] mk_by store_by addr_by addr_in addr_ar slice_ar
attribute [simp] sub_all byD_sub inD_sub rowD_sub rowD_length rowD_get sizedN_nil sizedN_cons sizedN_app sizedN_by sizedN_in fits_iff onO_some onO_none ia_sl ia_lit ia_ar elem_row elem_byT elem_inT ia_arr_ptr ia_arr_cp onArr_arr onOwn_own arrT_arr arrT_cell
  setT_arr setT_cell killT_arr killT_cell stow_ar toD_ar toD1_ar peek_ar peek1_ar not_frozen is_frozen load_elp ldE_ite ldE_sc ldE_row store_elp stE_by stE_in sb_cells stE_sb field_d field_agg fldD_sc fldD_row fldL_sc fldL_row
  fieldAddr_elp fieldAddr_cp slice_sl slice_lit slice_arN cut_3 mk_of reps_by reps_in ints0_length reps_length app_eq src_lit src_sl src_str src_ar grow_lit0 grow_ar byD_get inD_get
end Go.VM
end

/- The machine of values: rules to reckon with, for calls that work on some variables where the order is open. No condition. -/
section
namespace Go.VM
variable {cfg : Cfg} {e : Env} {S : St} {K : LV → St → List Nat → List Nat → Prop}

/-! what is before what, as numbers' digits -/
def maskE (acc : List Nat) : List Nat → Nat
  | [] => 0
  | k :: es => Nat.lor (Nat.lor (Nat.shiftLeft 1 k) (acc.getD k 0)) (maskE acc es)
def befm : List Oper → List Nat → List Nat
  | [], acc => acc
  | o :: os, acc => befm os (acc ++ [maskE acc (edges o)])
def okPairM (ops : List Oper) (ms : List Nat) (i j : Nat) (oi oj : Oper) : Bool :=
  (decide (i = j) || oi.dst.isNone || oi.dst != oj.dst) &&
    (match oi.dst with
    | some d => !(oj.looksAt ops.toArray).contains d || (decide (i < j) && (ms.getD j 0).testBit i) || (decide (j < i) && (ms.getD i 0).testBit j) || decide (i = j)
    | none => true)
def okDrawM (ops : List Oper) (ms : List Nat) : Bool :=
  ops.zipIdx.all fun q => notSelect q.1.op && (edges q.1).all (fun k => decide (k < q.2)) && ops.zipIdx.all fun p => okPairM ops ms p.2 q.2 p.1 q.1
def indepM (ms : List Nat) : List Log → Prop
  | [] => True
  | b :: L => (∀ a ∈ L, (ms.getD b.at_ 0).testBit a.at_ = true ∨ ¬ a.clash b) ∧ indepM ms L
theorem maskE_bit {acc : List Nat} {bef : List (List Nat)} (h : ∀ j i, (acc.getD j 0).testBit i = true ↔ i ∈ bef.getD j []) : ∀ (es : List Nat) (i : Nat), (maskE acc es).testBit i = true ↔ i ∈ es.flatMap fun k => k :: bef.getD k [] := by
  intro es
  induction es with
  | nil => intro i; simp [maskE]
  | cons k es ih =>
    intro i
    have e1 : (Nat.lor (Nat.lor (Nat.shiftLeft 1 k) (acc.getD k 0)) (maskE acc es)).testBit i = (((1 <<< k).testBit i || (acc.getD k 0).testBit i) || (maskE acc es).testBit i) := by
      rw [← Nat.testBit_or, ← Nat.testBit_or]; rfl
    show (Nat.lor _ _).testBit i = true ↔ _
    rw [e1]
    simp only [Bool.or_eq_true, List.flatMap_cons, List.mem_append, List.mem_cons]
    rw [ih i, h k i]
    have e2 : (1 <<< k).testBit i = true ↔ i = k := by
      rw [Nat.one_shiftLeft, Nat.testBit_two_pow]
      simp [eq_comm]
    rw [e2]
theorem befm_bit : ∀ (os : List Oper) (acc : List Nat) (bef : List (List Nat)), acc.length = bef.length → (∀ j i, (acc.getD j 0).testBit i = true ↔ i ∈ bef.getD j []) → ∀ j i, ((befm os acc).getD j 0).testBit i = true ↔ i ∈ (befs os bef).getD j [] := by
  intro os
  induction os with
  | nil => intro acc bef _ h; exact h
  | cons o os ih =>
    intro acc bef hl h
    simp only [befm, befs]
    refine ih _ _ (by simp [hl]) fun j i => ?_
    by_cases hj : j < acc.length
    · have e1 : (acc ++ [maskE acc (edges o)]).getD j 0 = acc.getD j 0 := by simp [List.getD, List.getElem?_append_left hj]
      have e2 : (bef ++ [(edges o).flatMap fun k => k :: bef.getD k []]).getD j [] = bef.getD j [] := by simp [List.getD, List.getElem?_append_left (show j < bef.length by omega)]
      rw [e1, e2]; exact h j i
    · by_cases hj2 : j = acc.length
      · subst hj2
        have e1 : (acc ++ [maskE acc (edges o)]).getD acc.length 0 = maskE acc (edges o) := by simp
        have e2 : (bef ++ [(edges o).flatMap fun k => k :: bef.getD k []]).getD acc.length [] = (edges o).flatMap fun k => k :: bef.getD k [] := by rw [hl]; simp
        rw [e1, e2]; exact maskE_bit h _ i
      · have e1 : (acc ++ [maskE acc (edges o)]).getD j 0 = 0 := by
          simp only [List.getD]
          rw [List.getElem?_eq_none (by simp; omega)]; rfl
        have e2 : (bef ++ [(edges o).flatMap fun k => k :: bef.getD k []]).getD j [] = [] := by
          simp only [List.getD]
          rw [List.getElem?_eq_none (by simp; omega)]; rfl
        rw [e1, e2]; simp
theorem befm_mem {os : List Oper} {ms : List Nat} (h : befm os [] = ms) (j i : Nat) : (ms.getD j 0).testBit i = true ↔ i ∈ (befs os []).getD j [] := by
  subst h
  exact befm_bit os [] [] rfl (fun j i => by simp) j i
theorem okDrawM_ok {os : List Oper} {ms : List Nat} (h : befm os [] = ms) (hd : okDrawM os ms = true) : okDraw os = true := by
  have hp : ∀ i j oi oj, okPairM os ms i j oi oj = okPair os (befs os []) i j oi oj := by
    intro i j oi oj
    have hb : ∀ a b, (ms.getD b 0).testBit a = ((befs os []).getD b []).contains a := by
      intro a b
      rw [Bool.eq_iff_iff, befm_mem h]
      simp
    unfold okPairM okPair
    cases oi.dst with
    | none => rfl
    | some d => simp only [hb]
  unfold okDrawM at hd
  unfold okDraw
  simp only [hp] at hd
  exact hd
theorem indepM_ok {os : List Oper} {ms : List Nat} (h : befm os [] = ms) : ∀ {L : List Log}, indepM ms L → indep (befs os []) L := by
  intro L
  induction L with
  | nil => intro _; trivial
  | cons b L ih =>
    intro hi
    exact ⟨fun a ha => (hi.1 a ha).imp (befm_mem h _ _).1 (fun x => x), ih hi.2⟩
theorem X_drawM {id : Nat} {l : List Oper} {t : Tag (Code.region id l.toArray true)} {Q : Ex → Env → St → Prop} (ms : List Nat) (hm : befm l [] = ms) (hd : okDrawM l ms = true)
    (h : PD cfg S.next S.clk 0 (hold l .mk) (hold l .mk) e S [] (hold (fun e' S' L => indepM ms L ∧ Q .normal e' ⟨S'.obj, S.next + 100 * l.length, S.clk + 100 * l.length, S'.esc⟩) .mk)) :
    PX cfg (hold (.region id l.toArray true) t) e S Q := by
  refine X_draw (okDrawM_ok hm hd) ?_
  obtain ⟨n, h⟩ := h
  exact ⟨n, holds_mono (fun r hr => ⟨indepM_ok hm hr.1, hr.2⟩) h⟩
noncomputable def shBody (cfg : Cfg) (n : Nat) (f : FuncId) (as : List LV) (objs : List (Nat × Obj)) (c : Nat) : T LV :=
  if (objs.all fun p => objTame (objs.map (·.1)) p.2) = true ∧ (as.all (argTame (objs.map (·.1)))) = true then
    (T.ofRes (runSh (ev cfg n) f as objs)).bind fun q => putsT (objs.map fun p => (p.1, stampO c (q.2.obj p.1))) (.ret q.1)
  else .no
def ShD (cfg : Cfg) (f : FuncId) (as : List LV) (S : St) (K : LV → St → List Nat → List Nat → Prop) : Prop :=
  ∃ n, TL ((gather 64 (as.flatMap refs) []).bind fun objs => .tick fun c => shBody cfg n f as objs c) S K
theorem D1_sh {f : FuncId} {args : Array Operand} {ts : Array TypeId} (h : cfg.mode f = .shr) : D1 cfg (.call ⟨.value (.func f), args, ts⟩) e S K ↔
    TL (T.mapL prep (args.toList.map (Operand.lv e))) S (hold (fun as S' r w => ShD cfg f as S' (hold (fun v S'' r' w' => K v S'' (r ++ r') (w ++ w')) .mk)) .mk) := by
  have hc : callee e (.call ⟨.value (.func f), args, ts⟩) = some (f, args.toList.map (Operand.lv e)) := by simp [callee, Operand.lv]
  unfold D1 stepD
  simp only [hc, callT, h, callSh]
  have key : ∀ n, TL ((T.mapL prep (args.toList.map (Operand.lv e))).bind fun as => (gather 64 (as.flatMap refs) []).bind fun objs => .tick fun c => shBody cfg n f as objs c) S K ↔
      TL (T.mapL prep (args.toList.map (Operand.lv e))) S fun as S' r w => TL ((gather 64 (as.flatMap refs) []).bind fun objs => .tick fun c => shBody cfg n f as objs c) S' fun v S'' r' w' => K v S'' (r ++ r') (w ++ w') := by
    intro n
    rw [TL_bind]; exact Iff.rfl
  constructor
  · rintro ⟨n, hn⟩
    have hn := (key n).1 hn
    unfold TL at hn ⊢
    refine holds_mono (fun r hr => ?_) hn
    exact ⟨n, hr⟩
  · intro hh
    unfold TL at hh
    cases hr : (T.mapL prep (args.toList.map (Operand.lv e))).run S with
    | ok r =>
      rw [hr] at hh
      obtain ⟨n, hn⟩ := hh
      refine ⟨n, (key n).2 ?_⟩
      unfold TL
      rw [hr]; exact hn
    | no => rw [hr] at hh; exact hh.elim
    | vac =>
      refine ⟨0, (key 0).2 ?_⟩
      unfold TL
      rw [hr]; trivial
theorem D1_ln {f : FuncId} {args : Array Operand} {ts : Array TypeId} (h : cfg.mode f = .lnd) : D1 cfg (.call ⟨.value (.func f), args, ts⟩) e S K ↔
    TL (T.mapL prep (args.toList.map (Operand.lv e))) S (hold (fun as S' r w => ShD cfg f as S' (hold (fun v S'' r' w' => K v S'' (r ++ r') (w ++ w')) .mk)) .mk) := by
  have hc : callee e (.call ⟨.value (.func f), args, ts⟩) = some (f, args.toList.map (Operand.lv e)) := by simp [callee, Operand.lv]
  unfold D1 stepD
  simp only [hc, callT, h, callSh]
  have key : ∀ n, TL ((T.mapL prep (args.toList.map (Operand.lv e))).bind fun as => (gather 64 (as.flatMap refs) []).bind fun objs => .tick fun c => shBody cfg n f as objs c) S K ↔
      TL (T.mapL prep (args.toList.map (Operand.lv e))) S fun as S' r w => TL ((gather 64 (as.flatMap refs) []).bind fun objs => .tick fun c => shBody cfg n f as objs c) S' fun v S'' r' w' => K v S'' (r ++ r') (w ++ w') := by
    intro n
    rw [TL_bind]; exact Iff.rfl
  constructor
  · rintro ⟨n, hn⟩
    have hn := (key n).1 hn
    unfold TL at hn ⊢
    refine holds_mono (fun r hr => ?_) hn
    exact ⟨n, hr⟩
  · intro hh
    unfold TL at hh
    cases hr : (T.mapL prep (args.toList.map (Operand.lv e))).run S with
    | ok r =>
      rw [hr] at hh
      obtain ⟨n, hn⟩ := hh
      refine ⟨n, (key n).2 ?_⟩
      unfold TL
      rw [hr]; exact hn
    | no => rw [hr] at hh; exact hh.elim
    | vac =>
      refine ⟨0, (key 0).2 ?_⟩
      unfold TL
      rw [hr]; trivial
theorem gather_TL : ∀ (n : Nat) (todo : List Nat) (done objs : List (Nat × Obj)) {S : St}, (gather n todo done).run S = .ok (objs, S) → ∃ l, (gather n todo done).log S = (l, []) ∧ ∀ x ∈ l, x ∈ objs.map (·.1) := by
  intro n
  induction n with
  | zero =>
    intro todo done objs S h
    cases todo with
    | nil => exact ⟨[], rfl, fun x hx => by cases hx⟩
    | cons i l => cases h
  | succ n ih =>
    intro todo done objs S h
    cases todo with
    | nil => exact ⟨[], rfl, fun x hx => by cases hx⟩
    | cons i l =>
      simp only [gather] at h ⊢
      split at h
      · rename_i hc
        rw [if_pos hc]
        exact ih _ _ _ h
      · rename_i hc
        rw [if_neg hc]
        obtain ⟨l', h1, h2⟩ := ih _ _ objs (S := S) h
        refine ⟨i :: l', by simp only [T.log, h1], fun x hx => ?_⟩
        have hsub : ∀ (n : Nat) (todo : List Nat) (done objs : List (Nat × Obj)), (gather n todo done).run S = .ok (objs, S) → ∀ p ∈ done, p ∈ objs := by
          intro n
          induction n with
          | zero =>
            intro todo done objs h
            cases todo with
            | nil => cases h; exact fun p hp => hp
            | cons i l => cases h
          | succ n ih =>
            intro todo done objs h
            cases todo with
            | nil => cases h; exact fun p hp => hp
            | cons i l =>
              simp only [gather] at h
              split at h
              · exact ih _ _ _ h
              · exact fun p hp => ih _ _ _ h p (by simp [hp])
        rcases List.mem_cons.1 hx with rfl | hx
        · exact List.mem_map.2 ⟨_, hsub _ _ _ _ h (x, S.obj x) (by simp), rfl⟩
        · exact h2 x hx
/-- a call that works on one variable -/
theorem ShD_1 {f : FuncId} {as : List LV} {id : Nat} {o : Obj} (hr : as.flatMap refs = [id]) (ho : S.obj id = o) (hor : objRefs o = []) (ht : objTame [id] o = true) (ha : as.all (argTame [id]) = true)
    (h : SQ cfg f as (small [(id, o)]) fun r S1 => TQ (closeV r) S1 fun r' S2 => dataV r' = true ∧ objTame [id] (S2.obj id) = true ∧
      K r' ⟨fun j => if j = id then stampO S.clk (S2.obj id) else S.obj j, S.next, S.clk + 1, S.esc⟩ [id] [id]) : ShD cfg f as S K := by
  subst ho
  obtain ⟨n, h⟩ := h
  refine ⟨n, ?_⟩
  have hb : ∀ c, shBody cfg n f as [(id, S.obj id)] c = (T.ofRes (runSh (ev cfg n) f as [(id, S.obj id)])).bind fun q => .put id (stampO c (q.2.obj id)) (.ret q.1) := by
    intro c
    unfold shBody
    rw [if_pos ⟨by simpa using ht, by simpa using ha⟩]
    rfl
  rw [TL_bind, hr]
  show TL (.get id fun o => gather 63 (objRefs o ++ []) [(id, o)]) S _
  rw [TL_get]
  rw [hor]
  show TL (.tick fun c => shBody cfg n f as [(id, S.obj id)] c) S _
  rw [TL_tick, hb]
  have hrun : (runSh (ev cfg n) f as [(id, S.obj id)]).holds fun q => dataV q.1 = true ∧ objTame [id] (q.2.obj id) = true ∧ K q.1 ⟨fun j => if j = id then stampO S.clk (q.2.obj id) else S.obj j, S.next, S.clk + 1, S.esc⟩ [id] [id] := by
    unfold runSh
    rw [holds_bind]
    refine holds_mono (fun q hq => ?_) h
    rw [holds_bind]
    refine holds_mono (fun q' hq' => ?_) hq
    have hc : dataV q'.1 = true ∧ allTame [(id, S.obj id)] q'.2 = true := ⟨hq'.1, by simpa [allTame] using hq'.2.1⟩
    rw [if_pos hc]
    exact hq'
  rw [TL_bind, TL_quiet (q_ofRes _), TQ_ofRes]
  refine holds_mono (fun q hq => ?_) hrun
  have := hq.2.2
  have e : (⟨fun j => if j = id then stampO S.clk (q.2.obj id) else S.obj j, S.next, S.clk + 1, S.esc⟩ : St) = S.tick.set id (stampO S.clk (q.2.obj id)) := rfl
  rw [e] at this
  exact this
/-- a call that works on data alone -/
theorem ShD_0 {f : FuncId} {as : List LV} (hr : as.flatMap refs = []) (ha : as.all (argTame []) = true)
    (h : SQ cfg f as (small []) fun r S1 => TQ (closeV r) S1 fun r' _ => dataV r' = true ∧ K r' S.tick [] []) : ShD cfg f as S K := by
  obtain ⟨n, h⟩ := h
  refine ⟨n, ?_⟩
  have hb : ∀ c, shBody cfg n f as [] c = (T.ofRes (runSh (ev cfg n) f as [])).bind fun q => .ret q.1 := by
    intro c
    unfold shBody
    rw [if_pos ⟨by simp, by simpa using ha⟩]
    rfl
  rw [TL_bind, hr]
  show TL (.tick fun c => shBody cfg n f as [] c) S _
  rw [TL_tick, hb]
  have hrun : (runSh (ev cfg n) f as []).holds fun q => dataV q.1 = true ∧ K q.1 S.tick [] [] := by
    unfold runSh
    rw [holds_bind]
    refine holds_mono (fun q hq => ?_) h
    rw [holds_bind]
    refine holds_mono (fun q' hq' => ?_) hq
    have hc : dataV q'.1 = true ∧ allTame [] q'.2 = true := ⟨hq'.1, by simp [allTame]⟩
    rw [if_pos hc]
    exact hq'
  rw [TL_bind, TL_quiet (q_ofRes _), TQ_ofRes]
  exact holds_mono (fun q hq => hq.2) hrun
/-- a slice that was made anew -/
def NewSl (S S' : St) (v : LV) (sz : Nat) (xs : List D) : Prop := (v = .lit [] ∧ xs = []) ∨ ∃ id, S.next ≤ id ∧ id < S'.next ∧ v = .ar (.arr id) sz 0 xs.length ∧ S'.obj id = .arr sz xs false
/-- what was there is as it was -/
def Kept (S S' : St) : Prop := (∀ j, j < S.next → S'.obj j = S.obj j) ∧ S.next ≤ S'.next ∧ S.clk ≤ S'.clk ∧ S'.esc = S.esc
theorem Kept.refl (S : St) : Kept S S := ⟨fun _ _ => rfl, Nat.le_refl _, Nat.le_refl _, rfl⟩
theorem Kept.of {S0 S S' : St} (h : Kept S0 S) (ho : ∀ j, j < S0.next → S'.obj j = S.obj j) (hn : S.next ≤ S'.next) (hc : S.clk ≤ S'.clk) (he : S'.esc = S.esc) : Kept S0 S' :=
  ⟨fun j hj => (ho j hj).trans (h.1 j hj), Nat.le_trans h.2.1 hn, Nat.le_trans h.2.2.1 hc, he.trans h.2.2.2⟩
theorem Kept.trans {S0 S S' : St} (h : Kept S0 S) (k : Kept S S') : Kept S0 S' :=
  h.of (fun j hj => k.1 j (Nat.lt_of_lt_of_le hj h.2.1)) k.2.1 k.2.2.1 k.2.2.2
theorem Kept.alloc {S0 S : St} {o : Obj} (h : Kept S0 S) : Kept S0 (S.alloc o) :=
  h.of (fun j hj => by have := h.2.1; simp only [alloc_at]; rw [if_neg (by omega)]) (by simp) (by simp) rfl
theorem Kept.set {S0 S : St} {i : Nat} {o : Obj} (h : Kept S0 S) (hi : S0.next ≤ i) : Kept S0 (S.set i o) :=
  h.of (fun j hj => by simp only [set_obj]; rw [if_neg (by omega)]) (by simp) (by simp) rfl
theorem NewSl.close {S S' : St} {v : LV} {xs : List D} {sz : Nat} {Q : LV → Prop} (h : NewSl S S' v sz xs) (hq : Q (.d (.sl xs))) : TQ (closeV v) S' fun v _ => Q v := by
  rcases h with ⟨rfl, rfl⟩ | ⟨id, h1, h2, rfl, h4⟩
  · exact hq
  · simp only [closeV]
    rw [TQ_bind, toD_ar, arrT_arr, TQ_get, h4, onArr_arr]
    simp only [Nat.zero_add, Nat.le_refl, if_true, Bool.false_eq_true, if_false, setT_arr]
    rw [sub_all (Nat.le_refl _)]
    exact hq
theorem byD_getE {b : List UInt8} {k : Nat} {h : k < (byD b).length} : (byD b)[k] = .int .u8 (nth b k).toNat := by
  have h' : k < b.length := by simpa using h
  simp [byD, nth, h']
theorem inD_getE {b : List Int} {k : Nat} {h : k < (inD b).length} : (inD b)[k] = .int .i64 (nth b k) := by
  have h' : k < b.length := by simpa using h
  simp [inD, nth, h']
theorem rowD_getE {α : Type} [Inhabited α] {enc : α → D} {b : List α} {k : Nat} {h : k < (rowD enc b).length} : (rowD enc b)[k] = enc (nth b k) := by
  have h' : k < b.length := by simpa using h
  simp [rowD, nth, h']
attribute [simp] byD_getE inD_getE rowD_getE
theorem ext_tup {i : Nat} {vs : List LV} : extractT i (.tup vs) = onO vs[i]? .ret := by
  simp only [extractT, onO]
  cases vs[i]? <;> rfl
section
variable {P : Program} {s d : TypeId}
theorem conv_ar {l : Loc} {sz lo n : Nat} (hs : (P.underlying s).isSome = true) (hd : tyStr P d = true) (hb : tyBy P s = true) : convertT P s d (.ar l sz lo n) = arrT l fun _ xs _ => if lo + n ≤ xs.length then onO (bytesOf? (sub xs lo n)) fun b => .ret (.d (.str b)) else .no := by
  simp only [convertT, hs, hd, hb, if_true, peek1]
  cases l with
  | arr id =>
    rw [arrT_arr, arrT_arr]
    simp only [T.bind]
    congr
    funext o
    cases o <;> first | rfl | skip
    rename_i sz' xs fz
    simp only [onArr]
    split
    · simp only [T.bind, onO]
      cases bytesOf? (sub xs lo n) <;> rfl
    · rfl
  | cell id off v =>
    rw [arrT_cell, arrT_cell]
    simp only [T.bind]
    congr
    funext o
    cases o <;> first | rfl | skip
    rename_i cs
    simp only [onCells]
    cases cs[off]? with
    | none => rfl
    | some c =>
      cases c <;> first | rfl | skip
      rename_i v' sz' xs fz
      simp only [onOwn]
      split
      · split
        · simp only [T.bind, onO]
          cases bytesOf? (sub xs lo n) <;> rfl
        · rfl
      · rfl
theorem conv_lit {xs : List D} (hs : (P.underlying s).isSome = true) (hd : tyStr P d = true) (hb : tyBy P s = true) : convertT P s d (.lit xs) = onO (bytesOf? xs) fun b => .ret (.d (.str b)) := by
  simp only [convertT, hs, hd, hb, if_true, peek1, T.bind, onO]
  cases bytesOf? xs <;> rfl
theorem conv_byD {b : List UInt8} (hs : (P.underlying s).isSome = true) (hd : tyStr P d = true) (hb : tyBy P s = true) : convertT P s d (.d (.sl (byD b))) = .ret (.d (.str b)) := by
  simp only [convertT, hs, hd, hb, if_true, peek1, T.bind, byD_of]
theorem bytesOf_nil : bytesOf? [] = some [] := rfl
end
attribute [simp] indepM conv_ar conv_lit conv_byD bytesOf_nil byD_of
theorem prep_d {x : D} : prep (.d x) = .ret (.d x) := by cases x <;> rfl
theorem prep_ptr {a b : Nat} : prep (.ptr a b) = .ret (.ptr a b) := rfl
theorem prep_mp {a : Nat} : prep (.mp a) = .ret (.mp a) := rfl
theorem prep_fn {f : Nat} : prep (.fn f []) = .ret (.fn f []) := rfl
theorem prep_lit {x : D} {xs : List D} : prep (.lit (x :: xs)) = .ret (.d (.sl (x :: xs))) := rfl
theorem prep_nil : prep (.lit []) = .ret (.lit []) := rfl
theorem prep_ar {l : Loc} {a b c : Nat} : prep (.ar l a b c) = (toD (.ar l a b c)).bind fun x => .ret (.d x) := rfl
theorem prep_agg {cs : List LV} : prep (.agg cs) = (toD (.agg cs)).bind fun x => .ret (.d x) := rfl
theorem ref_d {x : D} : refs (.d x) = [] := rfl
theorem ref_lit {x : List D} : refs (.lit x) = [] := rfl
theorem ref_own {a b : Nat} {x : List D} {fz : Bool} : refs (.own a b x fz) = [] := rfl
theorem ref_ptr {a b : Nat} : refs (.ptr a b) = [a] := rfl
theorem objRef_cells {cs : List LV} : objRefs (.cells cs) = cs.flatMap refs := rfl
theorem argT_d {R : List Nat} {x : D} : argTame R (.d x) = true := rfl
theorem argT_ptr {R : List Nat} {a b : Nat} : argTame R (.ptr a b) = R.elem a := rfl
theorem argT_nil {R : List Nat} : argTame R (.lit []) = true := rfl
theorem argT_fn {R : List Nat} {f : Nat} : argTame R (.fn f []) = true := rfl
theorem celT_d {R : List Nat} {x : D} : cellTame R (.d x) = true := rfl
theorem celT_lit {R : List Nat} {x : List D} : cellTame R (.lit x) = true := rfl
theorem celT_own {R : List Nat} {a b : Nat} {x : List D} {fz : Bool} : cellTame R (.own a b x fz) = true := rfl
theorem celT_ptr {R : List Nat} {a b : Nat} : cellTame R (.ptr a b) = R.elem a := rfl
theorem objT_cells {R : List Nat} {cs : List LV} : objTame R (.cells cs) = cs.all (cellTame R) := rfl
theorem stamp_d {c : Nat} {x : D} : stamp c (.d x) = .d x := rfl
theorem stamp_lit {c : Nat} {x : List D} : stamp c (.lit x) = .lit x := rfl
theorem stamp_ptr {c a b : Nat} : stamp c (.ptr a b) = .ptr a b := rfl
theorem stamp_own {c a b : Nat} {x : List D} {fz : Bool} : stamp c (.own a b x fz) = .own c b x fz := rfl
theorem stampO_cells {c : Nat} {cs : List LV} : stampO c (.cells cs) = .cells (cs.map (stamp c)) := rfl
theorem small1_obj {id : Nat} {o : Obj} {i : Nat} : (small [(id, o)]).obj i = if i = id then o else .dead := by
  show (([(id, o)].find? fun p => p.1 == i).map (·.2)).getD .dead = _
  by_cases h : i = id
  · subst h; simp
  · have : ¬ id = i := fun e => h e.symm
    simp [h, this]
theorem small1_next {id : Nat} {o : Obj} : (small [(id, o)]).next = id + 1 := by simp [small, nextOf]
theorem small_esc {l : List (Nat × Obj)} : (small l).esc = false := rfl
theorem small0 : small [] = .empty := by
  show (⟨_, _, _, _⟩ : St) = ⟨_, _, _, _⟩
  simp [nextOf, clkOf]
attribute [simp] ext_tup prep_d prep_ptr prep_mp prep_fn prep_lit prep_nil argT_nil prep_ar prep_agg ref_d ref_lit ref_own ref_ptr objRef_cells argT_d argT_ptr argT_fn celT_d celT_lit celT_own celT_ptr objT_cells stamp_d stamp_lit stamp_ptr stamp_own stampO_cells small1_obj small1_next small_esc small0
end Go.VM
end

/- The machine of values: what a law is given, read as data. No condition. -/
section
namespace Go.VM
open Go.RowKit
variable {P : Program} {t e : TypeId} {α β : Type}

/-- no slice, no string takes more -/
abbrev lim : Nat := 140737488351232
abbrev Old (w : World) : Nat → Prop := fun b => b < w.heap.size
/-- whatever can be read as of this type is the data of something of that sort -/
structure Opens (P : Program) (t : TypeId) (enc : α → List D) (ok : α → Prop) : Prop where
  go : ∀ {H : Type} (en : TypeId × Value → H) (w : World) (base : Nat) (spare : Nat → Bool) (held : Bool) (fuel : Nat) (cs : List Value) (x : DataW H × List MemPlace),
    DataW.trod en P w base spare held fuel t cs = some x → (∀ n ∈ x.1.weights P t, n ≤ lim) → ∃ a, ok a ∧ (enc a).length = cs.length ∧ (∀ d ∈ enc a, d.one = true) ∧
      ∀ (i : Nat) (d : D) (c : Value), (enc a)[i]? = some d → cs[i]? = some c → Rep w (Old w) d c
theorem Opens.map {enc : α → List D} {ok : α → Prop} (h : Opens P t enc ok) {enc' : β → List D} {ok' : β → Prop} (g : α → β) (hg : ∀ a, ok a → enc' (g a) = enc a ∧ ok' (g a)) : Opens P t enc' ok' where
  go en w base spare held fuel cs x hx hz := by
    obtain ⟨a, h1, h2, h3, h4⟩ := h.go en w base spare held fuel cs x hx hz
    obtain ⟨e1, e2⟩ := hg a h1
    exact ⟨g a, e2, by rw [e1]; exact h2, by rw [e1]; exact h3, by rw [e1]; exact h4⟩
theorem one_rep {w : World} {d0 : D} {c0 : Value} (h : Rep w (Old w) d0 c0) : ∀ (i : Nat) (d : D) (c : Value), [d0][i]? = some d → [c0][i]? = some c → Rep w (Old w) d c := by
  intro i d c h1 h2
  cases i with
  | zero => simp at h1 h2; subst h1 h2; exact h
  | succ i => simp at h1
theorem opens_int {k : IntKind} (ht : P.underlying t = some (.int k)) : Opens P t (fun n : Int => [.int k n]) fun n => (Lit.int k n).wf = true where
  go en w base spare held fuel cs x hx _ := by
    obtain ⟨n, rfl, rfl, hw⟩ := DataW.trod_int ht hx
    exact ⟨n, hw, rfl, by simp [D.one], one_rep (.int k n)⟩
theorem opens_bool (ht : P.underlying t = some .bool) : Opens P t (fun b : Bool => [.bool b]) fun _ => True where
  go en w base spare held fuel cs x hx _ := by
    obtain ⟨b, rfl, rfl⟩ := DataW.trod_bool ht hx
    exact ⟨b, trivial, rfl, by simp [D.one], one_rep (.bool b)⟩
theorem opens_str (ht : P.underlying t = some .string) : Opens P t (fun s : List UInt8 => [.str s]) fun s => s.length ≤ lim where
  go en w base spare held fuel cs x hx hz := by
    obtain ⟨s, rfl, rfl, hs⟩ := DataW.trod_string ht hx
    refine ⟨s.data.toList, hz _ (by simp [DataW.weights]), rfl, by simp [D.one], one_rep (.str s ?_)⟩
    unfold maxLen at hs; omega
/-- one of each, for each -/
theorem choices {p : Nat → α → Prop} : ∀ n, (∀ i, i < n → ∃ a, p i a) → ∃ l : List α, l.length = n ∧ ∀ (i : Nat) (a : α), l[i]? = some a → p i a := by
  intro n
  induction n with
  | zero => intro _; exact ⟨[], rfl, fun i a h => by simp at h⟩
  | succ n ih =>
    intro h
    obtain ⟨l, h1, h2⟩ := ih fun i hi => h i (by omega)
    obtain ⟨a, ha⟩ := h n (by omega)
    refine ⟨l ++ [a], by simp [h1], fun i b hb => ?_⟩
    by_cases hi : i < n
    · rw [List.getElem?_append_left (by omega)] at hb
      exact h2 i b hb
    · have : i = n := by have := (List.getElem?_eq_some_iff.1 hb).1; simp at this; omega
      subst this
      rw [List.getElem?_append_right (by omega)] at hb
      simp [h1] at hb
      subst hb; exact ha
theorem weights_all {H : Type} : ∀ {l : List (DataW H)} {d : DataW H}, d ∈ l → ∀ n ∈ d.weights P e, n ∈ DataW.weightsAll P e l := by
  intro l
  induction l with
  | nil => intro d h; cases h
  | cons c l ih =>
    intro d h n hn
    simp only [DataW.weightsAll, List.mem_append]
    cases h with
    | head => exact .inl hn
    | tail _ h => exact .inr (ih h n hn)
theorem opens_slice {enc : α → List D} {ok : α → Prop} {es bs : Nat} (ht : P.underlying t = some (.slice e)) (hc : P.cellsOf e = es) (hbs : P.bytesOf e = bs) (h0 : 0 < es) (h : Opens P e enc ok) (enc1 : α → D) (h1 : ∀ a, (enc1 a).cells = enc a) (hl : ∀ a, (enc a).length = es) :
    Opens P t (fun l : List α => [.sl (rowD enc1 l)]) fun l => (∀ a ∈ l, ok a) ∧ l.length * bs ≤ lim where
  go en w base spare held fuel cs x hx hz := by
    rcases DataW.trod_slice ht hx with ⟨rfl, _⟩ | ⟨a, len, cap, elems, rest, n, _, rfl, hxe, hb, hlc, hm, hlen, hel, _⟩
    · exact ⟨[], ⟨by simp, by simp⟩, rfl, by simp [D.one], one_rep (.empty none 0 (by decide))⟩
    · rw [hc] at hel
      have hz1 : ∀ i (hi : i < elems.length), ∀ n ∈ (elems[i]).1.weights P e, n ≤ lim := by
        intro i hi n hn
        refine hz n ?_
        rw [hxe]
        simp only [DataW.weights, ht, List.mem_cons, List.mem_append]
        exact .inr (.inl (weights_all (List.mem_map.2 ⟨elems[i], List.getElem_mem hi, rfl⟩) n hn))
      have hz2 : len * bs ≤ lim := by
        have := hz ((elems.length + rest.length) * P.bytesOf e) (by rw [hxe]; simp [DataW.weights, ht])
        rw [hbs, hlen] at this
        exact Nat.le_trans (Nat.mul_le_mul_right bs (Nat.le_add_right len rest.length)) this
      have each : ∀ i, i < len → ∃ b, ok b ∧ ∀ (j : Nat) (d : D), (enc b)[j]? = some d → d.one = true ∧ ∃ v, w.cell? (a.add (i * es + j)) = some v ∧ Rep w (Old w) d v := by
        intro i hi
        have hi' : i < elems.length := by omega
        have hel := hel i hi
        rw [List.getElem?_eq_getElem hi'] at hel
        obtain ⟨cs, hcs, htr⟩ := Option.bind_eq_some_iff.1 hel
        obtain ⟨_, k2, k3⟩ := World.cells?_some hcs
        obtain ⟨b, b1, b2, b3, b4⟩ := h.go en w base spare held n cs _ htr (hz1 i hi')
        refine ⟨b, b1, fun j d hj => ⟨b3 d (List.mem_of_getElem? hj), ?_⟩⟩
        have hjl : j < es := by have := (List.getElem?_eq_some_iff.1 hj).1; rw [hl] at this; exact this
        have hjc : j < cs.length := by omega
        refine ⟨cs[j], ?_, b4 j d cs[j] hj (List.getElem?_eq_getElem hjc)⟩
        have := k3 j hjl
        rw [List.getElem?_eq_getElem hjc] at this
        rw [← this]
        by_cases q1 : i * es = 0 <;> by_cases q2 : j = 0 <;> simp [Addr.add, q1, q2, Nat.add_assoc]
      obtain ⟨l, l1, l2⟩ := choices len each
      refine ⟨l, ⟨fun b hb => ?_, by rw [l1]; exact hz2⟩, rfl, by simp [D.one], one_rep ?_⟩
      · obtain ⟨i, hi⟩ := List.getElem?_of_mem hb
        exact (l2 i b hi).1
      · by_cases hz : len = 0
        · have hnil : l = [] := by cases l with
            | nil => rfl
            | cons b l => simp at l1; omega
          subst hnil hz
          exact .empty _ _ hm
        · have hget : ∀ (i : Nat) (x : D), (rowD enc1 l)[i]? = some x → ∃ b, l[i]? = some b ∧ x = enc1 b := by
            intro i x hx
            rw [rowD, List.getElem?_map] at hx
            cases hli : l[i]? with
            | none => rw [hli] at hx; cases hx
            | some b => rw [hli] at hx; cases hx; exact ⟨b, rfl, rfl⟩
          have hspot : a.spot = none ∧ a.block < w.heap.size := by
            have hl0 : 0 < l.length := by omega
            have hb0 := l2 0 l[0] (List.getElem?_eq_getElem hl0)
            have he : 0 < (enc l[0]).length := by rw [hl]; exact h0
            obtain ⟨_, v, hv, _⟩ := hb0.2 0 _ (List.getElem?_eq_getElem he)
            have hsp := World.cell?_spot hv
            have hsp' : a.spot = none := by simpa [Addr.add] using hsp
            refine ⟨hsp', ?_⟩
            have : a.add (0 * es + 0) = a := by obtain ⟨b, o, s⟩ := a; simp [Addr.add]
            rw [this] at hv
            obtain ⟨b, o, s⟩ := a
            simp only at hsp'
            subst hsp'
            obtain ⟨c, ee, f, hh, _⟩ := cell_of_some hv
            exact lt_size hh
          obtain ⟨b, off, s⟩ := a
          obtain ⟨hs, hlt⟩ := hspot
          simp only at hs hlt
          subst hs
          have hadd : ∀ k, (⟨b, off, none⟩ : Addr).add k = ⟨b, off + k, none⟩ := fun k => Addr.add_mid b off k
          have hlen' : (rowD enc1 l).length = len := by simp [l1]
          have hrep : Rep w (Old w) (.sl (rowD enc1 l)) (.slice (some ⟨b, off, none⟩) (rowD enc1 l).length cap) := by
            refine Rep.sl (rowD enc1 l) b off cap es hlt (by omega) hm (fun x hx => ?_) (fun x hx d hd => ?_) (fun i j => (w.cell? ⟨b, off + i * es + j, none⟩).getD undef) (fun i j x d e1 e2 => ?_) (fun i j x d e1 e2 => ?_)
            · obtain ⟨c, _, rfl⟩ := List.mem_map.1 hx
              rw [h1, hl]
            · obtain ⟨i, hi⟩ := List.getElem?_of_mem hx
              obtain ⟨b', hb', rfl⟩ := hget i x hi
              rw [h1] at hd
              obtain ⟨j, hj⟩ := List.getElem?_of_mem hd
              exact ((l2 i b' hb').2 j d hj).1
            · obtain ⟨b', hb', rfl⟩ := hget i x e1
              rw [h1] at e2
              obtain ⟨_, v, hv, _⟩ := (l2 i b' hb').2 j d e2
              rw [hadd, ← Nat.add_assoc] at hv
              rw [hv]; rfl
            · obtain ⟨b', hb', rfl⟩ := hget i x e1
              rw [h1] at e2
              obtain ⟨_, v, hv, hr⟩ := (l2 i b' hb').2 j d e2
              rw [hadd, ← Nat.add_assoc] at hv
              rw [hv]; exact hr
          rw [hlen'] at hrep
          exact hrep
/-! structs, field by field -/
structure OpensF (P : Program) (off : Nat) (fs : List Field) (enc : α → List D) (ok : α → Prop) : Prop where
  go : ∀ {H : Type} (en : TypeId × Value → H) (w : World) (base : Nat) (spare : Nat → Bool) (held : Bool) (fuel : Nat) (cs : List Value) (xs : List (DataW H × List MemPlace)), xs.length = fs.length →
    (∀ (i : Nat) (f : Field), fs[i]? = some f → DataW.trod en P w base spare held fuel f.type ((cs.drop f.offset).take (P.cellsOf f.type)) = xs[i]?) →
    (∀ n ∈ DataW.weightsEach P (fs.map (·.type)) (xs.map (·.1)), n ≤ lim) → ∃ a, ok a ∧ (∀ d ∈ enc a, d.one = true) ∧ off + (enc a).length ≤ max off cs.length ∧ ∀ (i : Nat) (d : D) (c : Value), (enc a)[i]? = some d → (cs.drop off)[i]? = some c → Rep w (Old w) d c
theorem opensF_nil {off : Nat} : OpensF P off [] (fun _ : Unit => []) fun _ => True where
  go en w base spare held fuel cs xs hx h _ := ⟨(), trivial, by simp, by simp; omega, fun i d c h1 => by simp at h1⟩
theorem opensF_cons {off n : Nat} {f : Field} {fs : List Field} {enc1 : α → List D} {ok1 : α → Prop} {enc2 : β → List D} {ok2 : β → Prop} (ho : f.offset = off) (hn : P.cellsOf f.type = n) (h0 : 0 < n) (hl : ∀ a, (enc1 a).length = n)
    (h1 : Opens P f.type enc1 ok1) (h2 : OpensF P (off + n) fs enc2 ok2) : OpensF P off (f :: fs) (fun p : α × β => enc1 p.1 ++ enc2 p.2) fun p => ok1 p.1 ∧ ok2 p.2 where
  go en w base spare held fuel cs xs hx h hz := by
    cases xs with
    | nil => simp at hx
    | cons x xs =>
      have q := h 0 f rfl
      rw [ho, hn] at q
      obtain ⟨a, a1, a2, a3, a4⟩ := h1.go en w base spare held fuel _ x (by simpa using q) (fun m hm => hz m (by simp only [List.map_cons, DataW.weightsEach, List.mem_append]; exact .inl hm))
      obtain ⟨b, b1, b2, b3, b4⟩ := h2.go en w base spare held fuel cs xs (by simpa using hx) (fun i g hg => by simpa using h (i + 1) g (by simpa using hg)) (fun m hm => hz m (by simp only [List.map_cons, DataW.weightsEach, List.mem_append]; exact .inr hm))
      have hlen : n ≤ cs.length - off := by
        rw [hl] at a2
        simp at a2; omega
      refine ⟨(a, b), ⟨a1, b1⟩, fun d hd => ?_, ?_, fun i d c e1 e2 => ?_⟩
      · rcases List.mem_append.1 hd with hd | hd
        · exact a3 d hd
        · exact b2 d hd
      · simp only [List.length_append, hl]; omega
      · by_cases hi : i < n
        · rw [List.getElem?_append_left (by rw [hl]; exact hi)] at e1
          refine a4 i d c e1 ?_
          rw [List.getElem?_take, if_pos hi]; exact e2
        · rw [List.getElem?_append_right (by rw [hl]; omega), hl] at e1
          refine b4 (i - n) d c e1 ?_
          rw [List.getElem?_drop] at e2 ⊢
          rw [← e2]; congr 1; omega
theorem opens_struct {fs : Array Field} {enc : α → List D} {ok : α → Prop} {n : Nat} (ht : P.underlying t = some (.struct fs)) (hn : P.cellsOf t = n) (hl : ∀ a, (enc a).length = n) (h : OpensF P 0 fs.toList enc ok) : Opens P t enc ok where
  go en w base spare held fuel cs x hx hz := by
    obtain ⟨xs, m, _, hxe, h2, h3, h4⟩ := DataW.trod_struct ht hx
    obtain ⟨a, a1, a2, a3, a4⟩ := h.go en w base spare held m cs xs (by simpa using h3) (fun i f hf => h4 i f (by simpa using hf)) (fun m hm => hz m (by rw [hxe]; simp only [DataW.weights, ht]; exact hm))
    refine ⟨a, a1, by rw [hl, h2, hn], a2, fun i d c e1 e2 => a4 i d c e1 (by simpa using e2)⟩
theorem opens_struct2 {α1 α2 : Type} {f1 f2 : Field} {n1 n2 : Nat} {e1 : α1 → List D} {k1 : α1 → Prop} {e2 : α2 → List D} {k2 : α2 → Prop} (ht : P.underlying t = some (.struct #[f1, f2])) (h1 : Opens P f1.type e1 k1) (l1 : ∀ a, (e1 a).length = n1) (h2 : Opens P f2.type e2 k2) (l2 : ∀ a, (e2 a).length = n2) (z1 : 0 < n1) (z2 : 0 < n2) (hn : P.cellsOf t = n1 + n2) (o1 : f1.offset = 0) (o2 : f2.offset = 0 + n1) (c1 : P.cellsOf f1.type = n1) (c2 : P.cellsOf f2.type = n2) : Opens P t (fun p : α1 × α2 × Unit => e1 p.1 ++ (e2 p.2.1 ++ ([]))) fun p => k1 p.1 ∧ k2 p.2.1 ∧ True := by
  refine opens_struct ht hn (fun a => by simp [l1, l2, Nat.add_assoc]) ?_
  have q := (opensF_cons o1 c1 z1 l1 h1 (opensF_cons o2 c2 z2 l2 h2 opensF_nil))
  exact q
theorem opens_struct3 {α1 α2 α3 : Type} {f1 f2 f3 : Field} {n1 n2 n3 : Nat} {e1 : α1 → List D} {k1 : α1 → Prop} {e2 : α2 → List D} {k2 : α2 → Prop} {e3 : α3 → List D} {k3 : α3 → Prop} (ht : P.underlying t = some (.struct #[f1, f2, f3])) (h1 : Opens P f1.type e1 k1) (l1 : ∀ a, (e1 a).length = n1) (h2 : Opens P f2.type e2 k2) (l2 : ∀ a, (e2 a).length = n2) (h3 : Opens P f3.type e3 k3) (l3 : ∀ a, (e3 a).length = n3) (z1 : 0 < n1) (z2 : 0 < n2) (z3 : 0 < n3) (hn : P.cellsOf t = n1 + n2 + n3) (o1 : f1.offset = 0) (o2 : f2.offset = 0 + n1) (o3 : f3.offset = 0 + n1 + n2) (c1 : P.cellsOf f1.type = n1) (c2 : P.cellsOf f2.type = n2) (c3 : P.cellsOf f3.type = n3) : Opens P t (fun p : α1 × α2 × α3 × Unit => e1 p.1 ++ (e2 p.2.1 ++ (e3 p.2.2.1 ++ ([])))) fun p => k1 p.1 ∧ k2 p.2.1 ∧ k3 p.2.2.1 ∧ True := by
  refine opens_struct ht hn (fun a => by simp [l1, l2, l3, Nat.add_assoc]) ?_
  have q := (opensF_cons o1 c1 z1 l1 h1 (opensF_cons o2 c2 z2 l2 h2 (opensF_cons o3 c3 z3 l3 h3 opensF_nil)))
  exact q
theorem opens_struct4 {α1 α2 α3 α4 : Type} {f1 f2 f3 f4 : Field} {n1 n2 n3 n4 : Nat} {e1 : α1 → List D} {k1 : α1 → Prop} {e2 : α2 → List D} {k2 : α2 → Prop} {e3 : α3 → List D} {k3 : α3 → Prop} {e4 : α4 → List D} {k4 : α4 → Prop} (ht : P.underlying t = some (.struct #[f1, f2, f3, f4])) (h1 : Opens P f1.type e1 k1) (l1 : ∀ a, (e1 a).length = n1) (h2 : Opens P f2.type e2 k2) (l2 : ∀ a, (e2 a).length = n2) (h3 : Opens P f3.type e3 k3) (l3 : ∀ a, (e3 a).length = n3) (h4 : Opens P f4.type e4 k4) (l4 : ∀ a, (e4 a).length = n4) (z1 : 0 < n1) (z2 : 0 < n2) (z3 : 0 < n3) (z4 : 0 < n4) (hn : P.cellsOf t = n1 + n2 + n3 + n4) (o1 : f1.offset = 0) (o2 : f2.offset = 0 + n1) (o3 : f3.offset = 0 + n1 + n2) (o4 : f4.offset = 0 + n1 + n2 + n3) (c1 : P.cellsOf f1.type = n1) (c2 : P.cellsOf f2.type = n2) (c3 : P.cellsOf f3.type = n3) (c4 : P.cellsOf f4.type = n4) : Opens P t (fun p : α1 × α2 × α3 × α4 × Unit => e1 p.1 ++ (e2 p.2.1 ++ (e3 p.2.2.1 ++ (e4 p.2.2.2.1 ++ ([]))))) fun p => k1 p.1 ∧ k2 p.2.1 ∧ k3 p.2.2.1 ∧ k4 p.2.2.2.1 ∧ True := by
  refine opens_struct ht hn (fun a => by simp [l1, l2, l3, l4, Nat.add_assoc]) ?_
  have q := (opensF_cons o1 c1 z1 l1 h1 (opensF_cons o2 c2 z2 l2 h2 (opensF_cons o3 c3 z3 l3 h3 (opensF_cons o4 c4 z4 l4 h4 opensF_nil))))
  exact q
theorem opens_struct6 {α1 α2 α3 α4 α5 α6 : Type} {f1 f2 f3 f4 f5 f6 : Field} {n1 n2 n3 n4 n5 n6 : Nat} {e1 : α1 → List D} {k1 : α1 → Prop} {e2 : α2 → List D} {k2 : α2 → Prop} {e3 : α3 → List D} {k3 : α3 → Prop} {e4 : α4 → List D} {k4 : α4 → Prop} {e5 : α5 → List D} {k5 : α5 → Prop} {e6 : α6 → List D} {k6 : α6 → Prop} (ht : P.underlying t = some (.struct #[f1, f2, f3, f4, f5, f6])) (h1 : Opens P f1.type e1 k1) (l1 : ∀ a, (e1 a).length = n1) (h2 : Opens P f2.type e2 k2) (l2 : ∀ a, (e2 a).length = n2) (h3 : Opens P f3.type e3 k3) (l3 : ∀ a, (e3 a).length = n3) (h4 : Opens P f4.type e4 k4) (l4 : ∀ a, (e4 a).length = n4) (h5 : Opens P f5.type e5 k5) (l5 : ∀ a, (e5 a).length = n5) (h6 : Opens P f6.type e6 k6) (l6 : ∀ a, (e6 a).length = n6) (z1 : 0 < n1) (z2 : 0 < n2) (z3 : 0 < n3) (z4 : 0 < n4) (z5 : 0 < n5) (z6 : 0 < n6) (hn : P.cellsOf t = n1 + n2 + n3 + n4 + n5 + n6) (o1 : f1.offset = 0) (o2 : f2.offset = 0 + n1) (o3 : f3.offset = 0 + n1 + n2) (o4 : f4.offset = 0 + n1 + n2 + n3) (o5 : f5.offset = 0 + n1 + n2 + n3 + n4) (o6 : f6.offset = 0 + n1 + n2 + n3 + n4 + n5) (c1 : P.cellsOf f1.type = n1) (c2 : P.cellsOf f2.type = n2) (c3 : P.cellsOf f3.type = n3) (c4 : P.cellsOf f4.type = n4) (c5 : P.cellsOf f5.type = n5) (c6 : P.cellsOf f6.type = n6) : Opens P t (fun p : α1 × α2 × α3 × α4 × α5 × α6 × Unit => e1 p.1 ++ (e2 p.2.1 ++ (e3 p.2.2.1 ++ (e4 p.2.2.2.1 ++ (e5 p.2.2.2.2.1 ++ (e6 p.2.2.2.2.2.1 ++ ([]))))))) fun p => k1 p.1 ∧ k2 p.2.1 ∧ k3 p.2.2.1 ∧ k4 p.2.2.2.1 ∧ k5 p.2.2.2.2.1 ∧ k6 p.2.2.2.2.2.1 ∧ True := by
  refine opens_struct ht hn (fun a => by simp [l1, l2, l3, l4, l5, l6, Nat.add_assoc]) ?_
  have q := (opensF_cons o1 c1 z1 l1 h1 (opensF_cons o2 c2 z2 l2 h2 (opensF_cons o3 c3 z3 l3 h3 (opensF_cons o4 c4 z4 l4 h4 (opensF_cons o5 c5 z5 l5 h5 (opensF_cons o6 c6 z6 l6 h6 opensF_nil))))))
  exact q
/-! what a function is given -/
theorem arg_one {enc : α → List D} {ok : α → Prop} (ho : Opens P t enc ok) (enc1 : α → D) (h1 : ∀ a, enc a = [enc1 a]) (hg : tyAgg P t = some false) {H : Type} {en : TypeId × Value → H} {w : World} {r : Reach} {b0 base : Nat} {spare : Nat → Bool} {held : Bool} {v : Value} {d : DataW H} {ps : List MemPlace}
    (hv : Value.okWide P w r b0 t v) (h : DataW.Trod en P w base spare held t v d ps) (hz : ∀ n ∈ d.weights P t, n ≤ lim) : ∃ a, ok a ∧ Rep w (Old w) (enc1 a) v := by
  obtain ⟨fuel, hf⟩ := h
  obtain ⟨a, a1, a2, a3, a4⟩ := ho.go en w base spare held fuel _ _ hf hz
  rw [h1] at a2 a4
  have hcell : v.cells.toList = [v] := by
    unfold tyAgg at hg
    cases hu : P.underlying t with
    | none => rw [hu] at hg; cases hg
    | some ty =>
      rw [hu] at hg
      cases v with
      | agg cs =>
        exfalso
        unfold Value.okWide at hv
        rw [hu] at hv
        cases ty <;> simp_all [isRowT, Cell.okWide, Cell.ok]
      | _ => rfl
  rw [hcell] at a4
  exact ⟨a, a1, a4 0 _ _ rfl rfl⟩
theorem arg_row {enc : α → List D} {ok : α → Prop} (ho : Opens P t enc ok) (hg : tyAgg P t = some true) {H : Type} {en : TypeId × Value → H} {w : World} {r : Reach} {b0 base : Nat} {spare : Nat → Bool} {held : Bool} {v : Value} {d : DataW H} {ps : List MemPlace}
    (hv : Value.okWide P w r b0 t v) (h : DataW.Trod en P w base spare held t v d ps) (hz : ∀ n ∈ d.weights P t, n ≤ lim) : ∃ a, ok a ∧ Rep w (Old w) (.agg (enc a)) v := by
  obtain ⟨fuel, hf⟩ := h
  obtain ⟨a, a1, a2, a3, a4⟩ := ho.go en w base spare held fuel _ _ hf hz
  have hcell : ∃ cs, v = .agg cs := by
    unfold tyAgg at hg
    cases hu : P.underlying t with
    | none => rw [hu] at hg; cases hg
    | some ty =>
      rw [hu] at hg
      unfold Value.okWide at hv
      rw [hu] at hv
      cases ty <;> first | (simp [isRowT] at hg; done) | (obtain ⟨cs, h1, _⟩ := hv; exact ⟨cs, h1⟩)
  obtain ⟨cs, rfl⟩ := hcell
  exact ⟨a, a1, .agg _ cs (by simpa [Value.cells] using a2) a3 (fun i d c e1 e2 => a4 i d c e1 (by simpa [Value.cells] using e2))⟩
theorem dargs_nil {w : World} {St : Nat → Prop} : DArgs w St [] [] := ⟨rfl, fun i d v h => by simp at h⟩
theorem dargs_cons {w : World} {St : Nat → Prop} {d : D} {v : Value} {ds : List D} {vs : List Value} (h : Rep w St d v) (k : DArgs w St ds vs) : DArgs w St (d :: ds) (v :: vs) := by
  refine ⟨by simp [k.1], fun i d' v' h1 h2 => ?_⟩
  cases i with
  | zero => simp at h1 h2; subst h1 h2; exact h
  | succ i => exact k.2 i d' v' (by simpa using h1) (by simpa using h2)
end Go.VM
end

/- The machine of values: rules to reckon with, for calls that make new memory of what is lent to them. No condition. -/
section
namespace Go.VM
variable {cfg : Cfg} {e : Env} {S : St} {K : LV → St → List Nat → List Nat → Prop} {Q : LV → St → Prop}
/-- of these data it makes a new slice of flat things -/
def CQ (cfg : Cfg) (f : FuncId) (ds : List D) (R : Nat → List D → Nat → Prop) : Prop :=
  SQ cfg f (ds.map .d) .empty fun r S' => ∃ id sz xs n, r = .ar (.arr id) sz 0 n ∧ S'.obj id = .arr sz xs false ∧ n ≤ xs.length ∧ 0 < n ∧ D.flatL xs = true ∧ R sz xs n
theorem copyV_holds {Sh : FuncId → List LV → St → Res (LV × St)} {f : FuncId} {ds : List D} {R : Nat × List D × Nat → Prop} : (copyV Sh f ds).holds R ↔ (Sh f (ds.map .d) .empty).holds fun r =>
    ∃ id sz xs n, r.1 = .ar (.arr id) sz 0 n ∧ r.2.obj id = .arr sz xs false ∧ n ≤ xs.length ∧ 0 < n ∧ D.flatL xs = true ∧ R (sz, xs, n) := by
  unfold copyV
  rw [holds_bind]
  constructor
  · refine holds_mono fun r h => ?_
    split at h
    · rename_i id sz n h1
      split at h
      · rename_i sz' xs h2
        split at h
        · rename_i hc
          obtain ⟨rfl, c1, c2, c3⟩ := hc
          exact ⟨id, _, xs, n, h1, h2, c1, c2, c3, h⟩
        · exact h.elim
      · exact h.elim
    · exact h.elim
  · refine holds_mono fun r h => ?_
    obtain ⟨id, sz, xs, n, h1, h2, h3, h4, h5, h6⟩ := h
    obtain ⟨r1, S1⟩ := r
    simp only at h1 h2
    subst h1
    simp only [h2]
    rw [if_pos ⟨trivial, h3, h4, h5⟩]
    exact h6
theorem C_cpy {f : FuncId} {args : List LV} (h : cfg.mode f = .cpy) : PC cfg f args S Q ↔ TQ (T.mapL peek args) S (hold (fun ds S' => CQ cfg f ds (hold (fun sz xs n => Q (.ar (.arr S'.next) sz 0 n) (S'.alloc (.arr sz xs false))) .mk)) .mk) := by
  unfold PC callS callT TQ CQ SQ hold
  simp only [h]
  have : ∀ n, ((((T.mapL peek args).bind fun ds => (T.ofRes (copyV (ev cfg n) f ds)).bind fun p => .new (.arr p.1 p.2.1 false) fun id => .ret (.ar (.arr id) p.1 0 p.2.2) : T LV).run S).holds fun r => Q r.1 r.2) ↔
      ((T.mapL peek args).run S).holds fun r => (ev cfg n f (r.1.map .d) .empty).holds fun q => ∃ id sz xs m, q.1 = .ar (.arr id) sz 0 m ∧ q.2.obj id = .arr sz xs false ∧ m ≤ xs.length ∧ 0 < m ∧ D.flatL xs = true ∧ Q (.ar (.arr r.2.next) sz 0 m) (r.2.alloc (.arr sz xs false)) := by
    intro n
    rw [T.run_bind, holds_bind]
    have : ∀ r : List D × St, ((((T.ofRes (copyV (ev cfg n) f r.1)).bind fun p => .new (.arr p.1 p.2.1 false) fun id => .ret (.ar (.arr id) p.1 0 p.2.2) : T LV).run r.2).holds fun r => Q r.1 r.2) ↔
        (copyV (ev cfg n) f r.1).holds fun p => Q (.ar (.arr r.2.next) p.1 0 p.2.2) (r.2.alloc (.arr p.1 p.2.1 false)) := by
      intro r
      cases copyV (ev cfg n) f r.1 <;> exact Iff.rfl
    exact ⟨holds_mono fun a h => copyV_holds.1 ((this a).1 h), holds_mono fun a h => (this a).2 (copyV_holds.2 h)⟩
  simp only [this]
  cases (T.mapL peek args).run S with
  | ok r => exact Iff.rfl
  | no => exact ⟨fun ⟨_, h⟩ => h, fun h => ⟨0, h⟩⟩
  | vac => exact ⟨fun ⟨_, h⟩ => h, fun h => ⟨0, h⟩⟩
theorem D1_cpy {f : FuncId} {args : Array Operand} {ts : Array TypeId} (h : cfg.mode f = .cpy) : D1 cfg (.call ⟨.value (.func f), args, ts⟩) e S K ↔
    TL (T.mapL peek (args.toList.map (Operand.lv e))) S (hold (fun ds S' r w => CQ cfg f ds (hold (fun sz xs n => K (.ar (.arr S'.next) sz 0 n) (S'.alloc (.arr sz xs false)) r (w ++ [S'.next])) .mk)) .mk) := by
  have hc : callee e (.call ⟨.value (.func f), args, ts⟩) = some (f, args.toList.map (Operand.lv e)) := by simp [callee, Operand.lv]
  unfold D1 stepD
  simp only [hc, callT, h]
  have : ∀ n, TL ((T.mapL peek (args.toList.map (Operand.lv e))).bind fun ds => (T.ofRes (copyV (ev cfg n) f ds)).bind fun p => .new (.arr p.1 p.2.1 false) fun id => .ret (.ar (.arr id) p.1 0 p.2.2) : T LV) S K ↔
      TL (T.mapL peek (args.toList.map (Operand.lv e))) S fun ds S' r w => (copyV (ev cfg n) f ds).holds fun p => K (.ar (.arr S'.next) p.1 0 p.2.2) (S'.alloc (.arr p.1 p.2.1 false)) r (w ++ [S'.next]) := by
    intro n
    rw [TL_bind]
    have : ∀ ds S' r w, TL ((T.ofRes (copyV (ev cfg n) f ds)).bind fun p => .new (.arr p.1 p.2.1 false) fun id => .ret (.ar (.arr id) p.1 0 p.2.2) : T LV) S' (fun a S'' r' w' => K a S'' (r ++ r') (w ++ w')) ↔
        (copyV (ev cfg n) f ds).holds fun p => K (.ar (.arr S'.next) p.1 0 p.2.2) (S'.alloc (.arr p.1 p.2.1 false)) r (w ++ [S'.next]) := by
      intro ds S' r w
      cases copyV (ev cfg n) f ds with
      | ok p =>
        show K (.ar (.arr S'.next) p.1 0 p.2.2) (S'.alloc (.arr p.1 p.2.1 false)) (r ++ []) (w ++ [S'.next]) ↔ K (.ar (.arr S'.next) p.1 0 p.2.2) (S'.alloc (.arr p.1 p.2.1 false)) r (w ++ [S'.next])
        rw [List.append_nil]
      | no => exact Iff.rfl
      | vac => exact Iff.rfl
    simp only [hold, this]
  simp only [this]
  unfold TL CQ SQ hold
  cases (T.mapL peek (args.toList.map (Operand.lv e))).run S with
  | ok r => exact ⟨fun ⟨n, h⟩ => ⟨n, copyV_holds.1 h⟩, fun ⟨n, h⟩ => ⟨n, copyV_holds.2 h⟩⟩
  | no => exact ⟨fun ⟨_, h⟩ => h, fun h => ⟨0, h⟩⟩
  | vac => exact ⟨fun ⟨_, h⟩ => h, fun h => ⟨0, h⟩⟩
end Go.VM
end

/- The machine of values: rules to reckon with, for ranges over functions. No condition. -/
section
namespace Go.VM
variable {cfg : Cfg} {e : Env} {S : St} {Q : Ex → Env → St → Prop}

/-- a range over a function -/
theorem X_range {g : Operand} {ps : Array Tmp} {as bd : Code} {t : Tag (Code.rangeFunc g ps as bd)} {f : FuncId} {caps : List LV} (hg : Operand.lv e g = .fn f caps) (hf : f ≠ YID)
    (h : SQ cfg f (.yl S.next :: caps) (S.alloc (.loop ⟨ps.toList, as, bd, e, .rdy⟩)) fun _ S' => (endY S.next e S').holds fun r => Q r.1 r.2.1 r.2.2) : PX cfg (hold (.rangeFunc g ps as bd) t) e S Q := by
  obtain ⟨n, h⟩ := h
  refine ⟨n, ?_⟩
  show (pexec cfg (callV cfg n) (ev cfg n) n (.rangeFunc g ps as bd) e S).holds _
  simp only [pexec, hg]
  rw [if_neg hf, holds_bind]
  exact h
theorem endY_rdy {id : Nat} {L : LoopO} {K : Ex × Env × St → Prop} (ho : S.obj id = .loop L) (hst : L.st = .rdy) (h : K (.normal, e, S.set id .dead)) : (endY id e S).holds K := by
  simp only [endY, ho, hst]; exact h
theorem endY_out {id : Nat} {L : LoopO} {k : Nat} {K : Ex × Env × St → Prop} (ho : S.obj id = .loop L) (hst : L.st = .out (some k)) (h : K (.exit k, e, S.set id .dead)) : (endY id e S).holds K := by
  simp only [endY, ho, hst]; exact h
theorem endY_ret {id : Nat} {L : LoopO} {K : Ex × Env × St → Prop} (ho : S.obj id = .loop L) (hst : L.st = .out none) (h : K (.ret, e, S.set id .dead)) : (endY id e S).holds K := by
  simp only [endY, ho, hst]; exact h
/-- a round -/
theorem S_yield {id : Nat} {args : List LV} {L : LoopO} {Q : LV → St → Prop} (hY : cfg.P.funcs[YID]? = none) (ho : S.obj id = .loop L) (hl : args.length = L.ps.length) (hst : L.st = .rdy)
    (h : PX cfg (hold L.as .mk) (setPs L.e L.ps args) S (hold (fun x e1 S1 => x = .normal ∧ ∃ L1, S1.obj id = .loop L1 ∧ L1.st = .rdy ∧
      PX cfg (hold L.bd .mk) e1 (S1.set id (.loop { L1 with st := .busy })) (hold (fun x2 _ S2 => ∃ L2, S2.obj id = .loop L2 ∧ Q (.d (.bool x2.on)) (S2.set id (.loop { L2 with st := x2.lst }))) .mk)) .mk)) : SQ cfg YID (.yl id :: args) S Q := by
  have key : ∃ n, (runY (pexec cfg (callV cfg n) (ev cfg n) n) id args S).holds fun r => Q r.1 r.2 := by
    simp only [runY, ho]
    simp only [hl, hst, and_self, if_true]
    refine (ex_bind (fun n m h => PX_up h L.as _ S) (fun n m a h => ?_)).2 ?_
    · split
      · split
        · exact (PX_up h _ _ _).bind fun q => .refl _
        · exact .refl _
      · exact .refl _
    · obtain ⟨n, h⟩ := h
      refine ⟨n, holds_mono (fun r hr => ?_) h⟩
      obtain ⟨x, e1, S1⟩ := r
      obtain ⟨hx, L1, h1, h2, h3⟩ := hr
      simp only at hx h1 h2 h3
      subst hx
      simp only [h1, if_pos h2]
      refine (ex_bind (fun n m h => PX_up h L.bd _ _) (fun n m a h => .refl _)).2 ?_
      obtain ⟨m, h3⟩ := h3
      refine ⟨m, holds_mono (fun q hq => ⟨0, ?_⟩) h3⟩
      obtain ⟨x2, e2, S2⟩ := q
      obtain ⟨L2, k1, k2⟩ := hq
      simp only at k1 k2
      simp only [k1]
      exact k2
  obtain ⟨n, h⟩ := key
  refine ⟨n + 1, ?_⟩
  rw [ev_succ, hY]
  simp only [if_true]
  exact h
end Go.VM
end
