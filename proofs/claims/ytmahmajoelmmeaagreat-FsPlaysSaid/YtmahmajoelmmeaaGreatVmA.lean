/- The machine of values, part 1: Go code run on plain data, and that what it answers is what the program answers. No condition. -/
import Derived.Calls
import Derived.Orders
import Derived.Deep.MidRow
import Derived.Deep.Upon
import Derived.Laws.Append
import Derived.Below
import Derived.IntWalk
import Derived.Laws.BytesString
import Derived.Lib.Strings
import Derived.Lib.ConvBytes
import Derived.Laws.AppendOwn
import Derived.Laws.Tables
import Derived.MapKept
section
namespace Go.VM
inductive D where
 | int (k : IntKind) (n : Int)
 | bool (b : Bool)
 | str (s : List UInt8)
 | nilP | nilM | nilF
 | agg (cs : List D)
 | sl (xs : List D)
 deriving Inhabited
def D.cells : D → List D
 | .agg cs => cs
 | x => [x]
inductive Loc where
 | arr (id : Nat)
 | cell (id off ver : Nat)
 deriving DecidableEq, Inhabited
inductive LV where
 | d (x : D)
 | lit (xs : List D)
 | ar (l : Loc) (sz lo len : Nat)
 | ptr (id off : Nat)
 | elp (l : Loc) (sz i off : Nat)
 | cp (cs : List D)
 | agg (cs : List LV)
 | tup (vs : List LV)
 | fn (f : FuncId) (caps : List LV)
 | mp (id : Nat)
 | own (ver sz : Nat) (xs : List D) (fz : Bool)
 | yl (id : Nat)
 | un
 deriving Inhabited
abbrev Env := Nat → LV
inductive LSt where
 | rdy | busy | out (id : Option Nat)
 deriving DecidableEq, Inhabited
structure LoopO where
 ps : List Tmp
 as : Code
 bd : Code
 e : Env
 st : LSt
inductive Obj where
 | dead
 | cells (cs : List LV)
 | arr (sz : Nat) (xs : List D) (fz : Bool)
 | mp (ks : Option IntKind) (es : List (D × D))
 | loop (L : LoopO)
 deriving Inhabited
structure St where
 obj : Nat → Obj
 next : Nat
 clk : Nat
 esc : Bool
def St.empty : St := ⟨fun _ => .dead, 0, 0, false⟩
def St.set (S : St) (id : Nat) (o : Obj) : St := ⟨fun i => if i = id then o else S.obj i, S.next, S.clk, S.esc⟩
def St.alloc (S : St) (o : Obj) : St := ⟨fun i => if i = S.next then o else S.obj i, S.next + 1, S.clk, S.esc⟩
def St.tick (S : St) : St := ⟨S.obj, S.next, S.clk + 1, S.esc⟩
def St.leak (S : St) : St := ⟨S.obj, S.next, S.clk, true⟩
def Env.set (e : Env) (i : Nat) (v : LV) : Env := fun j => if j = i then v else e j
def Env.init (args : List LV) : Env := fun i => args.getD i .un
inductive Res (α : Type) where
 | ok (a : α) | no | vac
def Res.bind {α β : Type} : Res α → (α → Res β) → Res β
 | .ok a, f => f a
 | .no, _ => .no
 | .vac, _ => .vac
def Res.holds {α : Type} : Res α → (α → Prop) → Prop
 | .ok a, Q => Q a
 | .no, _ => False
 | .vac, _ => True
inductive T (α : Type) where
 | ret (a : α) | no | vac
 | get (id : Nat) (k : Obj → T α)
 | put (id : Nat) (o : Obj) (k : T α)
 | new (o : Obj) (k : Nat → T α)
 | tick (k : Nat → T α)
 | leak (k : T α)
namespace T
variable {α β : Type}
def bind : T α → (α → T β) → T β
 | ret a, f => f a
 | no, _ => no
 | vac, _ => vac
 | get id k, f => get id fun o => (k o).bind f
 | put id o k, f => put id o (k.bind f)
 | new o k, f => new o fun i => (k i).bind f
 | tick k, f => tick fun v => (k v).bind f
 | leak k, f => leak (k.bind f)
def run : T α → St → Res (α × St)
 | ret a, S => .ok (a, S)
 | no, _ => .no
 | vac, _ => .vac
 | get id k, S => (k (S.obj id)).run S
 | put id o k, S => k.run (S.set id o)
 | new o k, S => (k S.next).run (S.alloc o)
 | tick k, S => (k S.clk).run S.tick
 | leak k, S => k.run S.leak
def log : T α → St → List Nat × List Nat
 | ret _, _ | no, _ | vac, _ => ([], [])
 | get id k, S => let r := (k (S.obj id)).log S; (id :: r.1, r.2)
 | put id o k, S => let r := k.log (S.set id o); (r.1, id :: r.2)
 | new o k, S => let r := (k S.next).log (S.alloc o); (r.1, S.next :: r.2)
 | tick k, S => (k S.clk).log S.tick
 | leak k, S => k.log S.leak
def ofRes : Res α → T α
 | .ok a => ret a
 | .no => no
 | .vac => vac
def mapL (f : α → T β) : List α → T (List β)
 | [] => ret []
 | a :: l => (f a).bind fun b => (mapL f l).bind fun bs => ret (b :: bs)
end T
inductive Mode where
 | val   -- arguments are data, what is handed in is kept from then on; the answer is data
 | bor   -- arguments are data, lent; the answer has no place in memory
 | shr   -- the store is shared
 | lnd   -- the store is shared; slices that are handed in are written no more
 | cpy   -- arguments are data, lent; the answer is a new slice of flat things
 | mak   -- arguments are data, what is handed in is kept from then on; the answer is a new slice
 | rdo   -- the store is shared, as with lnd; where the order is open it turns nothing
 deriving DecidableEq, Inhabited
section types
variable (P : Program)
def tySize (t : TypeId) : Nat := ((P.info? t).map (·.size)).getD 0
def tyBytes (t : TypeId) : Nat := ((P.info? t).map (·.bytes)).getD 0
def isRowT : TypeDesc → Bool
 | .struct _ | .array _ _ => true
 | _ => false
def tyAgg (t : TypeId) : Option Bool := (P.underlying t).map isRowT
def tyElem (t : TypeId) : Option (TypeId × Nat) := match P.underlying t with | some (.slice e) => (P.info? e).map fun i => (e, i.size) | _ => none
def tyArr (t : TypeId) : Option (Nat × TypeId × Nat) := match P.underlying t with | some (.array n e) => (P.info? e).map fun i => (n, e, i.size) | _ => none
def tyMap (t : TypeId) : Option (TypeId × TypeId) := match P.underlying t with | some (.map k e) => some (k, e) | _ => none
def tyInt (t : TypeId) : Option IntKind := match P.underlying t with | some (.int k) => some k | _ => none
def tyStr (t : TypeId) : Bool := match P.underlying t with | some .string => true | _ => false
def tyField (t : TypeId) (i : Nat) : Option (Nat × TypeId × Nat) := match P.underlying t with | some (.struct fs) => (fs[i]?).bind fun f => (P.info? f.type).map fun n => (f.offset, f.type, n.size) | _ => none
end types
def ofConst : Value → LV
 | .int k n => .d (.int k n)
 | .bool b => .d (.bool b)
 | .string s => if s.size ≤ 9223372036854775807 then .d (.str s.data.toList) else .un
 | .slice none 0 0 => .lit []
 | .pointer none => .d .nilP
 | .map none => .d .nilM
 | .nilFunc => .d .nilF
 | _ => .un
def known : LV → Bool
 | .un => false
 | _ => true
def zeroCells (P : Program) (t : TypeId) : Option (List LV) := ((P.info? t).bind (·.zero)).bind fun z =>
 if (z.cells.toList.map ofConst).all known then some (z.cells.toList.map ofConst) else none
def Operand.lv (e : Env) : Operand → LV
 | .tmp t => e t
 | .const v => ofConst v
 | .func f => .fn f []
 | .global _ => .un
def LV.cells : LV → List LV
 | .agg cs => cs
 | .d (.agg cs) => cs.map .d
 | v => [v]
def unLit : LV → LV
 | .lit xs => .d (.sl xs)
 | v => v
def dOf? : LV → Option D
 | .d x => some x
 | .lit xs => some (.sl xs)
 | _ => none
def dsOf? : List LV → Option (List D)
 | [] => some []
 | c :: cs => match dOf? c, dsOf? cs with
  | some d, some ds => some (d :: ds)
  | _, _ => none
def arrT {α : Type} (l : Loc) (k : Nat → List D → Bool → T α) : T α :=
 match l with
 | .arr id => .get id fun o => match o with | .arr sz xs fz => k sz xs fz | _ => .no
 | .cell id off v => .get id fun o => match o with
  | .cells cs => match cs[off]? with
   | some (.own v' sz xs fz) => if v = v' then k sz xs fz else .no
   | _ => .no
  | _ => .no
def setT (l : Loc) (sz : Nat) (xs : List D) (fz : Bool) : T Unit :=
 match l with
 | .arr id => .put id (.arr sz xs fz) (.ret ())
 | .cell id off v => .get id fun o => match o with
  | .cells cs => .put id (.cells (cs.set off (.own v sz xs fz))) (.ret ())
  | _ => .no
def killT (l : Loc) : T Unit :=
 match l with
 | .arr id => .put id .dead (.ret ())
 | .cell id off _ => .get id fun o => match o with
  | .cells cs => .put id (.cells (cs.set off .un)) (.ret ())
  | _ => .no
def sub (xs : List D) (lo n : Nat) : List D := (xs.drop lo).take n
def toD1 : LV → T D
 | .d x => .ret x
 | .lit xs => .ret (.sl xs)
 | .ar l _ lo n => arrT l fun sz xs fz => if lo + n ≤ xs.length then (if fz then .ret (.sl (sub xs lo n)) else (setT l sz xs true).bind fun _ => .ret (.sl (sub xs lo n))) else .no
 | _ => .no
def toD : LV → T D
 | .agg cs => (T.mapL toD1 cs).bind fun ds => .ret (.agg ds)
 | v => toD1 v
def peek1 : LV → T D
 | .d x => .ret x
 | .lit xs => .ret (.sl xs)
 | .ar l _ lo n => arrT l fun _ xs _ => if lo + n ≤ xs.length then .ret (.sl (sub xs lo n)) else .no
 | _ => .no
def peek : LV → T D
 | .agg cs => (T.mapL peek1 cs).bind fun ds => .ret (.agg ds)
 | v => peek1 v
def stow (id : Nat) : LV → T LV
 | .d (.agg _) => .no
 | .d x => .ret (.d x)
 | .lit xs => .ret (.lit xs)
 | .ar l _ lo n => arrT l fun sz xs fz => if lo + n ≤ xs.length then (if fz then .ret (.d (.sl (sub xs lo n))) else (killT l).bind fun _ => .tick fun v => .ret (.own v sz (sub xs lo n) false)) else .no
 | .ptr i off => if i ≤ id then .ret (.ptr i off) else .leak (.ret (.ptr i off))
 | .mp i => if i ≤ id then .ret (.mp i) else .leak (.ret (.mp i))
 | .fn f [] => .ret (.fn f [])
 | _ => .no
def fetch (id off : Nat) : LV → LV
 | .own v sz xs fz => if fz then .d (.sl xs) else .ar (.cell id off v) sz 0 xs.length
 | v => v
def fetchL (id : Nat) : Nat → List LV → List LV
 | _, [] => []
 | off, c :: cs => fetch id off c :: fetchL id (off + 1) cs
def putCells (x : D) (off : Nat) (ds : List D) : D :=
 match x with
 | .agg cs => .agg (cs.take off ++ ds ++ cs.drop (off + ds.length))
 | x => match ds with | [d] => d | _ => x
def loadT (P : Program) (t : TypeId) : LV → T LV
 | .ptr id off => .get id fun o => match o with
  | .cells cs => match tyAgg P t with
   | some true => if off + tySize P t ≤ cs.length then .ret (.agg (fetchL id off ((cs.drop off).take (tySize P t)))) else .no
   | some false => match cs[off]? with
    | some c => .ret (fetch id off c)
    | none => .no
   | none => .no
  | _ => .no
 | .elp l _ i off => arrT l fun _ xs _ => match xs[i]? with
  | some x => match tyAgg P t with
   | some true => if off + tySize P t ≤ x.cells.length then .ret (.d (.agg ((x.cells.drop off).take (tySize P t)))) else .no
   | some false => match x.cells[off]? with
    | some c => .ret (.d c)
    | none => .no
   | none => .no
  | none => .no
 | .cp cs => match tyAgg P t with
  | some true => if tySize P t ≤ cs.length then .ret (.d (.agg (cs.take (tySize P t)))) else .no
  | some false => match cs with
   | c :: _ => .ret (.d c)
   | [] => .no
  | none => .no
 | _ => .no
def storeCellT (id off : Nat) (v : LV) : T Unit := (stow id v).bind fun c => .get id fun o => match o with
 | .cells cs => if off < cs.length then .put id (.cells (cs.set off c)) (.ret ()) else .no
 | _ => .no
def storeCellsT (id : Nat) : Nat → List LV → T Unit
 | _, [] => .ret ()
 | off, v :: vs => (storeCellT id off v).bind fun _ => storeCellsT id (off + 1) vs
def storeT (P : Program) (t : TypeId) (v : LV) (a : LV) : T LV :=
 if (tyAgg P t).isSome ∧ v.cells.length = tySize P t then match a with
  | .ptr id off => (storeCellsT id off v.cells).bind fun _ => .ret .un
  | .elp l _ i off => (T.mapL toD1 v.cells).bind fun ds => arrT l fun sz xs fz => if fz then .no else match xs[i]? with
    | some x => if off + ds.length ≤ x.cells.length then (setT l sz (xs.set i (putCells x off ds)) false).bind fun _ => .ret .un else .no
    | none => .no
  | _ => .no
 else .no
def fieldAddrT (P : Program) (t : TypeId) (f : Nat) (x : LV) : T LV :=
 match tyField P t f with
 | some (o, _, n) => if n = 0 then .no else match x with
  | .ptr id off => .ret (.ptr id (off + o))
  | .elp l sz i off => .ret (.elp l sz i (off + o))
  | .cp cs => .ret (.cp (cs.drop o))
  | _ => .no
 | none => .no
def fieldT (P : Program) (t : TypeId) (f : Nat) (x : LV) : T LV :=
 match tyField P t f with
 | some (o, ft, n) => match x, tyAgg P ft with
  | .agg cs, some true => if o + n ≤ cs.length then .ret (.agg ((cs.drop o).take n)) else .no
  | .agg cs, some false => match cs[o]? with | some c => .ret c | none => .no
  | .d (.agg cs), some true => if o + n ≤ cs.length then .ret (.d (.agg ((cs.drop o).take n))) else .no
  | .d (.agg cs), some false => match cs[o]? with | some c => .ret (.d c) | none => .no
  | _, _ => .no
 | none => .no
def elemOf (xs : List D) (es : Nat) (i : Int) : T LV :=
 if 0 ≤ i then match xs[i.toNat]? with
  | some x => if x.cells.length = es then .ret (.cp x.cells) else .no
  | none => .no
 else .no
def indexAddrT (P : Program) (t : TypeId) (x i : LV) : T LV :=
 match i with
 | .d (.int _ i) => match tyElem P t with
  | some (_, es) => match x with
   | .d (.sl xs) => elemOf xs es i
   | .lit xs => elemOf xs es i
   | .ar l sz lo n => if sz = es ∧ 0 ≤ i ∧ i < n then .ret (.elp l sz (lo + i.toNat) 0) else .no
   | _ => .no
  | none => match tyArr P t with
   | some (n, _, es) => if 0 ≤ i ∧ i < n then match x with
     | .ptr id off => .ret (.ptr id (off + i.toNat * es))
     | .cp cs => .ret (.cp (cs.drop (i.toNat * es)))
     | .elp l sz j off => .ret (.elp l sz j (off + i.toNat * es))
     | _ => .no
    else .no
   | none => .no
 | _ => .no
def indexT (P : Program) (t : TypeId) (x i : LV) : T LV :=
 match x, i with
 | .d (.str s), .d (.int _ i) => if tyStr P t = true ∧ 0 ≤ i then match s[i.toNat]? with | some c => .ret (.d (.int .u8 c.toNat)) | none => .no else .no
 | .d (.agg cs), .d (.int _ i) => match tyArr P t with
  | some (n, e, es) => if 0 ≤ i ∧ i < n ∧ tyAgg P e = some false ∧ es = 1 then match cs[i.toNat]? with | some c => .ret (.d c) | none => .no else .no
  | none => .no
 | _, _ => .no
def intBin (op : BinOp) (k : IntKind) (a b : Int) : Res LV :=
 match op with
 | .add => .ok (.d (.int k (k.wrap (a + b))))
 | .sub => .ok (.d (.int k (k.wrap (a - b))))
 | .mul => .ok (.d (.int k (k.wrap (a * b))))
 | .quo => if b = 0 then .no else .ok (.d (.int k (k.wrap (a.tdiv b))))
 | .rem => if b = 0 then .no else .ok (.d (.int k (a.tmod b)))
 | .and => .ok (.d (.int k (k.wrap (BitVec.ofInt k.bits a &&& BitVec.ofInt k.bits b).toNat)))
 | .or => .ok (.d (.int k (k.wrap (BitVec.ofInt k.bits a ||| BitVec.ofInt k.bits b).toNat)))
 | .xor => .ok (.d (.int k (k.wrap (BitVec.ofInt k.bits a ^^^ BitVec.ofInt k.bits b).toNat)))
 | .andNot => .ok (.d (.int k (k.wrap (BitVec.ofInt k.bits a &&& ~~~(BitVec.ofInt k.bits b)).toNat)))
 | .eql => .ok (.d (.bool (decide (a = b))))
 | .neq => .ok (.d (.bool (!decide (a = b))))
 | .lss => .ok (.d (.bool (decide (a < b))))
 | .leq => .ok (.d (.bool (decide (a ≤ b))))
 | .gtr => .ok (.d (.bool (decide (b < a))))
 | .geq => .ok (.d (.bool (decide (b ≤ a))))
 | _ => .no
def strBin (op : BinOp) (a b : List UInt8) : Res LV :=
 match op with
 | .eql => .ok (.d (.bool (decide (a = b))))
 | .neq => .ok (.d (.bool (!decide (a = b))))
 | .lss => .ok (.d (.bool (Op.bytesLess a b)))
 | .leq => .ok (.d (.bool (Op.bytesLess a b || decide (a = b))))
 | .gtr => .ok (.d (.bool (!(Op.bytesLess a b || decide (a = b)))))
 | .geq => .ok (.d (.bool (!Op.bytesLess a b)))
 | .add => if a.length + b.length ≤ 9223372036854775807 then .ok (.d (.str (a ++ b))) else .no
 | _ => .no
def isNilP : LV → Option Bool
 | .d .nilP => some true
 | .ptr _ _ | .elp _ _ _ _ => some false
 | _ => none
def isNilS : LV → Option Bool
 | .d (.sl (_ :: _)) => some false
 | .lit (_ :: _) => some false
 | _ => none
def nilConst : Operand → Option Bool
 | .const (.pointer none) => some true
 | .const (.slice none 0 0) => some false
 | _ => none
def eqNil (op : BinOp) (b : Option Bool) : Res LV :=
 match op, b with
 | .eql, some b => .ok (.d (.bool b))
 | .neq, some b => .ok (.d (.bool (!b)))
 | _, _ => .no
def binS (P : Program) (op : BinOp) (t : TypeId) (x y : LV) : Res LV :=
 match x, y with
 | .d (.int k a), .d (.int k' b) => match op with
  | .shl => if b < 0 then .no else .ok (.d (.int k (k.wrap (a * 2 ^ (min b.toNat k.bits)))))
  | .shr => if b < 0 then .no else .ok (.d (.int k (a.fdiv (2 ^ (min b.toNat k.bits)))))
  | _ => if k = k' then intBin op k a b else .no
 | .d (.str a), .d (.str b) => strBin op a b
 | .d (.bool a), .d (.bool b) => match P.underlying t, op with
  | some .bool, .eql => .ok (.d (.bool (a == b)))
  | some .bool, .neq => .ok (.d (.bool (!(a == b))))
  | _, _ => .no
 | _, _ => .no
def binT (P : Program) (op : BinOp) (t : TypeId) (yn : Option Bool) (x y : LV) : Res LV :=
 match yn with
 | some true => match P.underlying t with
  | some (.pointer _) => eqNil op (isNilP x)
  | _ => .no
 | some false => match P.underlying t with
  | some (.slice _) => eqNil op (isNilS x)
  | _ => .no
 | none => binS P op t x y
def unT (op : UnOp) (x : LV) : Res LV :=
 match op, x with
 | .not, .d (.bool b) => .ok (.d (.bool (!b)))
 | .neg, .d (.int k n) => .ok (.d (.int k (k.wrap (0 - n))))
 | .xor, .d (.int k n) => .ok (.d (.int k (k.wrap (BitVec.ofInt k.bits (if k.signed then -1 else k.max) ^^^ BitVec.ofInt k.bits n).toNat)))
 | _, _ => .no
def len1 (n : Nat) : Res LV := if n ≤ 9223372036854775807 then .ok (.d (.int .i64 n)) else .vac
def lenT (P : Program) (t : TypeId) (x : LV) : T LV :=
 match P.underlying t, x with
 | some .string, .d (.str s) => T.ofRes (len1 s.length)
 | some (.slice _), .d (.sl xs) => T.ofRes (len1 xs.length)
 | some (.slice _), .lit xs => T.ofRes (len1 xs.length)
 | some (.slice _), .ar _ _ _ n => T.ofRes (len1 n)
 | some (.map _ _), .mp id => .get id fun o => match o with | .mp _ es => .ret (.d (.int .i64 es.length)) | _ => .no
 | some (.map _ _), .d .nilM => .ret (.d (.int .i64 0))
 | some (.array n _), _ => .ret (.d (.int .i64 n))
 | _, _ => .no
def bound (v : Option LV) (dflt : Nat) : Option Int := match v with | none => some dflt | some (.d (.int _ i)) => some i | _ => none
def cut {α : Type} (n : Nat) (lo hi mx : Option LV) (k : Nat → Nat → T α) : T α :=
 match bound lo 0, bound hi n, bound mx n with
 | some l, some h, some m => if 0 ≤ l ∧ l ≤ h ∧ h ≤ m ∧ m ≤ n then k l.toNat h.toNat else .no
 | _, _, _ => .no
def sized (es : Nat) (xs : List D) : Prop := ∀ x ∈ xs, x.cells.length = es
instance (es : Nat) (xs : List D) : Decidable (sized es xs) := inferInstanceAs (Decidable (∀ x ∈ xs, x.cells.length = es))
def sliceT (P : Program) (t : TypeId) (x : LV) (lo hi mx : Option LV) : T LV :=
 match x with
 | .d (.str s) => if mx.isSome then .no else if tyStr P t then cut s.length lo hi none fun l h => .ret (.d (.str ((s.drop l).take (h - l)))) else .no
 | .d (.sl xs) => match tyElem P t with
  | some (_, es) => if sized es xs then cut xs.length lo hi mx fun l h => .ret (.d (.sl (sub xs l (h - l)))) else .no
  | none => .no
 | .lit xs => match tyElem P t with
  | some (_, es) => if sized es xs then cut xs.length lo hi mx fun l h => .ret (.d (.sl (sub xs l (h - l)))) else .no
  | none => .no
 | .ar l sz o n => match tyElem P t with
  | some (_, es) => if sz = es then cut n lo hi mx fun a b => .ret (.ar l sz (o + a) (b - a)) else .no
  | none => .no
 | _ => .no
def srcT (es : Nat) (x : LV) (k : List D → T LV) : T LV :=
 match x with
 | .d (.sl ys) => if sized es ys then k ys else .no
 | .lit ys => if sized es ys then k ys else .no
 | .ar l _ lo n => arrT l fun _ xs _ => if lo + n ≤ xs.length ∧ sized es (sub xs lo n) then k (sub xs lo n) else .no
 | .d (.str s) => if es = 1 then k (s.map fun c => .int .u8 c.toNat) else .no
 | _ => .no
def fits (n bytes : Nat) : Prop := n ≤ 70368744177664 ∧ n * bytes ≤ 70368744177664
instance (n b : Nat) : Decidable (fits n b) := inferInstanceAs (Decidable (_ ∧ _))
def growT (es bytes : Nat) (x : LV) (ys : List D) : T LV :=
 match x with
 | .lit xs => if sized es xs then
   (if xs = [] ∨ ys ≠ [] then (if fits (xs.length + ys.length) bytes then .new (.arr es (xs ++ ys) false) fun id => .ret (.ar (.arr id) es 0 (xs.length + ys.length)) else .no) else .ret (.lit xs)) else .no
 | .ar l sz lo n => if sz = es then arrT l fun _ xs fz => if fz then .no else if lo + n ≤ xs.length ∧ fits (n + ys.length) bytes then
   (killT l).bind fun _ => .new (.arr es (sub xs lo n ++ ys) false) fun id => .ret (.ar (.arr id) es 0 (n + ys.length)) else .no else .no
 | _ => .no
def zeroD (P : Program) (t : TypeId) : Option D := match zeroCells P t, tyAgg P t with
 | some z, some true => (dsOf? z).map .agg
 | some [c], some false => dOf? c
 | _, _ => none
def appendT (P : Program) (ts : Array TypeId) (x y : LV) : T LV :=
 match (ts[0]?).bind (tyElem P) with
 | some (e, es) => match zeroD P e with
  | some z => if z.cells.length = es then (match (ts[1]?).bind (tyInt P) with
   | some _ => match y with
    | .d (.int _ n) => if 0 ≤ n ∧ n ≤ 70368744177664 ∧ n * tyBytes P e ≤ 70368744177664 then growT es (tyBytes P e) x (List.replicate n.toNat z) else .no
    | _ => .no
   | none => if ((ts[1]?).bind P.underlying).isSome then srcT es y fun ys => growT es (tyBytes P e) x ys else .no) else .no
  | none => .no
 | none => .no
def copyT (P : Program) (ts : Array TypeId) (x y : LV) : T LV :=
 match (ts[0]?).bind (tyElem P) with
 | some (_, es) => srcT es y fun ys => match x with
  | .ar l sz lo n => if sz = es then arrT l fun _ xs fz => if fz then .no else if lo + n ≤ xs.length then
    (setT l sz (xs.take lo ++ ys.take n ++ xs.drop (lo + min ys.length n)) false).bind fun _ => .ret (.d (.int .i64 (min ys.length n : Nat))) else .no else .no
  | _ => .no
 | none => .no
def LV.okb : LV → Bool
 | .un | .tup _ => false
 | _ => true
def fillT (fs : List (Nat × Nat)) : List LV → List (Nat × LV) → Option (List LV)
 | cs, [] => some cs
 | cs, p :: ps => match fs[p.1]? with
  | some (o, n) => if p.2.okb = true ∧ p.2.cells.length = n ∧ o + n ≤ cs.length then fillT fs (cs.take o ++ p.2.cells ++ cs.drop (o + n)) ps else none
  | none => none
def allSome {α : Type} : List (Option α) → Option (List α)
 | [] => some []
 | a :: l => match a, allSome l with
  | some a, some l => some (a :: l)
  | _, _ => none
def tyFields (P : Program) (t : TypeId) : Option (List (Nat × Nat)) := match P.underlying t with
 | some (.struct fs) => allSome (fs.toList.map fun f => (P.info? f.type).map fun i => (f.offset, i.size))
 | _ => none
def buildT (P : Program) (t : TypeId) (parts : List (Nat × LV)) : T LV :=
 match zeroCells P t, tyFields P t with
 | some z, some fs => match fillT fs z parts with
  | some cs => .ret (.agg cs)
  | none => .no
 | _, _ => .no
def buildSliceT (P : Program) (t : TypeId) (n : Nat) (parts : List (Nat × LV)) : T LV :=
 match tyElem P t with
 | some (e, es) => if parts.map (·.1) = List.range n ∧ n ≤ 16777216 ∧ n * es ≤ 16777216 ∧ (zeroCells P e).isSome then
   (T.mapL (fun p : Nat × LV => toD p.2) parts).bind fun xs => if sized es xs then .ret (.lit xs) else .no else .no
 | none => .no
def makeSliceT (P : Program) (t : TypeId) (n c : LV) : T LV :=
 match tyElem P t, n, c with
 | some (e, es), .d (.int _ n), .d (.int _ c) => match zeroD P e with
  | some z => if 0 ≤ n ∧ n ≤ c ∧ c * tyBytes P e ≤ 70368744177664 ∧ c ≤ 70368744177664 ∧ z.cells.length = es then
     .new (.arr es (List.replicate n.toNat z) false) fun id => .ret (.ar (.arr id) es 0 n.toNat) else .no
  | none => .no
 | _, _, _ => .no
def allocT (P : Program) (t : TypeId) : T LV :=
 match zeroCells P t with
 | some z => .new (.cells z) fun id => .ret (.ptr id 0)
 | none => .no
def boxT (v : LV) : T LV := .new (.cells (List.replicate v.cells.length .un)) fun id => (storeCellsT id 0 v.cells).bind fun _ => .ret (.ptr id 0)
def D.isKey (ks : Option IntKind) : D → Bool
 | .int k _ => decide (ks = some k)
 | .str _ => decide (ks = none)
 | _ => false
def D.same : D → D → Bool
 | .int k a, .int k' b => decide (k = k') && decide (a = b)
 | .str a, .str b => decide (a = b)
 | _, _ => false
def tyKey (P : Program) (t : TypeId) : Option (Option IntKind) := match P.underlying t with
 | some (.int k) => some (some k)
 | some .string => some none
 | _ => none
def look (es : List (D × D)) (k : D) : Option D := (es.find? fun p => k.same p.1).map (·.2)
def upd (es : List (D × D)) (k v : D) : List (D × D) :=
 match es with
 | [] => [(k, v)]
 | p :: es => if k.same p.1 then (k, v) :: es else p :: upd es k v
def era (es : List (D × D)) (k : D) : List (D × D) :=
 match es with
 | [] => []
 | p :: es => if k.same p.1 then es else p :: era es k
def zeroM (P : Program) (t : TypeId) : Option D := match (P.info? t).bind (·.zero) with
 | some (.agg cs) => (dsOf? (cs.toList.map ofConst)).map .agg
 | some v => dOf? (ofConst v)
 | none => none
def found (v : Option D) (z : D) (ok : Bool) : LV := match v with
 | some v => if ok then .tup [.d v, .d (.bool true)] else .d v
 | none => if ok then .tup [.d z, .d (.bool false)] else .d z
def lookupT (P : Program) (t : TypeId) (m i : LV) (ok : Bool) : T LV :=
 match tyMap P t, dOf? i with
 | some (tk, te), some k => match tyKey P tk, zeroM P te with
  | some ks, some z => if k.isKey ks then match m with
   | .mp id => .get id fun o => match o with | .mp ks' es => if ks = ks' then .ret (found (look es k) z ok) else .no | _ => .no
   | .d .nilM => .ret (found none z ok)
   | _ => .no else .no
  | _, _ => .no
 | _, _ => .no
def mapUpdateT (P : Program) (t : TypeId) (m i v : LV) : T LV :=
 match tyMap P t, dOf? i, m with
 | some (tk, _), some k, .mp id => match tyKey P tk with
  | some ks => if k.isKey ks then (toD v).bind fun x => .get id fun o => match o with | .mp ks' es => if ks = ks' then .put id (.mp ks (upd es k x)) (.ret .un) else .no | _ => .no else .no
  | none => .no
 | _, _, _ => .no
def deleteT (P : Program) (ts : Array TypeId) (m i : LV) : T LV :=
 match (ts[0]?).bind (tyMap P), dOf? i, m with
 | some (tk, _), some k, .mp id => match tyKey P tk with
  | some ks => if k.isKey ks then .get id fun o => match o with | .mp ks' es => if ks = ks' then .put id (.mp ks (era es k)) (.ret (.tup [])) else .no | _ => .no else .no
  | none => .no
 | _, _, _ => .no
def makeMapT (P : Program) (t : TypeId) : T LV :=
 match (tyMap P t).bind fun p => tyKey P p.1 with
 | some ks => .new (.mp ks []) fun id => .ret (.mp id)
 | none => .no
def byteOf? : D → Option UInt8
 | .int .u8 n => some (UInt8.ofNat n.toNat)
 | _ => none
def bytesOf? : List D → Option (List UInt8)
 | [] => some []
 | c :: cs => match byteOf? c, bytesOf? cs with
  | some d, some ds => some (d :: ds)
  | _, _ => none
def tyBy (P : Program) (t : TypeId) : Bool := match tyElem P t with | some (e, _) => tyInt P e = some .u8 | none => false
def convertT (P : Program) (s d : TypeId) (x : LV) : T LV :=
 if (P.underlying s).isSome then match x with
 | .d (.int _ n) => match tyInt P d with | some k => .ret (.d (.int k (k.wrap n))) | none => .no
 | .d (.str b) => if tyStr P d then .ret (.d (.str b)) else if tyBy P d ∧ b.length ≤ 70368744177664 then
   .new (.arr 1 (b.map fun c => .int .u8 c.toNat) false) fun id => .ret (.ar (.arr id) 1 0 b.length) else .no
 | x => if tyStr P d then (if tyBy P s then (peek1 x).bind fun y => match y with
    | .sl xs => match bytesOf? xs with
     | some b => .ret (.d (.str b))
     | none => .no
    | _ => .no else .no)
  else match x with
   | .lit (y :: ys) => if s = d ∧ tyBy P d then .ret (.lit (y :: ys)) else .no
   | _ => .no
 else .no
def nilCheckT : LV → T LV
 | .ptr id off => .ret (.ptr id off)
 | .elp l sz i off => .ret (.elp l sz i off)
 | .cp cs => .ret (.cp cs)
 | .fn f cs => .ret (.fn f cs)
 | _ => .no
def extractT (i : Nat) : LV → T LV
 | .tup vs => match vs[i]? with | some v => .ret v | none => .no
 | _ => .no
def minmaxT (op : Int → Int → Int) : List LV → T LV
 | [.d (.int k a), .d (.int k' b)] => if k = k' then .ret (.d (.int k (op a b))) else .no
 | _ => .no
def builtinT (P : Program) (b : Builtin) (ts : Array TypeId) (args : List LV) : T LV :=
 match b, args with
 | .len, [x] => match ts[0]? with | some t => lenT P t x | none => .no
 | .append, [x, y] => appendT P ts x y
 | .copy, [x, y] => copyT P ts x y
 | .delete, [m, k] => deleteT P ts m k
 | .max, l => minmaxT (fun a b => if b > a then b else a) l
 | .min, l => minmaxT (fun a b => if b < a then b else a) l
 | _, _ => .no
def stepT (P : Program) (e : Env) : Op → T LV
 | .move x => .ret (Operand.lv e x)
 | .assign x => .ret (Operand.lv e x)
 | .pick c a b => match Operand.lv e c with
  | .d (.bool t) => .ret (if t then Operand.lv e a else Operand.lv e b)
  | _ => .no
 | .alloc t => allocT P t
 | .box _ x => boxT (Operand.lv e x)
 | .build t ps => buildT P t (ps.toList.map fun p => (p.1, Operand.lv e p.2))
 | .buildSlice t n ps => buildSliceT P t n (ps.toList.map fun p => (p.1, Operand.lv e p.2))
 | .load t a => loadT P t (Operand.lv e a)
 | .store t a v => storeT P t (Operand.lv e v) (Operand.lv e a)
 | .nilCheck x => nilCheckT (Operand.lv e x)
 | .binOp op t x y _ => T.ofRes (binT P op t (nilConst y) (Operand.lv e x) (Operand.lv e y))
 | .unOp op _ x => T.ofRes (unT op (Operand.lv e x))
 | .convert s d x => convertT P s d (Operand.lv e x)
 | .makeFunc (.func f) first caps => if first.size = 0 then .ret (.fn f (caps.toList.map (Operand.lv e))) else .no
 | .makeMap t none => makeMapT P t
 | .makeSlice t n c => makeSliceT P t (Operand.lv e n) (Operand.lv e c)
 | .slice t x lo hi mx => if mx.isSome = true ∧ hi.isSome = false then .no else sliceT P t (Operand.lv e x) (lo.map (Operand.lv e)) (hi.map (Operand.lv e)) (mx.map (Operand.lv e))
 | .fieldAddr t x f => fieldAddrT P t f (Operand.lv e x)
 | .field t x f => fieldT P t f (Operand.lv e x)
 | .indexAddr t x i => indexAddrT P t (Operand.lv e x) (Operand.lv e i)
 | .index t x i => indexT P t (Operand.lv e x) (Operand.lv e i)
 | .lookup t m i ok => lookupT P t (Operand.lv e m) (Operand.lv e i) ok
 | .mapUpdate t m i v => mapUpdateT P t (Operand.lv e m) (Operand.lv e i) (Operand.lv e v)
 | .extract x i => extractT i (Operand.lv e x)
 | .call ⟨.builtin b, args, ts⟩ => builtinT P b ts (args.toList.map (Operand.lv e))
 | _ => .no
def callee (e : Env) : Op → Option (FuncId × List LV)
 | .call ⟨.value f, args, _⟩ => match Operand.lv e f with
  | .fn g caps => some (g, args.toList.map (Operand.lv e) ++ caps)
  | _ => none
 | _ => none
def YID : FuncId := 1000000000
def yieldee (e : Env) : Op → Option (List LV)
 | .call ⟨.value f, args, _⟩ => match Operand.lv e f with
  | .yl id => some (.yl id :: args.toList.map (Operand.lv e))
  | _ => none
 | _ => none
end Go.VM
end
section
namespace Go.VM
structure Alt where
 pre : List Code
 id : Nat
 ops : Array Oper
 k : Nat
 mac : Env → St → Option (Env × St)
 post : Code
structure Cfg where
 P : Program
 mode : FuncId → Mode
 ext : FuncId → Option (List D → Res LV)
 far : FuncId → Option (List LV → St → Res (LV × St)) := fun _ => none
 alt : FuncId → Option Alt := fun _ => none
def closeV : LV → T LV
 | .tup vs => (T.mapL toD vs).bind fun ds => .ret (.tup (ds.map .d))
 | v => (toD v).bind fun x => .ret (.d x)
mutual
def D.flat : D → Bool
 | .sl _ => false
 | .agg cs => D.flatL cs
 | _ => true
def D.flatL : List D → Bool
 | [] => true
 | c :: cs => c.flat && D.flatL cs
end
def flat1 : LV → Bool
 | .d x => x.flat
 | _ => false
def flatV : LV → Bool
 | .tup vs => vs.all flat1
 | v => flat1 v
def data1 : LV → Bool
 | .d _ => true
 | _ => false
def dataV : LV → Bool
 | .tup vs => vs.all data1
 | v => data1 v
def refs : LV → List Nat
 | .ptr id _ => [id]
 | .mp id => [id]
 | _ => []
def objRefs : Obj → List Nat
 | .cells cs => cs.flatMap refs
 | _ => []
def prep : LV → T LV
 | .ptr id off => .ret (.ptr id off)
 | .mp id => .ret (.mp id)
 | .fn f [] => .ret (.fn f [])
 | .lit [] => .ret (.lit [])
 | v => (toD v).bind fun x => .ret (.d x)
def gather : Nat → List Nat → List (Nat × Obj) → T (List (Nat × Obj))
 | _, [], done => .ret done
 | 0, _, _ => .no
 | n + 1, id :: todo, done => if (done.map (·.1)).elem id then gather n todo done else .get id fun o => gather n (objRefs o ++ todo) ((id, o) :: done)
def argTame (R : List Nat) : LV → Bool
 | .d _ => true
 | .ptr i _ => R.elem i
 | .mp i => R.elem i
 | .fn _ [] => true
 | .lit [] => true
 | _ => false
def cellTame (R : List Nat) : LV → Bool
 | .lit _ | .own _ _ _ _ | .un => true
 | v => argTame R v
def objTame (R : List Nat) : Obj → Bool
 | .cells cs => cs.all (cellTame R)
 | .mp _ _ => true
 | _ => false
def nextOf : List (Nat × Obj) → Nat
 | [] => 0
 | p :: l => max (p.1 + 1) (nextOf l)
def clkC : List LV → Nat
 | [] => 0
 | .own v _ _ _ :: l => max (v + 1) (clkC l)
 | _ :: l => clkC l
def clkOf : List (Nat × Obj) → Nat
 | [] => 0
 | (_, .cells cs) :: l => max (clkC cs) (clkOf l)
 | _ :: l => clkOf l
def small (objs : List (Nat × Obj)) : St := ⟨fun i => ((objs.find? fun p => p.1 == i).map (·.2)).getD .dead, nextOf objs, clkOf objs, false⟩
def stamp (c : Nat) : LV → LV
 | .own _ sz xs fz => .own c sz xs fz
 | v => v
def stampO (c : Nat) : Obj → Obj
 | .cells cs => .cells (cs.map (stamp c))
 | o => o
def putsT {α : Type} : List (Nat × Obj) → T α → T α
 | [], t => t
 | p :: l, t => .put p.1 p.2 (putsT l t)
def allTame (objs : List (Nat × Obj)) (S : St) : Bool := objs.all fun p => objTame (objs.map (·.1)) (S.obj p.1)
def runSh (Sh : FuncId → List LV → St → Res (LV × St)) (f : FuncId) (as : List LV) (objs : List (Nat × Obj)) : Res (LV × St) :=
 (Sh f as (small objs)).bind fun q => ((closeV q.1).run q.2).bind fun q' => if dataV q'.1 = true ∧ allTame objs q'.2 = true then .ok q' else .no
def callSh (Sh : FuncId → List LV → St → Res (LV × St)) (f : FuncId) (args : List LV) : T LV :=
 (T.mapL prep args).bind fun as => (gather 64 (as.flatMap refs) []).bind fun objs => .tick fun c =>
  if (objs.all fun p => objTame (objs.map (·.1)) p.2) = true ∧ (as.all (argTame (objs.map (·.1)))) = true then
   (T.ofRes (runSh Sh f as objs)).bind fun q => putsT (objs.map fun p => (p.1, stampO c (q.2.obj p.1))) (.ret q.1)
  else .no
open Classical in
noncomputable def callRo (Sh : FuncId → List LV → St → Res (LV × St)) (f : FuncId) (args : List LV) : T LV :=
 (T.mapL prep args).bind fun as => (gather 64 (as.flatMap refs) []).bind fun objs => .tick fun _ =>
  if (objs.all fun p => objTame (objs.map (·.1)) p.2) = true ∧ (as.all (argTame (objs.map (·.1)))) = true then
   (T.ofRes (runSh Sh f as objs)).bind fun q => if ∀ p ∈ objs, q.2.obj p.1 = p.2 then .ret q.1 else .no
  else .no
def lend : LV → T LV
 | .ar l sz lo n => (toD1 (.ar l sz lo n)).bind fun x => .ret (.d x)
 | .lit xs => .ret (.d (.sl xs))
 | v => .ret v
def copyV (Sh : FuncId → List LV → St → Res (LV × St)) (f : FuncId) (ds : List D) : Res (Nat × List D × Nat) :=
 (Sh f (ds.map .d) .empty).bind fun q => match q.1 with
  | .ar (.arr id) sz 0 n => match q.2.obj id with
   | .arr sz' xs false => if sz' = sz ∧ n ≤ xs.length ∧ 0 < n ∧ D.flatL xs = true then .ok (sz, xs, n) else .no
   | _ => .no
  | _ => .no
def makeV (Sh : FuncId → List LV → St → Res (LV × St)) (f : FuncId) (ds : List D) : Res (Nat × List D × Nat) :=
 (Sh f (ds.map .d) .empty).bind fun q => match q.1 with
  | .ar (.arr id) sz 0 n => match q.2.obj id with
   | .arr sz' xs false => if sz' = sz ∧ n ≤ xs.length ∧ 0 < n then .ok (sz, xs, n) else .no
   | _ => .no
  | _ => .no
noncomputable def callT (cfg : Cfg) (V : FuncId → List D → Res LV) (Sh : FuncId → List LV → St → Res (LV × St)) (f : FuncId) (args : List LV) : T LV :=
 match cfg.mode f with
 | .bor => (T.mapL peek args).bind fun ds => (T.ofRes (V f ds)).bind fun r => if flatV r then .ret r else .no
 | .shr => callSh Sh f args
 | .lnd => callSh Sh f args
 | .rdo => callRo Sh f args
 | .mak => (T.mapL toD args).bind fun ds => (T.ofRes (makeV Sh f ds)).bind fun p => .new (.arr p.1 p.2.1 false) fun id => .ret (.ar (.arr id) p.1 0 p.2.2)
 | .cpy => (T.mapL peek args).bind fun ds => (T.ofRes (copyV Sh f ds)).bind fun p => .new (.arr p.1 p.2.1 false) fun id => .ret (.ar (.arr id) p.1 0 p.2.2)
 | .val => (T.mapL toD args).bind fun ds => (T.ofRes (V f ds)).bind fun r => if dataV r then .ret r else .no
noncomputable def callS (cfg : Cfg) (V : FuncId → List D → Res LV) (Sh : FuncId → List LV → St → Res (LV × St)) (f : FuncId) (args : List LV) (S : St) : Res (LV × St) :=
 match cfg.mode f with
 | .shr => Sh f args S
 | .lnd => ((T.mapL lend args).run S).bind fun q => Sh f q.1 q.2
 | .rdo => ((T.mapL lend args).run S).bind fun q => Sh f q.1 q.2
 | _ => (callT cfg V Sh f args).run S
structure SOp where
 dst : Option Tmp
 op : Op
 guard : Option (Option Tmp × Bool)
def sop (ops : List Oper) (o : Oper) : SOp := ⟨o.dst, o.op, o.guard.map fun g => ((ops[g.1]?).bind (·.dst), g.2)⟩
def setD (e : Env) : Option Tmp → LV → Env
 | some d, v => e.set d v
 | none, _ => e
def wants (e : Env) : Option (Option Tmp × Bool) → Option Bool
 | none => some true
 | some (some g, w) => match e g with
  | .d (.bool b) => some (b == w)
  | .tup [] => some false
  | _ => none
 | some (none, _) => none
noncomputable def step1 (cfg : Cfg) (V : FuncId → List D → Res LV) (Sh : FuncId → List LV → St → Res (LV × St)) (e : Env) (o : Op) (S : St) : Res (LV × St) :=
 match callee e o with
 | some (f, args) => callS cfg V Sh f args S
 | none => match yieldee e o with
  | some args => Sh YID args S
  | none => (stepT cfg.P e o).run S
noncomputable def pops (cfg : Cfg) (V : FuncId → List D → Res LV) (Sh : FuncId → List LV → St → Res (LV × St)) : List SOp → Env → St → Res (Env × St)
 | [], e, S => .ok (e, S)
 | o :: os, e, S => match wants e o.guard with
  | some true => (step1 cfg V Sh e o.op S).bind fun r => pops cfg V Sh os (setD e o.dst r.1) r.2
  | some false => pops cfg V Sh os (setD e o.dst (.tup [])) S
  | none => .no
noncomputable def stepD (cfg : Cfg) (V : FuncId → List D → Res LV) (Sh : FuncId → List LV → St → Res (LV × St)) (e : Env) (o : Op) : T LV :=
 match callee e o with
 | some (f, args) => callT cfg V Sh f args
 | none => stepT cfg.P e o
structure Log where
 at_ : Nat
 r : List Nat
 w : List Nat
noncomputable def popsD (cfg : Cfg) (V : FuncId → List D → Res LV) (Sh : FuncId → List LV → St → Res (LV × St)) (nx ck : Nat) : Nat → List SOp → Env → St → List Log → Res (Env × St × List Log)
 | _, [], e, S, L => .ok (e, S, L)
 | i, o :: os, e, S, L => match wants e o.guard with
  | some true =>
   let S0 : St := ⟨S.obj, nx + 100 * i, ck + 100 * i, S.esc⟩
   let t := stepD cfg V Sh e o.op
   (t.run S0).bind fun r => if r.2.next ≤ nx + 100 * i + 100 ∧ r.2.clk ≤ ck + 100 * i + 100 then
    popsD cfg V Sh nx ck (i + 1) os (setD e o.dst r.1) r.2 (⟨i, (t.log S0).1, (t.log S0).2⟩ :: L) else .no
  | some false => popsD cfg V Sh nx ck (i + 1) os (setD e o.dst (.tup [])) S L
  | none => .no
def meets (a b : List Nat) : Prop := ∃ x, x ∈ a ∧ x ∈ b
def Log.clash (a b : Log) : Prop := meets a.w b.w ∨ meets a.w b.r ∨ meets a.r b.w
def edges (o : Oper) : List Nat := (o.after.toList.filter (Region.binds .any)).map (·.on)
def befs : List Oper → List (List Nat) → List (List Nat)
 | [], acc => acc
 | o :: os, acc => befs os (acc ++ [(edges o).flatMap fun k => k :: acc.getD k []])
def indep (bef : List (List Nat)) : List Log → Prop
 | [] => True
 | b :: L => (∀ a ∈ L, a.at_ ∈ bef.getD b.at_ [] ∨ ¬ a.clash b) ∧ indep bef L
def notSelect : Op → Bool
 | .select _ _ => false
 | _ => true
def okPair (ops : List Oper) (bef : List (List Nat)) (i j : Nat) (oi oj : Oper) : Bool :=
 (decide (i = j) || oi.dst.isNone || oi.dst != oj.dst) &&
  (match oi.dst with
  | some d => !(oj.looksAt ops.toArray).contains d || (decide (i < j) && (bef.getD j []).contains i) || (decide (j < i) && (bef.getD i []).contains j) || decide (i = j)
  | none => true)
def okDraw (ops : List Oper) : Bool :=
 ops.zipIdx.all fun q => notSelect q.1.op && (edges q.1).all (fun k => decide (k < q.2)) && ops.zipIdx.all fun p => okPair ops (befs ops []) p.2 q.2 p.1 q.1
inductive Ex where | normal | exit (id : Nat) | ret
def Ex.lst : Ex → LSt
 | .normal => .rdy
 | .exit id => .out (some id)
 | .ret => .out none
def Ex.on : Ex → Bool
 | .normal => true
 | _ => false
def setPs (e : Env) : List Tmp → List LV → Env
 | p :: ps, v :: vs => setPs (e.set p v) ps vs
 | _, _ => e
def runY (X : Code → Env → St → Res (Ex × Env × St)) (id : Nat) (vs : List LV) (S : St) : Res (LV × St) :=
 match S.obj id with
 | .loop L => if vs.length = L.ps.length ∧ L.st = .rdy then
   (X L.as (setPs L.e L.ps vs) S).bind fun r => match r.1, r.2.2.obj id with
    | .normal, .loop L1 => if L1.st = .rdy then
      (X L.bd r.2.1 (r.2.2.set id (.loop { L1 with st := .busy }))).bind fun q => match q.2.2.obj id with
       | .loop L2 => .ok (.d (.bool q.1.on), q.2.2.set id (.loop { L2 with st := q.1.lst }))
       | _ => .no
     else .no
    | _, _ => .no
  else .no
 | _ => .no
def endY (id : Nat) (e : Env) (S : St) : Res (Ex × Env × St) := match S.obj id with
 | .loop L => match L.st with
  | .rdy => .ok (.normal, e, S.set id .dead)
  | .out none => .ok (.ret, e, S.set id .dead)
  | .out (some k) => .ok (.exit k, e, S.set id .dead)
  | .busy => .no
 | _ => .no
section
variable (cfg : Cfg) (V : FuncId → List D → Res LV) (Sh : FuncId → List LV → St → Res (LV × St))
def loopN (body : Env → St → Res (Ex × Env × St)) : Nat → Env → St → Res (Ex × Env × St)
 | 0, _, _ => .no
 | m + 1, e, S => (body e S).bind fun r => match r.1 with
  | .normal => loopN body m r.2.1 r.2.2
  | x => .ok (x, r.2)
open Classical in
noncomputable def pexec (n : Nat) : Code → Env → St → Res (Ex × Env × St)
 | .skip, e, S => .ok (.normal, e, S)
 | .region _ ops false, e, S => (pops cfg V Sh (ops.toList.map (sop ops.toList)) e S).bind fun r => .ok (.normal, r.1, r.2)
 | .region _ ops true, e, S => (popsD cfg V Sh S.next S.clk 0 (ops.toList.map (sop ops.toList)) e S []).bind fun r =>
   if okDraw ops.toList = true ∧ indep (befs ops.toList []) r.2.2 then .ok (.normal, r.1, ⟨r.2.1.obj, S.next + 100 * ops.size, S.clk + 100 * ops.size, r.2.1.esc⟩) else .no
 | .seq a b, e, S => (pexec n a e S).bind fun r => match r.1 with
  | .normal => pexec n b r.2.1 r.2.2
  | x => .ok (x, r.2)
 | .cond c a b, e, S => match Operand.lv e c with
  | .d (.bool t) => if t then pexec n a e S else pexec n b e S
  | _ => .no
 | .block id c, e, S => (pexec n c e S).bind fun r => match r.1 with
  | .exit j => if j = id then .ok (.normal, r.2) else .ok (.exit j, r.2)
  | x => .ok (x, r.2)
 | .loop c, e, S => loopN (pexec n c) n e S
 | .exit id, e, S => .ok (.exit id, e, S)
 | .ret, e, S => .ok (.ret, e, S)
 | .rangeFunc g ps as bd, e, S => match Operand.lv e g with
  | .fn f caps => if f = YID then .no else (Sh f (.yl S.next :: caps) (S.alloc (.loop ⟨ps.toList, as, bd, e, .rdy⟩))).bind fun r => endY S.next e r.2
  | _ => .no
 | _, _, _ => .no
end
def result1 (P : Program) (e : Env) (S : St) : ResultVar → Res LV
 | .tmp t => .ok (e t)
 | .cell a t => ((loadT P t (e a)).run S).bind fun r => .ok r.1
def resultL (P : Program) (e : Env) (S : St) : List ResultVar → Res (List LV)
 | [] => .ok []
 | r :: rs => (result1 P e S r).bind fun v => (resultL P e S rs).bind fun vs => .ok (v :: vs)
def tupV : List LV → LV
 | [v] => v
 | vs => .tup vs
def resultV (P : Program) (e : Env) (S : St) (rs : List ResultVar) : Res LV := (resultL P e S rs).bind fun vs => .ok (tupV vs)
def okOps (n : Nat) (ops : List Oper) : Bool := ops.all fun o => match o.dst with | some d => decide (d < n) | none => true
def okCodeT (top : Bool) (n : Nat) : Code → Bool
 | .skip | .exit _ | .ret => true
 | .region _ ops _ => okOps n ops.toList
 | .seq a b => okCodeT top n a && okCodeT top n b
 | .cond _ a b => okCodeT top n a && okCodeT top n b
 | .block _ c => okCodeT top n c
 | .loop c => okCodeT top n c
 | .rangeFunc _ ps as bd => top && ps.toList.all (fun p => decide (p < n)) && okCodeT false n as && okCodeT false n bd
 | _ => false
abbrev okCode (n : Nat) (c : Code) : Bool := okCodeT true n c
def runL (X : Code → Env → St → Res (Ex × Env × St)) : List Code → Env → St → Res (Ex × Env × St)
 | [], e, S => .ok (.normal, e, S)
 | c :: l, e, S => (X c e S).bind fun r => match r.1 with
  | .normal => runL X l r.2.1 r.2.2
  | x => .ok (x, r.2)
def seen (o : Option (Env × St)) : Res (Env × St) := match o with
 | some r => .ok r
 | none => .no
def Alt.head (q : Alt) : Code := .region q.id (q.ops.extract 0 q.k) false
def altRun (X : Code → Env → St → Res (Ex × Env × St)) (q : Alt) (e : Env) (S : St) : Res (Ex × Env × St) :=
 (runL X (q.pre ++ [q.head]) e S).bind fun r => match r.1 with
  | .normal => (seen (q.mac r.2.1 r.2.2)).bind fun m => X q.post m.1 m.2
  | x => .ok (x, r.2)
def bodyRun (X : Code → Env → St → Res (Ex × Env × St)) (a : Option Alt) (c : Code) (e : Env) (S : St) : Res (Ex × Env × St) := match a with
 | some q => altRun X q e S
 | none => X c e S
noncomputable def ev (cfg : Cfg) : Nat → FuncId → List LV → St → Res (LV × St)
 | 0, _, _, _ => .no
 | n + 1, f, args, S => match cfg.P.funcs[f]? with
  | some fn => match cfg.far f with
   | some g => g args S
   | none => match fn.body with
   | some c => if okCode fn.ntmps c = true ∧ args.length ≤ fn.ntmps then
     (bodyRun (pexec cfg (fun g ds => match cfg.ext g with
       | some x => x ds
       | none => (ev cfg n g (ds.map .d) .empty).bind fun r => ((closeV r.1).run r.2).bind fun r' => .ok r'.1)
      (ev cfg n) n) (cfg.alt f) c (Env.init args) S).bind fun r => match r.1 with
     | .exit _ => .no
     | _ => (resultV cfg.P r.2.1 r.2.2 fn.results.toList).bind fun v => .ok (v, r.2.2)
    else .no
   | none => .no
  | none => match args with
   | .yl id :: vs => if f = YID then runY (pexec cfg (fun g ds => match cfg.ext g with
       | some x => x ds
       | none => (ev cfg n g (ds.map .d) .empty).bind fun r => ((closeV r.1).run r.2).bind fun r' => .ok r'.1)
      (ev cfg n) n) id vs S else .no
   | _ => .no
noncomputable def callV (cfg : Cfg) (n : Nat) (g : FuncId) (ds : List D) : Res LV := match cfg.ext g with
 | some x => x ds
 | none => (ev cfg n g (ds.map .d) .empty).bind fun r => ((closeV r.1).run r.2).bind fun r' => .ok r'.1
theorem ev_succ (cfg : Cfg) (n : Nat) (f : FuncId) (args : List LV) (S : St) : ev cfg (n + 1) f args S = match cfg.P.funcs[f]? with
  | some fn => match cfg.far f with
   | some g => g args S
   | none => match fn.body with
   | some c => if okCode fn.ntmps c = true ∧ args.length ≤ fn.ntmps then
     (bodyRun (pexec cfg (callV cfg n) (ev cfg n) n) (cfg.alt f) c (Env.init args) S).bind fun r => match r.1 with
     | .exit _ => .no
     | _ => (resultV cfg.P r.2.1 r.2.2 fn.results.toList).bind fun v => .ok (v, r.2.2)
    else .no
   | none => .no
  | none => match args with
   | .yl id :: vs => if f = YID then runY (pexec cfg (callV cfg n) (ev cfg n) n) id vs S else .no
   | _ => .no := rfl
end Go.VM
end
section
namespace Go.VM
open Go.RowKit
def seg (c : Array Value) : Nat → List Value → Array Value
 | _, [] => c
 | o, v :: vs => seg (c.setIfInBounds o v) (o + 1) vs
theorem seg_size (vs : List Value) : ∀ (c : Array Value) (o : Nat), (seg c o vs).size = c.size := by
 induction vs with
 | nil => intro c o; rfl
 | cons v vs ih => intro c o; simp [seg, ih]
theorem seg_get (vs : List Value) : ∀ (c : Array Value) (o k : Nat), (seg c o vs)[k]? = if o ≤ k ∧ k < o + vs.length ∧ k < c.size then vs[k - o]? else c[k]? := by
 induction vs with
 | nil => intro c o k; simp only [seg, List.length_nil]; rw [if_neg (by omega)]
 | cons v vs ih =>
  intro c o k;simp only [seg, ih, Array.size_setIfInBounds, List.length_cons];by_cases h : o + 1 ≤ k ∧ k < o + 1 + vs.length ∧ k < c.size
  ·rw [if_pos h, if_pos (by omega), show k - o = (k - (o + 1)) + 1 from by omega, List.getElem?_cons_succ]
  ·rw [if_neg h];by_cases hk : k = o
   ·subst hk;by_cases hs : k < c.size
    ·rw [if_pos (by omega)]; simp [hs]
    ·rw [if_neg (by omega)]; simp [hs]
   ·rw [if_neg (by omega), Array.getElem?_setIfInBounds, if_neg (fun e => hk e.symm)]
theorem heap_setCell_at {w : World} {b o : Nat} {v : Value} {c : Array Value} {e : TypeId} {f : Nat × Nat} (h : w.heap[b]? = some (.cells c e f)) :
  (w.setCell ⟨b, o, none⟩ v).heap[b]? = some (.cells (c.setIfInBounds o v) e f) := by
 obtain ⟨hb, hx⟩ := Array.getElem?_eq_some_iff.1 h;simp [World.setCell, Array.getElem?_modify, h]
theorem heap_setCells_at (vs : List Value) : ∀ {w : World} {b o : Nat} {c : Array Value} {e : TypeId} {f : Nat × Nat}, w.heap[b]? = some (.cells c e f) →
  (w.setCells b o vs).heap[b]? = some (.cells (seg c o vs) e f) := by
 induction vs with
 | nil => intro w b o c e f h; exact h
 | cons v vs ih => intro w b o c e f h; exact ih (heap_setCell_at h)
theorem heap_setCell_ne {w : World} {a : Addr} {v : Value} {k : Nat} (h : k ≠ a.block) : (w.setCell a v).heap[k]? = w.heap[k]? := Below.heap_setCell w a v k h
theorem heap_setCells_ne (vs : List Value) : ∀ {w : World} {b o k : Nat}, k ≠ b → (w.setCells b o vs).heap[k]? = w.heap[k]? := by
 induction vs with
 | nil => intro w b o k _; rfl
 | cons v vs ih => intro w b o k h; exact (ih h).trans (heap_setCell_ne h)
theorem size_setCell (w : World) (a : Addr) (v : Value) : (w.setCell a v).heap.size = w.heap.size := by simp [World.setCell]
theorem size_setCells (vs : List Value) : ∀ (w : World) (b o : Nat), (w.setCells b o vs).heap.size = w.heap.size := by
 induction vs with
 | nil => intro w b o; rfl
 | cons v vs ih => intro w b o; exact (ih _ b (o + 1)).trans (size_setCell _ _ _)
theorem streams_setCells (vs : List Value) : ∀ (w : World) (b o : Nat), (w.setCells b o vs).os = w.os ∧ (w.setCells b o vs).tape = w.tape ∧ (w.setCells b o vs).output = w.output := by
 induction vs with
 | nil => intro w b o; exact ⟨rfl, rfl, rfl⟩
 | cons v vs ih => intro w b o; exact ih _ b (o + 1)
theorem cell_of {w : World} {b k : Nat} {c : Array Value} {e : TypeId} {f : Nat × Nat} (h : w.heap[b]? = some (.cells c e f)) : w.cell? ⟨b, k, none⟩ = c[k]? := by
 simp [World.cell?, h]
theorem frozen_of {w : World} {b k : Nat} {c : Array Value} {e : TypeId} {f : Nat × Nat} (h : w.heap[b]? = some (.cells c e f)) : w.frozen? ⟨b, k, none⟩ = decide (f.1 ≤ k ∧ k < f.2) := by
 simp [World.frozen?, h]
theorem cell_of_some {w : World} {b k : Nat} {v : Value} (h : w.cell? ⟨b, k, none⟩ = some v) : ∃ c e f, w.heap[b]? = some (.cells c e f) ∧ c[k]? = some v := by
 simp only [World.cell?] at h;split at h
 ·rename_i c e f hh;exact ⟨c, e, f, hh, by simpa using h⟩
 ·cases h
def freeB (c : Array Value) (f : Nat × Nat) : Prop := ∀ k, k < c.size → ¬ (f.1 ≤ k ∧ k < f.2)
def D.one : D → Bool
 | .agg _ => false
 | _ => true
theorem D.cells_one {x : D} (h : x.one = true) : x.cells = [x] := by cases x <;> first | rfl | (simp [D.one] at h)
inductive Rep (w : World) (St : Nat → Prop) : D → Value → Prop
 | int (k : IntKind) (n : Int) : Rep w St (.int k n) (.int k n)
 | bool (b : Bool) : Rep w St (.bool b) (.bool b)
 | str (s : ByteArray) (h : s.size ≤ 9223372036854775807) : Rep w St (.str s.data.toList) (.string s)
 | nilP : Rep w St .nilP (.pointer none)
 | nilM : Rep w St .nilM (.map none)
 | nilF : Rep w St .nilF .nilFunc
 | agg (ds : List D) (cs : Array Value) (hl : ds.length = cs.size) (ho : ∀ d ∈ ds, d.one = true)
   (h : ∀ (i : Nat) (d : D) (c : Value), ds[i]? = some d → cs[i]? = some c → Rep w St d c) : Rep w St (.agg ds) (.agg cs)
 | empty (a : Option Addr) (cap : Nat) (hc : cap ≤ 9223372036854775807) : Rep w St (.sl []) (.slice a 0 cap)
 | sl (xs : List D) (b off cap sz : Nat) (hs : St b) (hc : xs.length ≤ cap) (hm : cap ≤ 9223372036854775807) (hz : ∀ x ∈ xs, x.cells.length = sz)
   (ho : ∀ x ∈ xs, ∀ d ∈ x.cells, d.one = true)
   (f : Nat → Nat → Value) (h1 : ∀ (i j : Nat) (x d : D), xs[i]? = some x → x.cells[j]? = some d → w.cell? ⟨b, off + i * sz + j, none⟩ = some (f i j))
   (h2 : ∀ (i j : Nat) (x d : D), xs[i]? = some x → x.cells[j]? = some d → Rep w St d (f i j)) : Rep w St (.sl xs) (.slice (some ⟨b, off, none⟩) xs.length cap)
theorem Rep.mono {w w' : World} {St St' : Nat → Prop} (hs : ∀ b, St b → St' b) (hc : ∀ b k v, St b → w.cell? ⟨b, k, none⟩ = some v → w'.cell? ⟨b, k, none⟩ = some v)
  {x : D} {v : Value} (h : Rep w St x v) : Rep w' St' x v := by
 induction h with
 | int k n => exact .int k n
 | bool b => exact .bool b
 | str s h => exact .str s h
 | nilP => exact .nilP
 | nilM => exact .nilM
 | nilF => exact .nilF
 | agg ds cs hl ho _ ih => exact .agg ds cs hl ho ih
 | empty a cap h => exact .empty a cap h
 | sl xs b off cap sz hsb hcap hm hz ho f h1 _ ih => exact .sl xs b off cap sz (hs b hsb) hcap hm hz ho f (fun i j x d hx hd => hc b _ _ hsb (h1 i j x d hx hd)) ih
theorem Rep.one {w : World} {St : Nat → Prop} {x : D} {v : Value} (h : Rep w St x v) (hx : x.one = true) : v.oneCell' = true := by
 cases h <;> first | rfl | (simp [D.one] at hx)
structure Gh where
 addr : Loc → Nat × Nat
 cap : Loc → Nat
 esz : Loc → Nat
 dom : Loc → Prop
 own : Nat → Option Loc
 St : Nat → Prop
 Lt : Nat → Prop
structure Gh.Wf (w : World) (G : Gh) : Prop where
 own : ∀ b l, G.own b = some l → b < w.heap.size ∧ ¬ G.St b
 st : ∀ b, G.St b → b < w.heap.size
 lt : ∀ b, G.Lt b → G.St b
 max : ∀ l, G.cap l ≤ 9223372036854775807
inductive LVRel (w : World) (G : Gh) : LV → Value → Prop
 | d (x : D) (v : Value) (h : Rep w G.St x v) : LVRel w G (.d x) v
 | lit (xs : List D) (a : Option Addr) (h : Rep w G.St (.sl xs) (.slice a xs.length xs.length)) (hl : ∀ p, a = some p → p.spot = none ∧ G.Lt p.block) (hn : a = none → xs = []) :
   LVRel w G (.lit xs) (.slice a xs.length xs.length)
 | ar (l : Loc) (sz lo len cap : Nat) (a : Option Addr) (hd : G.dom l) (hs : G.esz l = sz) (hb : lo + cap ≤ G.cap l) (hc : len ≤ cap)
   (ha : 0 < cap → a = some ⟨(G.addr l).1, (G.addr l).2 + lo * sz, none⟩) : LVRel w G (.ar l sz lo len) (.slice a len cap)
 | ptr (id off : Nat) (hd : G.dom (.arr id)) : LVRel w G (.ptr id off) (.pointer (some ⟨(G.addr (.arr id)).1, off, none⟩))
 | elp (l : Loc) (sz i off : Nat) (hd : G.dom l) (hs : G.esz l = sz) (hi : i < G.cap l) : LVRel w G (.elp l sz i off) (.pointer (some ⟨(G.addr l).1, (G.addr l).2 + i * sz + off, none⟩))
 | cp (cs : List D) (b off : Nat) (hs : G.St b) (ho : ∀ d ∈ cs, d.one = true) (f : Nat → Value) (h1 : ∀ (j : Nat) (d : D), cs[j]? = some d → w.cell? ⟨b, off + j, none⟩ = some (f j))
   (h2 : ∀ (j : Nat) (d : D), cs[j]? = some d → Rep w G.St d (f j)) : LVRel w G (.cp cs) (.pointer (some ⟨b, off, none⟩))
 | agg (cs : List LV) (vs : Array Value) (hl : cs.length = vs.size) (h : ∀ (i : Nat) (c : LV) (v : Value), cs[i]? = some c → vs[i]? = some v → LVRel w G c v)
   (ho : ∀ (i : Nat) (c : LV) (v : Value), cs[i]? = some c → vs[i]? = some v → v.oneCell' = true) : LVRel w G (.agg cs) (.agg vs)
 | tup (cs : List LV) (vs : Array Value) (hl : cs.length = vs.size) (h : ∀ (i : Nat) (c : LV) (v : Value), cs[i]? = some c → vs[i]? = some v → LVRel w G c v) : LVRel w G (.tup cs) (.tuple vs)
 | fn (f : FuncId) (cs : List LV) (vs : Array Value) (hl : cs.length = vs.size) (h : ∀ (i : Nat) (c : LV) (v : Value), cs[i]? = some c → vs[i]? = some v → LVRel w G c v) :
   LVRel w G (.fn f cs) (.func (.func f) #[] vs)
 | mp (id : Nat) (hd : G.dom (.arr id)) : LVRel w G (.mp id) (.map (some (G.addr (.arr id)).1))
 | yl (id : Nat) (hd : G.dom (.arr id)) : LVRel w G (.yl id) (.func (.yield (G.addr (.arr id)).1) #[] #[])
 | un (v : Value) : LVRel w G .un v
structure ArrRel (w : World) (G : Gh) (l : Loc) (sz : Nat) (xs : List D) (fz : Bool) : Prop where
 dom : G.dom l
 esz : G.esz l = sz
 hz : ∀ x ∈ xs, x.cells.length = sz
 ho : ∀ x ∈ xs, ∀ d ∈ x.cells, d.one = true
 len : xs.length ≤ G.cap l
 row : 0 < G.cap l → ∃ c e f, w.heap[(G.addr l).1]? = some (.cells c e f) ∧ (G.addr l).2 + G.cap l * sz ≤ c.size ∧
  (∀ (i j : Nat) (x d : D), xs[i]? = some x → x.cells[j]? = some d → ∃ v, c[(G.addr l).2 + i * sz + j]? = some v ∧ Rep w G.St d v) ∧
  (if fz then G.St (G.addr l).1 else G.own (G.addr l).1 = some l ∧ freeB c f)
def CellRel (w : World) (G : Gh) (id k : Nat) : LV → Value → Prop
 | .own v sz xs fz, x => (∃ a cap, x = .slice a xs.length cap ∧ LVRel w G (.ar (.cell id k v) sz 0 xs.length) x) ∧ ArrRel w G (.cell id k v) sz xs fz
 | lv, x => LVRel w G lv x
def stands : LSt → LoopState → Option Code → Prop
 | .rdy, s, p => s = .ready ∧ p = none
 | .busy, s, _ => s = .busy
 | .out none, s, p => s = .done ∧ p = some .ret
 | .out (some k), s, p => s = .done ∧ p = some (.exit k)
structure LoopRel (w : World) (G : Gh) (L : LoopO) (r : Loop) : Prop where
 ps : r.params.toList = L.ps
 as : r.assign = L.as
 bd : r.body = L.bd
 okA : okCodeT false r.tmps.size L.as = true
 okB : okCodeT false r.tmps.size L.bd = true
 okP : ∀ p ∈ L.ps, p < r.tmps.size
 env : ∀ i, LVRel w G (L.e i) (r.tmps.getD i undef)
 st : stands L.st r.state r.pending
def Born (en : Array MapEntry) (clock : Nat) : Prop := (en.toList.map (·.born)).Nodup ∧ ∀ x ∈ en.toList, x.born < clock
def ObjRel (w : World) (G : Gh) (id : Nat) : Obj → Prop
 | .dead => True
 | .cells cs => G.dom (.arr id) ∧ G.own (G.addr (.arr id)).1 = some (.arr id) ∧ ∃ c e f, w.heap[(G.addr (.arr id)).1]? = some (.cells c e f) ∧ c.size = cs.length ∧ freeB c f ∧ (∀ (k : Nat) (v : Value), c[k]? = some v → v.oneCell' = true) ∧
   ∀ (k : Nat) (lv : LV) (v : Value), cs[k]? = some lv → c[k]? = some v → CellRel w G id k lv v
 | .arr sz xs fz => ArrRel w G (.arr id) sz xs fz
 | .mp ks es => (∀ p ∈ es, p.1.isKey ks = true) ∧ G.dom (.arr id) ∧ G.own (G.addr (.arr id)).1 = some (.arr id) ∧ ∃ en clock, w.heap[(G.addr (.arr id)).1]? = some (.map en clock) ∧ en.size = es.length ∧
   (∀ (i : Nat) (p : D × D) (q : MapEntry), es[i]? = some p → en[i]? = some q → Rep w G.St p.1 q.key ∧ Rep w G.St p.2 q.val) ∧ Born en clock
 | .loop L => G.dom (.arr id) ∧ G.own (G.addr (.arr id)).1 = some (.arr id) ∧ ∃ r : Loop, w.heap[(G.addr (.arr id)).1]? = some (.loop r) ∧ LoopRel w G L r
structure Rel (w : World) (G : Gh) (S : St) : Prop where
 wf : G.Wf w
 obj : ∀ id, ObjRel w G id (S.obj id)
structure Ext (w : World) (G : Gh) (w' : World) (G' : Gh) : Prop where
 size : w.heap.size ≤ w'.heap.size
 os : w'.os = w.os
 tape : w'.tape = w.tape
 out : w'.output = w.output
 oth : ∀ b, b < w.heap.size → G.own b = none → ¬ G.Lt b → w'.heap[b]? = w.heap[b]?
 lt : ∀ b, G.Lt b → ∀ c e f, w.heap[b]? = some (.cells c e f) → ∃ f', w'.heap[b]? = some (.cells c e f')
 st : ∀ b, G.St b → G'.St b
 ltt : ∀ b, G.Lt b → G'.Lt b
 dom : ∀ l, G.dom l → G'.dom l ∧ G'.addr l = G.addr l ∧ G'.cap l = G.cap l ∧ G'.esz l = G.esz l
 own' : ∀ b, b < w.heap.size → G.own b = none → G'.own b = none
 st' : ∀ b, b < w.heap.size → G'.St b → G.St b ∨ G.own b ≠ none
 lt' : ∀ b, b < w.heap.size → G'.Lt b → G.Lt b
variable {w w' w1 w2 : World} {G G' G1 G2 : Gh}
theorem Ext.refl (w : World) (G : Gh) : Ext w G w G :=
 ⟨Nat.le_refl _, rfl, rfl, rfl, fun _ _ _ _ => rfl, fun _ _ _ _ f h => ⟨f, h⟩, fun _ h => h, fun _ h => h, fun _ h => ⟨h, rfl, rfl, rfl⟩, fun _ _ h => h, fun _ _ h => .inl h, fun _ _ h => h⟩
theorem lt_size {w : World} {b : Nat} {o : Go.Obj} (h : w.heap[b]? = some o) : b < w.heap.size := (Array.getElem?_eq_some_iff.1 h).1
theorem Ext.trans (h : Ext w G w1 G1) (k : Ext w1 G1 w2 G2) : Ext w G w2 G2 where
 size := Nat.le_trans h.size k.size
 os := k.os.trans h.os
 tape := k.tape.trans h.tape
 out := k.out.trans h.out
 oth b hb ho hl := (k.oth b (Nat.lt_of_lt_of_le hb h.size) (h.own' b hb ho) (fun x => hl (h.lt' b hb x))).trans (h.oth b hb ho hl)
 lt b hb c e f hh := by
  obtain ⟨f1, h1⟩ := h.lt b hb c e f hh;exact k.lt b (h.ltt b hb) c e f1 h1
 st b hb := k.st b (h.st b hb)
 ltt b hb := k.ltt b (h.ltt b hb)
 dom l hl := by
  obtain ⟨h1, h2, h3, h4⟩ := h.dom l hl;obtain ⟨k1, k2, k3, k4⟩ := k.dom l h1;exact ⟨k1, k2.trans h2, k3.trans h3, k4.trans h4⟩
 own' b hb ho := k.own' b (Nat.lt_of_lt_of_le hb h.size) (h.own' b hb ho)
 st' b hb hs := by
  rcases k.st' b (Nat.lt_of_lt_of_le hb h.size) hs with h1 | h1
  ·exact h.st' b hb h1
  ·by_cases ho : G.own b = none
   ·exact absurd (h.own' b hb ho) h1
   ·exact .inr ho
 lt' b hb hl := h.lt' b hb (k.lt' b (Nat.lt_of_lt_of_le hb h.size) hl)
theorem Ext.cells (hw : G.Wf w) (h : Ext w G w' G') (b : Nat) (hb : G.St b) (c : Array Value) (e : TypeId) (f : Nat × Nat) (hh : w.heap[b]? = some (.cells c e f)) :
  ∃ f', w'.heap[b]? = some (.cells c e f') := by
 by_cases hl : G.Lt b
 ·exact h.lt b hl c e f hh
 ·refine ⟨f, ?_⟩;have ho : G.own b = none := by
   cases ho : G.own b with
   | none => rfl
   | some l => exact absurd hb (hw.own b l ho).2
  rw [h.oth b (hw.st b hb) ho hl]; exact hh
theorem Ext.cell (hw : G.Wf w) (h : Ext w G w' G') (b k : Nat) (v : Value) (hb : G.St b) (hc : w.cell? ⟨b, k, none⟩ = some v) : w'.cell? ⟨b, k, none⟩ = some v := by
 obtain ⟨c, e, f, hh, hk⟩ := cell_of_some hc;obtain ⟨f', hh'⟩ := h.cells hw b hb c e f hh;rw [cell_of hh']; exact hk
theorem Rep.ext (hw : G.Wf w) (h : Ext w G w' G') {x : D} {v : Value} (hr : Rep w G.St x v) : Rep w' G'.St x v :=
 hr.mono h.st (fun b k v hb hc => h.cell hw b k v hb hc)
theorem LVRel.ext (hw : G.Wf w) (h : Ext w G w' G') {x : LV} {v : Value} (hr : LVRel w G x v) : LVRel w' G' x v := by
 induction hr with
 | d x v hx => exact .d x v (hx.ext hw h)
 | lit xs a hx hl hn => exact .lit xs a (hx.ext hw h) (fun p hp => ⟨(hl p hp).1, h.ltt _ (hl p hp).2⟩) hn
 | ar l sz lo len cap a hd hs hb hc ha =>
  obtain ⟨k1, k2, k3, k4⟩ := h.dom l hd;exact .ar l sz lo len cap a k1 (k4.trans hs) (by rw [k3]; exact hb) hc (by rw [k2]; exact ha)
 | ptr id off hd =>
  obtain ⟨k1, k2, k3, k4⟩ := h.dom _ hd;rw [← k2]; exact .ptr id off k1
 | elp l sz i off hd hs hi =>
  obtain ⟨k1, k2, k3, k4⟩ := h.dom _ hd;rw [← k2]; exact .elp l sz i off k1 (k4.trans hs) (by rw [k3]; exact hi)
 | cp cs b off hs ho f h1 h2 => exact .cp cs b off (h.st b hs) ho f (fun j d hj => h.cell hw b _ _ hs (h1 j d hj)) (fun j d hj => (h2 j d hj).ext hw h)
 | agg cs vs hl _ ho ih => exact .agg cs vs hl ih ho
 | tup cs vs hl _ ih => exact .tup cs vs hl ih
 | fn f cs vs hl _ ih => exact .fn f cs vs hl ih
 | mp id hd =>
  obtain ⟨k1, k2, k3, k4⟩ := h.dom _ hd;rw [← k2]; exact .mp id k1
 | yl id hd =>
  obtain ⟨k1, k2, k3, k4⟩ := h.dom _ hd;rw [← k2]; exact .yl id k1
 | un v => exact .un v
def Keep (w : World) (G : Gh) (w' : World) (G' : Gh) (X : Loc → Prop) : Prop :=
 ∀ b l, G.own b = some l → ¬ X l → w'.heap[b]? = w.heap[b]? ∧ G'.own b = some l
theorem ArrRel.keep (hw : G.Wf w) (h : Ext w G w' G') {X : Loc → Prop} (hk : Keep w G w' G' X) {l : Loc} {sz : Nat} {xs : List D} {fz : Bool} (hl : ¬ X l)
  (hr : ArrRel w G l sz xs fz) : ArrRel w' G' l sz xs fz := by
 obtain ⟨k1, k2, k3, k4⟩ := h.dom l hr.dom;refine ⟨k1, k4.trans hr.esz, hr.hz, hr.ho, by rw [k3]; exact hr.len, ?_⟩
 rw [k2, k3];intro hc;obtain ⟨c, e, f, hh, hs, hx, ho⟩ := hr.row hc
 cases fz with
 | true =>
  obtain ⟨f', hh'⟩ := h.cells hw _ (by simpa using ho) c e f hh
  exact ⟨c, e, f', hh', hs, fun i j x d h1 h2 => let ⟨v, h3, h4⟩ := hx i j x d h1 h2; ⟨v, h3, h4.ext hw h⟩, by simpa using h.st _ (by simpa using ho)⟩
 | false =>
  simp only [Bool.false_eq_true, if_false] at ho;obtain ⟨h1, h2⟩ := hk _ l ho.1 hl;exact ⟨c, e, f, h1.trans hh, hs, fun i j x d h1 h2 => let ⟨v, h3, h4⟩ := hx i j x d h1 h2; ⟨v, h3, h4.ext hw h⟩, by simpa using ⟨h2, ho.2⟩⟩
theorem CellRel.keep (hw : G.Wf w) (h : Ext w G w' G') {X : Loc → Prop} (hk : Keep w G w' G' X) {id k : Nat} {lv : LV} {v : Value} (hl : ∀ ver, ¬ X (.cell id k ver))
  (hr : CellRel w G id k lv v) : CellRel w' G' id k lv v := by
 cases lv with
 | own ver sz xs fz =>
  obtain ⟨⟨a, cap, h1, h2⟩, h3⟩ := hr;exact ⟨⟨a, cap, h1, h2.ext hw h⟩, h3.keep hw h hk (hl ver)⟩
 | _ => exact LVRel.ext hw h hr
def Loc.id : Loc → Nat
 | .arr id => id
 | .cell id _ _ => id
theorem ObjRel.keep (hw : G.Wf w) (h : Ext w G w' G') {X : Loc → Prop} (hk : Keep w G w' G' X) {id : Nat} {o : Obj} (hl : ∀ l, l.id = id → ¬ X l)
  (hr : ObjRel w G id o) : ObjRel w' G' id o := by
 cases o with
 | dead => trivial
 | cells cs =>
  obtain ⟨hd, ho, c, e, f, hh, hs, hf, h1c, hc⟩ := hr;obtain ⟨k1, k2, k3, k4⟩ := h.dom _ hd;obtain ⟨h1, h2⟩ := hk _ _ ho (hl (.arr id) rfl);simp only [ObjRel];rw [k2];exact ⟨k1, h2, c, e, f, h1.trans hh, hs, hf, h1c, fun k lv v a b => (hc k lv v a b).keep hw h hk (fun ver => hl (.cell id k ver) rfl)⟩
 | arr sz xs fz => exact ArrRel.keep hw h hk (hl (.arr id) rfl) hr
 | mp ks es =>
  obtain ⟨hks, hd, ho, en, cl, hh, hs, hc, hbn⟩ := hr;obtain ⟨k1, k2, k3, k4⟩ := h.dom _ hd;obtain ⟨h1, h2⟩ := hk _ _ ho (hl (.arr id) rfl);simp only [ObjRel];rw [k2];exact ⟨hks, k1, h2, en, cl, h1.trans hh, hs, fun i p q a b => ⟨(hc i p q a b).1.ext hw h, (hc i p q a b).2.ext hw h⟩, hbn⟩
 | loop L =>
  obtain ⟨hd, ho, r, hh, hr⟩ := hr;obtain ⟨k1, k2, k3, k4⟩ := h.dom _ hd;obtain ⟨h1, h2⟩ := hk _ _ ho (hl (.arr id) rfl);simp only [ObjRel];rw [k2];exact ⟨k1, h2, r, h1.trans hh, hr.ps, hr.as, hr.bd, hr.okA, hr.okB, hr.okP, fun i => (hr.env i).ext hw h, hr.st⟩
end Go.VM
end
section
namespace Go.VM
open Go.RowKit
variable {w w' w1 w2 : World} {G G' G1 G2 : Gh} {S S' S1 S2 : St}
theorem T.run_bind {α β : Type} (t : T α) (f : α → T β) : ∀ S, (t.bind f).run S = (t.run S).bind fun r => (f r.1).run r.2 := by
 induction t with
 | ret a => intro S; rfl
 | no => intro S; rfl
 | vac => intro S; rfl
 | get id k ih => intro S; exact ih _ S
 | put id o k ih => intro S; exact ih _
 | new o k ih => intro S; exact ih _ _
 | tick k ih => intro S; exact ih _ _
 | leak k ih => intro S; exact ih _
theorem Res.bind_ok {α β : Type} {r : Res α} {f : α → Res β} {b : β} (h : r.bind f = .ok b) : ∃ a, r = .ok a ∧ f a = .ok b := by
 cases r with
 | ok a => exact ⟨a, rfl, h⟩
 | no => cases h
 | vac => cases h
theorem T.bind_ok {α β : Type} {t : T α} {f : α → T β} {S : St} {r : β × St} (h : (t.bind f).run S = .ok r) : ∃ a S1, t.run S = .ok (a, S1) ∧ (f a).run S1 = .ok r := by
 rw [T.run_bind] at h;obtain ⟨⟨a, S1⟩, h1, h2⟩ := Res.bind_ok h;exact ⟨a, S1, h1, h2⟩
theorem T.grow {α : Type} (t : T α) : ∀ {S : St} {r : α × St}, t.run S = .ok r → S.next ≤ r.2.next ∧ S.clk ≤ r.2.clk := by
 induction t with
 | ret a => intro S r h; cases h; exact ⟨Nat.le_refl _, Nat.le_refl _⟩
 | no => intro S r h; cases h
 | vac => intro S r h; cases h
 | get id k ih => intro S r h; exact ih _ h
 | put id o k ih => intro S r h; exact ih (S := S.set id o) h
 | new o k ih => intro S r h; have := ih _ h; simp only [St.alloc] at this; omega
 | tick k ih => intro S r h; have := ih _ h; simp only [St.tick] at this; omega
 | leak k ih => intro S r h; exact ih (S := S.leak) h
def New (S S' : St) : Loc → Prop
 | .arr id => S.next ≤ id ∧ id < S'.next
 | .cell _ _ v => S.clk ≤ v ∧ v < S'.clk
def Free (G : Gh) (S S' : St) : Prop := ∀ l, New S S' l → ¬ G.dom l
def DomLe (G G' : Gh) (S S' : St) : Prop := ∀ l, G'.dom l → G.dom l ∨ New S S' l
theorem DomLe.refl (G : Gh) (S S' : St) : DomLe G G S S' := fun _ h => .inl h
theorem Free.left (h : Free G S S2) (h2 : S1.next ≤ S2.next ∧ S1.clk ≤ S2.clk) : Free G S S1 := by
 intro l hl;refine h l ?_
 cases l <;> simp only [New] at hl ⊢ <;> omega
theorem Free.right (h : Free G S S2) (hd : DomLe G G1 S S1) (h1 : S.next ≤ S1.next ∧ S.clk ≤ S1.clk) : Free G1 S1 S2 := by
 intro l hl hdm;rcases hd l hdm with h3 | h3
 ·refine h l ?_ h3
  cases l <;> simp only [New] at hl ⊢ <;> omega
 ·cases l <;> simp only [New] at hl h3 <;> omega
theorem DomLe.trans (h : DomLe G G1 S S1) (k : DomLe G1 G2 S1 S2) (h1 : S.next ≤ S1.next ∧ S.clk ≤ S1.clk) (h2 : S1.next ≤ S2.next ∧ S1.clk ≤ S2.clk) : DomLe G G2 S S2 := by
 intro l hl;rcases k l hl with h3 | h3
 ·rcases h l h3 with h4 | h4
  ·exact .inl h4
  ·right; cases l <;> simp only [New] at h4 ⊢ <;> omega
 ·right; cases l <;> simp only [New] at h3 ⊢ <;> omega
def Sim (P : Program) {α β : Type} (w : World) (G : Gh) (S : St) (m : Sem α) (t : T β) (R : World → Gh → β → α → Prop) : Prop :=
 ∀ b S', t.run S = .ok (b, S') → Free G S S' → ∃ a w' G', m.run P w = .ok a w' ∧ R w' G' b a ∧ Rel w' G' S' ∧ Ext w G w' G' ∧ DomLe G G' S S'
theorem Sim.bind {P : Program} {α β γ δ : Type} {m : Sem α} {t : T β} {R : World → Gh → β → α → Prop} {f : α → Sem γ} {g : β → T δ} {R' : World → Gh → δ → γ → Prop}
  (h : Sim P w G S m t R) (k : ∀ w1 G1 S1 a b, Rel w1 G1 S1 → Ext w G w1 G1 → R w1 G1 b a → Sim P w1 G1 S1 (f a) (g b) R') : Sim P w G S (m >>= f) (t.bind g) R' := by
 intro d S2 hr hf;obtain ⟨b, S1, h1, h2⟩ := T.bind_ok hr;have g1 := T.grow t h1;have g2 := T.grow _ h2;obtain ⟨a, w1, G1, hm, hR, hrel, hext, hdom⟩ := h b S1 h1 (hf.left g2);obtain ⟨c, w2, G2, hm2, hR2, hrel2, hext2, hdom2⟩ := k w1 G1 S1 a b hrel hext hR d S2 h2 (hf.right hdom g1);exact ⟨c, w2, G2, by rw [Sem.run_bind, hm]; exact hm2, hR2, hrel2, hext.trans hext2, hdom.trans hdom2 g1 g2⟩
theorem Sim.ret {P : Program} {α β : Type} {a : α} {b : β} {R : World → Gh → β → α → Prop} (hr : Rel w G S) (h : R w G b a) : Sim P w G S (pure a) (.ret b) R := by
 intro d S2 h2 _
 cases h2
 exact ⟨a, w, G, rfl, h, hr, Ext.refl w G, DomLe.refl _ _ _⟩
theorem Sim.no {P : Program} {α β : Type} {m : Sem α} {R : World → Gh → β → α → Prop} : Sim P w G S m (.no : T β) R := by intro d S2 h2 _; cases h2
theorem Sim.get {P : Program} {α β : Type} {m : Sem α} {id : Nat} {k : Obj → T β} {R : World → Gh → β → α → Prop} (h : Sim P w G S m (k (S.obj id)) R) : Sim P w G S m (.get id k) R :=
 fun d S2 h2 hf => h d S2 h2 hf
theorem Sim.mono {P : Program} {α β : Type} {m : Sem α} {t : T β} {R R' : World → Gh → β → α → Prop} (h : Sim P w G S m t R) (hm : ∀ w' G' b a, Ext w G w' G' → R w' G' b a → R' w' G' b a) : Sim P w G S m t R' := by
 intro d S2 h2 hf;obtain ⟨a, w', G', h3, h4, h5, h6, h7⟩ := h d S2 h2 hf;exact ⟨a, w', G', h3, hm _ _ _ _ h6 h4, h5, h6, h7⟩
def Live (S : St) (l : Loc) (sz : Nat) (xs : List D) (fz : Bool) : Prop :=
 match l with
 | .arr id => S.obj id = .arr sz xs fz
 | .cell id off v => ∃ cs, S.obj id = .cells cs ∧ cs[off]? = some (.own v sz xs fz)
def St.putArr (S : St) (l : Loc) (sz : Nat) (xs : List D) (fz : Bool) : St :=
 match l with
 | .arr id => S.set id (.arr sz xs fz)
 | .cell id off v => match S.obj id with
  | .cells cs => S.set id (.cells (cs.set off (.own v sz xs fz)))
  | _ => S
def St.killArr (S : St) (l : Loc) : St :=
 match l with
 | .arr id => S.set id .dead
 | .cell id off _ => match S.obj id with
  | .cells cs => S.set id (.cells (cs.set off .un))
  | _ => S
theorem arrT_run {α : Type} {l : Loc} {k : Nat → List D → Bool → T α} {r : α × St} (h : (arrT l k).run S = .ok r) : ∃ sz xs fz, Live S l sz xs fz ∧ (k sz xs fz).run S = .ok r := by
 cases l with
 | arr id =>
  simp only [arrT, T.run] at h
  cases ho : S.obj id with
  | arr sz xs fz => rw [ho] at h; exact ⟨sz, xs, fz, ho, h⟩
  | _ => rw [ho] at h; cases h
 | cell id off v =>
  simp only [arrT, T.run] at h
  cases ho : S.obj id with
  | cells cs =>
   rw [ho] at h;simp only at h
   cases hc : cs[off]? with
   | none => rw [hc] at h; cases h
   | some c =>
    rw [hc] at h
    cases c with
    | own v' sz xs fz =>
     simp only at h;by_cases hv : v = v'
     ·subst hv; rw [if_pos rfl] at h; exact ⟨sz, xs, fz, ⟨cs, ho, hc⟩, h⟩
     ·rw [if_neg hv] at h; cases h
    | _ => cases h
  | _ => rw [ho] at h; cases h
theorem setT_run {l : Loc} {sz : Nat} {xs xs' : List D} {fz fz' : Bool} (hl : Live S l sz xs fz) : (setT l sz xs' fz').run S = .ok ((), S.putArr l sz xs' fz') := by
 cases l with
 | arr id => rfl
 | cell id off v => obtain ⟨cs, h1, h2⟩ := hl; simp [setT, T.run, h1, St.putArr]
theorem killT_run {l : Loc} {sz : Nat} {xs : List D} {fz : Bool} (hl : Live S l sz xs fz) : (killT l).run S = .ok ((), S.killArr l) := by
 cases l with
 | arr id => rfl
 | cell id off v => obtain ⟨cs, h1, h2⟩ := hl; simp [killT, T.run, h1, St.killArr]
theorem putArr_next (S : St) (l sz xs fz) : (S.putArr l sz xs fz).next = S.next ∧ (S.putArr l sz xs fz).clk = S.clk := by
 cases l with
 | arr id => exact ⟨rfl, rfl⟩
 | cell id off v => simp only [St.putArr]; split <;> exact ⟨rfl, rfl⟩
theorem killArr_next (S : St) (l) : (S.killArr l).next = S.next ∧ (S.killArr l).clk = S.clk := by
 cases l with
 | arr id => exact ⟨rfl, rfl⟩
 | cell id off v => simp only [St.killArr]; split <;> exact ⟨rfl, rfl⟩
theorem Rel.live (hr : Rel w G S) {l : Loc} {sz : Nat} {xs : List D} {fz : Bool} (hl : Live S l sz xs fz) : ArrRel w G l sz xs fz := by
 cases l with
 | arr id => have := hr.obj id; simp only [Live] at hl; rw [hl] at this; exact this
 | cell id off v =>
  obtain ⟨cs, h1, h2⟩ := hl;have := hr.obj id;rw [h1] at this;obtain ⟨_, _, c, e, f, hh, hs, _, _, hc⟩ := this;have hlt : off < cs.length := (List.getElem?_eq_some_iff.1 h2).1;have hc2 : c[off]? = some (c[off]'(by omega)) := Array.getElem?_eq_getElem (by omega)
  exact (hc off _ _ h2 hc2).2
theorem set_obj (S : St) (id : Nat) (o : Obj) (j : Nat) : (S.set id o).obj j = if j = id then o else S.obj j := rfl
theorem Rel.putArr {l : Loc} (hr : Rel w G S) (he : Ext w G w' G') (hk : Keep w G w' G' (fun k => k = l)) (hwf : G'.Wf w') {sz : Nat} {xs xs' : List D} {fz fz' : Bool} (hl : Live S l sz xs fz)
  (hlen : xs'.length = xs.length) (hn : ArrRel w' G' l sz xs' fz') : Rel w' G' (S.putArr l sz xs' fz') := by
 refine ⟨hwf, fun id => ?_⟩
 cases l with
 | arr i =>
  simp only [St.putArr, set_obj];split
  ·rename_i h; subst h; exact hn
  ·rename_i h;exact (hr.obj id).keep hr.wf he hk (fun l hl hx => h (by subst hx; exact hl.symm))
 | cell i off v =>
  obtain ⟨cs, h1, h2⟩ := hl;simp only [St.putArr, h1, set_obj];split
  ·rename_i h;subst h;have ho := hr.obj id;rw [h1] at ho;obtain ⟨hd, hown, c, e, f, hh, hs, hf, h1c, hc⟩ := ho;obtain ⟨k1, k2, k3, k4⟩ := he.dom _ hd;obtain ⟨g1, g2⟩ := hk _ _ hown (by simp)
   simp only [ObjRel];rw [k2];refine ⟨k1, g2, c, e, f, g1.trans hh, by simpa using hs, hf, h1c, ?_⟩
   intro k lv x hlv hx;rw [List.getElem?_set] at hlv;by_cases hko : off = k
   ·subst hko;have hlt : off < cs.length := (List.getElem?_eq_some_iff.1 h2).1;rw [if_pos rfl, if_pos hlt] at hlv
    cases hlv
    have := hc off _ x h2 hx;obtain ⟨⟨a, cap, e1, e2⟩, _⟩ := this;refine ⟨⟨a, cap, by rw [hlen]; exact e1, ?_⟩, hn⟩
    rw [hlen]; exact e2.ext hr.wf he
   ·rw [if_neg hko] at hlv;exact (hc k lv x hlv hx).keep hr.wf he hk (fun ver hx => hko (by cases hx; rfl))
  ·rename_i h;exact (hr.obj id).keep hr.wf he hk (fun l hl hx => h (by subst hx; exact hl.symm))
theorem Rel.killArr {l : Loc} (hr : Rel w G S) (he : Ext w G w' G') (hk : Keep w G w' G' (fun k => k = l)) (hwf : G'.Wf w') {sz : Nat} {xs : List D} {fz : Bool} (hl : Live S l sz xs fz) : Rel w' G' (S.killArr l) := by
 refine ⟨hwf, fun id => ?_⟩
 cases l with
 | arr i =>
  simp only [St.killArr, set_obj];split
  ·trivial
  ·rename_i h;exact (hr.obj id).keep hr.wf he hk (fun l hl hx => h (by subst hx; exact hl.symm))
 | cell i off v =>
  obtain ⟨cs, h1, h2⟩ := hl;simp only [St.killArr, h1, set_obj];split
  ·rename_i h;subst h;have ho := hr.obj id;rw [h1] at ho;obtain ⟨hd, hown, c, e, f, hh, hs, hf, h1c, hc⟩ := ho;obtain ⟨k1, k2, k3, k4⟩ := he.dom _ hd;obtain ⟨g1, g2⟩ := hk _ _ hown (by simp)
   simp only [ObjRel];rw [k2];refine ⟨k1, g2, c, e, f, g1.trans hh, by simpa using hs, hf, h1c, ?_⟩
   intro k lv x hlv hx;rw [List.getElem?_set] at hlv;by_cases hko : off = k
   ·subst hko;have hlt : off < cs.length := (List.getElem?_eq_some_iff.1 h2).1;rw [if_pos rfl, if_pos hlt] at hlv
    cases hlv
    exact .un x
   ·rw [if_neg hko] at hlv;exact (hc k lv x hlv hx).keep hr.wf he hk (fun ver hx => hko (by cases hx; rfl))
  ·rename_i h;exact (hr.obj id).keep hr.wf he hk (fun l hl hx => h (by subst hx; exact hl.symm))
theorem Keep.refl (w : World) (G : Gh) (X : Loc → Prop) : Keep w G w G X := fun _ _ h _ => ⟨rfl, h⟩
def gfix (G : Gh) (b : Nat) : Gh := { G with own := fun k => if k = b then none else G.own k, St := fun k => k = b ∨ G.St k }
theorem ext_fix {l : Loc} (hwf : G.Wf w) {b : Nat} (ho : G.own b = some l) : Ext w G w (gfix G b) ∧ Keep w G w (gfix G b) (fun k => k = l) ∧ (gfix G b).Wf w := by
 refine ⟨⟨Nat.le_refl _, rfl, rfl, rfl, fun _ _ _ _ => rfl, fun _ _ _ _ f h => ⟨f, h⟩, fun _ h => .inr h, fun _ h => h, fun _ h => ⟨h, rfl, rfl, rfl⟩, ?_, ?_, fun _ _ h => h⟩, ?_, ?_⟩
 ·intro k _ hk; simp only [gfix]; split <;> first | rfl | exact hk
 ·intro k _ hk;rcases hk with rfl | hk
  ·exact .inr (by simp [ho])
  ·exact .inl hk
 ·intro k m hm hne;refine ⟨rfl, ?_⟩;simp only [gfix];split
  ·rename_i h; subst h; rw [ho] at hm; cases hm; exact absurd rfl hne
  ·exact hm
 ·refine ⟨?_, ?_, fun k hk => .inr (hwf.lt k hk), hwf.max⟩
  ·intro k m hm;simp only [gfix] at hm ⊢;split at hm
   ·cases hm
   ·rename_i h;obtain ⟨h1, h2⟩ := hwf.own k m hm;exact ⟨h1, fun hx => hx.elim h h2⟩
  ·intro k hk;rcases hk with rfl | hk
   ·exact (hwf.own _ l ho).1
   ·exact hwf.st k hk
theorem freeze_rel {l : Loc} {sz : Nat} {xs : List D} (hr : Rel w G S) (hl : Live S l sz xs false) :
  ∃ G', Rel w G' (S.putArr l sz xs true) ∧ Ext w G w G' ∧ (∀ k, G'.dom k ↔ G.dom k) ∧ ArrRel w G' l sz xs true := by
 have ha := hr.live hl;by_cases hc : 0 < G.cap l
 ·obtain ⟨c, e, f, hh, hs, hx, ho⟩ := ha.row hc;simp only [Bool.false_eq_true, if_false] at ho;obtain ⟨h1, h2, h3⟩ := ext_fix hr.wf ho.1;have hn : ArrRel w (gfix G (G.addr l).1) l sz xs true := by
   refine ⟨ha.dom, ha.esz, ha.hz, ha.ho, ha.len, fun _ => ⟨c, e, f, hh, hs, ?_, by simp [gfix]⟩⟩
   intro i j x d a b;obtain ⟨v, h4, h5⟩ := hx i j x d a b;exact ⟨v, h4, h5.ext hr.wf h1⟩
  exact ⟨_, hr.putArr h1 h2 h3 hl rfl hn, h1, fun _ => Iff.rfl, hn⟩
 ·have hn : ArrRel w G l sz xs true := ⟨ha.dom, ha.esz, ha.hz, ha.ho, ha.len, fun h => absurd h hc⟩;exact ⟨G, hr.putArr (Ext.refl w G) (Keep.refl w G _) hr.wf hl rfl hn, Ext.refl w G, fun _ => Iff.rfl, hn⟩
theorem ArrRel.data {l : Loc} {sz lo n cap : Nat} {a : Option Addr} {xs : List D} {fz : Bool} (hst : 0 < G.cap l → G.St (G.addr l).1) (ha : ArrRel w G l sz xs fz) (hm : G.cap l ≤ 9223372036854775807)
  (hb : lo + cap ≤ G.cap l) (hc : n ≤ cap) (hn : lo + n ≤ xs.length) (haddr : 0 < cap → a = some ⟨(G.addr l).1, (G.addr l).2 + lo * sz, none⟩) :
  Rep w G.St (.sl (sub xs lo n)) (.slice a n cap) := by
 have hlen : (sub xs lo n).length = n := by simp [sub]; omega
 cases n with
 | zero =>
  have : sub xs lo 0 = [] := by simp [sub]
  rw [this]; exact .empty a cap (by omega)
 | succ n =>
  have hcp : 0 < cap := by omega
  obtain ⟨c, e, f, hh, hs, hx, _⟩ := ha.row (by omega)
  rw [haddr hcp];have hget : ∀ i, (sub xs lo (n + 1))[i]? = if i < n + 1 then xs[lo + i]? else none := by
   intro i;simp only [sub, List.getElem?_take];split <;> simp [List.getElem?_drop]
  have := Rep.sl (w := w) (St := G.St) (sub xs lo (n + 1)) (G.addr l).1 ((G.addr l).2 + lo * sz) cap sz (hst (by omega)) (by omega) (by omega)
   (fun x hx => ha.hz x (List.mem_of_mem_drop (List.mem_of_mem_take hx))) (fun x hx => ha.ho x (List.mem_of_mem_drop (List.mem_of_mem_take hx)))
   (fun i j => (c[(G.addr l).2 + (lo + i) * sz + j]?).getD .nilFunc)
   (fun i j x d h1 h2 => by
    rw [hget] at h1;split at h1
    ·obtain ⟨v, h3, _⟩ := hx _ _ _ _ h1 h2;rw [cell_of hh];rw [show (G.addr l).2 + lo * sz + i * sz + j = (G.addr l).2 + (lo + i) * sz + j from by rw [Nat.add_mul]; omega, h3]; rfl
    ·cases h1)
   (fun i j x d h1 h2 => by
    rw [hget] at h1;split at h1
    ·obtain ⟨v, h3, h4⟩ := hx _ _ _ _ h1 h2;rw [h3]; exact h4
    ·cases h1)
  rw [hlen] at this;exact this
theorem toD1_rel {lv : LV} {v : Value} {r : D × St} (hr : Rel w G S) (hv : LVRel w G lv v) (h : (toD1 lv).run S = .ok r) :
  ∃ G', Rel w G' r.2 ∧ Ext w G w G' ∧ (∀ k, G'.dom k ↔ G.dom k) ∧ Rep w G'.St r.1 v ∧ r.2.next = S.next ∧ r.2.clk = S.clk := by
 cases lv with
 | d x => cases h; cases hv; exact ⟨G, hr, Ext.refl w G, fun _ => Iff.rfl, by assumption, rfl, rfl⟩
 | lit xs => cases h; cases hv; exact ⟨G, hr, Ext.refl w G, fun _ => Iff.rfl, by assumption, rfl, rfl⟩
 | ar l sz lo n =>
  simp only [toD1] at h;obtain ⟨sz', xs, fz, hl, h⟩ := arrT_run h;have ha := hr.live hl
  cases hv with
  | ar _ _ _ _ cap a hd hs hb hc haddr =>
  have hsz : sz = sz' := hs.symm.trans ha.esz;subst hsz;by_cases hn : lo + n ≤ xs.length
  ·rw [if_pos hn] at h
   cases fz with
   | true =>
    simp only [if_true] at h
    cases h
    refine ⟨G, hr, Ext.refl w G, fun _ => Iff.rfl, ?_, rfl, rfl⟩;refine ha.data (fun hcp => ?_) (hr.wf.max l) hb hc hn haddr;obtain ⟨c, e, f, _, _, _, ho⟩ := ha.row hcp;simpa using ho
   | false =>
    simp only [Bool.false_eq_true, if_false] at h;rw [T.run_bind, setT_run hl] at h
    cases h
    obtain ⟨G', h1, h2, h3, h4⟩ := freeze_rel hr hl;refine ⟨G', h1, h2, h3, ?_, (putArr_next _ _ _ _ _).1, (putArr_next _ _ _ _ _).2⟩;obtain ⟨k1, k2, k3, k4⟩ := h2.dom l ha.dom;refine h4.data (fun hcp => ?_) (h1.wf.max l) (by rw [k3]; exact hb) hc hn (by rw [k2]; exact haddr)
    obtain ⟨c, e, f, _, _, _, ho⟩ := h4.row hcp;simpa using ho
  ·rw [if_neg hn] at h; cases h
 | _ => cases h
end Go.VM
end
section
namespace Go.VM
open Go.RowKit
variable {w w' w1 w2 : World} {G G' G1 G2 : Gh} {S S' S1 S2 : St} {P : Program}
theorem under_info {t : TypeId} {d : TypeDesc} (h : P.underlying t = some d) : ∃ i, P.info? t = some i := by
 unfold Program.underlying at h
 cases hi : P.info? t with
 | none => rw [hi] at h; cases h
 | some i => exact ⟨i, rfl⟩
theorem agg_under {t : TypeId} {b : Bool} (h : tyAgg P t = some b) : ∃ d, P.underlying t = some d ∧ b = isRowT d := by
 unfold tyAgg at h
 cases hu : P.underlying t with
 | none => rw [hu] at h; cases h
 | some d => rw [hu] at h; exact ⟨d, rfl, (Option.some.inj h).symm⟩
theorem run_isAgg {t : TypeId} {b : Bool} (h : tyAgg P t = some b) (w : World) : (isAgg t).run P w = .ok b w := by
 obtain ⟨d, hu, rfl⟩ := agg_under h;unfold isAgg;rw [Sem.run_bind, run_underlying hu]
 cases d <;> rfl
theorem run_typeInfo {t : TypeId} {i : TypeInfo} (h : P.info? t = some i) (w : World) : (typeInfo t).run P w = .ok i w := by
 simp [typeInfo, h]
theorem run_sizeOf {t : TypeId} {i : TypeInfo} (h : P.info? t = some i) (w : World) : (sizeOf t).run P w = .ok i.size w := by
 simp [sizeOf, run_typeInfo h]
theorem agg_size {t : TypeId} {b : Bool} (h : tyAgg P t = some b) : ∃ i, P.info? t = some i ∧ tySize P t = i.size := by
 obtain ⟨d, hu, _⟩ := agg_under h;obtain ⟨i, hi⟩ := under_info hu;exact ⟨i, hi, by simp [tySize, hi]⟩
theorem elem_under {t e : TypeId} {n : Nat} (h : tyElem P t = some (e, n)) : P.underlying t = some (.slice e) ∧ ∃ i, P.info? e = some i ∧ n = i.size := by
 unfold tyElem at h
 cases hu : P.underlying t with
 | none => rw [hu] at h; cases h
 | some d =>
  rw [hu] at h
  cases d <;> first | cases h | skip
  rename_i e'
  cases hi : P.info? e' with
  | none => simp [hi] at h
  | some i => simp [hi] at h; obtain ⟨rfl, rfl⟩ := h; exact ⟨rfl, i, hi, rfl⟩
theorem arr_under {t e : TypeId} {n m : Nat} (h : tyArr P t = some (n, e, m)) : P.underlying t = some (.array n e) ∧ ∃ i, P.info? e = some i ∧ m = i.size := by
 unfold tyArr at h
 cases hu : P.underlying t with
 | none => rw [hu] at h; cases h
 | some d =>
  rw [hu] at h
  cases d <;> first | cases h | skip
  rename_i n' e'
  cases hi : P.info? e' with
  | none => simp [hi] at h
  | some i => simp [hi] at h; obtain ⟨rfl, rfl, rfl⟩ := h; exact ⟨rfl, i, hi, rfl⟩
theorem field_under {t ft : TypeId} {k o n : Nat} (h : tyField P t k = some (o, ft, n)) :
  ∃ fs f i, P.underlying t = some (.struct fs) ∧ fs[k]? = some f ∧ f.offset = o ∧ f.type = ft ∧ P.info? ft = some i ∧ n = i.size := by
 unfold tyField at h
 cases hu : P.underlying t with
 | none => rw [hu] at h; cases h
 | some d =>
  rw [hu] at h
  cases d <;> first | cases h | skip
  rename_i fs
  cases hf : fs[k]? with
  | none => simp [hf] at h
  | some f =>
   cases hi : P.info? f.type with
   | none => simp [hf, hi] at h
   | some i => simp [hf, hi] at h; obtain ⟨rfl, rfl, rfl⟩ := h; exact ⟨fs, f, i, rfl, hf, rfl, rfl, hi, rfl⟩
theorem addr_add (b o j : Nat) : (⟨b, o, none⟩ : Addr).add j = ⟨b, o + j, none⟩ := Addr.add_mid b o j
theorem run_loadCells_at {b o n : Nat} {vs : Array Value} (hn : vs.size = n) (h : ∀ (j : Nat) (v : Value), vs[j]? = some v → w.cell? ⟨b, o + j, none⟩ = some v) :
  (loadCells ⟨b, o, none⟩ n).run P w = .ok vs w := by
 have := run_loadCells_list (P := P) w ⟨b, o, none⟩ vs.toList (fun j v hv => by rw [addr_add]; exact h j v (by simpa using hv))
 simpa [hn] using this
theorem run_loadVar_agg {t : TypeId} {b o : Nat} {vs : Array Value} (ha : tyAgg P t = some true) (hn : vs.size = tySize P t) (h : ∀ (j : Nat) (v : Value), vs[j]? = some v → w.cell? ⟨b, o + j, none⟩ = some v) :
  (loadVar t ⟨b, o, none⟩).run P w = .ok (.agg vs) w := by
 obtain ⟨i, hi, hs⟩ := agg_size ha;simp [loadVar, run_isAgg ha, run_sizeOf hi, run_loadCells_at (P := P) (hn.trans hs) h]
theorem run_loadVar_one {t : TypeId} {b o : Nat} {v : Value} (ha : tyAgg P t = some false) (h : w.cell? ⟨b, o, none⟩ = some v) :
  (loadVar t ⟨b, o, none⟩).run P w = .ok v w := by
 simp [loadVar, run_isAgg ha, h]
theorem fetch_rel (hr : Rel w G S) {id k : Nat} {lv : LV} {v : Value} (h : CellRel w G id k lv v) : LVRel w G (fetch id k lv) v := by
 cases lv with
 | own ver sz xs fz =>
  obtain ⟨⟨a, cap, rfl, h2⟩, h3⟩ := h;simp only [fetch]
  cases fz with
  | false => exact h2
  | true =>
   simp only [if_true];refine .d _ _ ?_
   cases h2 with
   | ar _ _ _ _ _ _ hd hs hb hc ha =>
    have := h3.data (lo := 0) (n := xs.length) (fun hcp => by obtain ⟨_, _, _, _, _, _, ho⟩ := h3.row hcp; simpa using ho) (hr.wf.max _) hb hc (by omega) ha
    rwa [show sub xs 0 xs.length = xs from by simp [sub]] at this
 | _ => exact h
theorem fetchL_get (id : Nat) : ∀ (l : List LV) (off i : Nat), (fetchL id off l)[i]? = (l[i]?).map (fetch id (off + i)) := by
 intro l
 induction l with
 | nil => intro off i; simp [fetchL]
 | cons c cs ih =>
  intro off i
  cases i with
  | zero => simp [fetchL]
  | succ i => simp only [fetchL, List.getElem?_cons_succ, ih]; congr 2; omega
theorem fetchL_length (id : Nat) : ∀ (l : List LV) (off : Nat), (fetchL id off l).length = l.length := by
 intro l
 induction l with
 | nil => intro off; rfl
 | cons c cs ih => intro off; simp [fetchL, ih]
theorem load_ok (hr : Rel w G S) {t : TypeId} {a : LV} {v : Value} (ha : LVRel w G a v) {lv : LV} {S' : St} (h : (loadT P t a).run S = .ok (lv, S')) : S' = S ∧ ∃ x, (Instr.loadAt t v).run P w = .ok x w ∧ LVRel w G lv x := by
 cases ha with
 | ptr id off hd =>
  simp only [loadT, T.run] at h
  cases ho : S.obj id with
  | cells cs =>
   have hob := hr.obj id;rw [ho] at hob h;obtain ⟨_, hown, c, e, f, hh, hs, hf, h1c, hc⟩ := hob
   cases hag : tyAgg P t with
   | none => rw [hag] at h; cases h
   | some b =>
    rw [hag] at h
    cases b with
    | true =>
     simp only at h;split at h
     ·rename_i hle
      cases h
      refine ⟨rfl, .agg (c.extract off (off + tySize P t)), ?_, ?_⟩
      ·simp only [Instr.loadAt, Instr.sureAddr, Sem.run_bind, Sem.run_pure, Result.andThen_ok];refine run_loadVar_agg hag (by simp; omega) (fun j v hj => ?_)
       rw [cell_of hh];rw [Array.getElem?_extract] at hj;split at hj
       ·exact hj
       ·cases hj
      ·refine .agg _ _ (by simp [fetchL_length]; omega) ?_ ?_
       ·intro i lv x h1 h2;rw [fetchL_get] at h1;rw [Array.getElem?_extract] at h2;split at h2
        ·rename_i hlt;have hlt' : i < tySize P t := by omega
         rw [List.getElem?_take, if_pos hlt', List.getElem?_drop] at h1
         cases hcs : cs[off + i]? with
         | none => rw [hcs] at h1; cases h1
         | some lv0 =>
          rw [hcs] at h1; cases h1;exact fetch_rel hr (hc _ _ _ hcs h2)
        ·cases h2
       ·intro i lv x h1 h2;rw [Array.getElem?_extract] at h2;split at h2
        ·exact h1c _ _ h2
        ·cases h2
     ·cases h
    | false =>
     simp only at h
     cases hcs : cs[off]? with
     | none => rw [hcs] at h; cases h
     | some lv0 =>
      rw [hcs] at h
      cases h
      have hlt : off < cs.length := (List.getElem?_eq_some_iff.1 hcs).1;have hc2 : c[off]? = some (c[off]'(by omega)) := Array.getElem?_eq_getElem (by omega)
      refine ⟨rfl, c[off]'(by omega), ?_, fetch_rel hr (hc _ _ _ hcs hc2)⟩
      simp only [Instr.loadAt, Instr.sureAddr, Sem.run_bind, Sem.run_pure, Result.andThen_ok];exact run_loadVar_one hag (by rw [cell_of hh]; exact hc2)
  | _ => rw [ho] at h; cases h
 | elp l sz i off hd hs hi =>
  simp only [loadT] at h;obtain ⟨sz', xs, fz, hl, h⟩ := arrT_run h;have har := hr.live hl;have hsz : sz = sz' := hs.symm.trans har.esz;subst hsz;obtain ⟨c, e, f, hh, hsz, hx, _⟩ := har.row (by omega)
  cases hxi : xs[i]? with
  | none => rw [hxi] at h; cases h
  | some x =>
   rw [hxi] at h;have hox : ∀ d ∈ x.cells, d.one = true := har.ho x (List.mem_of_getElem? hxi)
   cases hag : tyAgg P t with
   | none => rw [hag] at h; cases h
   | some b =>
    rw [hag] at h
    cases b with
    | true =>
     simp only at h;split at h
     ·rename_i hle
      cases h
      have hcell : ∀ j, j < tySize P t → ∃ v, c[(G.addr l).2 + i * sz + off + j]? = some v := by
       intro j hj;obtain ⟨v, h3, _⟩ := hx i (off + j) x _ hxi (List.getElem?_eq_getElem (show off + j < x.cells.length by omega))
       exact ⟨v, by rw [← h3]; congr 1; omega⟩
      have hsz2 : tySize P t = 0 ∨ (G.addr l).2 + i * sz + off + tySize P t ≤ c.size := by
       cases hn : tySize P t with
       | zero => exact .inl rfl
       | succ n =>
        right;obtain ⟨v, h3⟩ := hcell n (by omega)
        have := (Array.getElem?_eq_some_iff.1 h3).1;omega
      refine ⟨rfl, .agg (c.extract ((G.addr l).2 + i * sz + off) ((G.addr l).2 + i * sz + off + tySize P t)), ?_, ?_⟩
      ·simp only [Instr.loadAt, Instr.sureAddr, Sem.run_bind, Sem.run_pure, Result.andThen_ok];refine run_loadVar_agg hag (by simp; omega) (fun j v hj => ?_)
       rw [cell_of hh];rw [Array.getElem?_extract] at hj;split at hj
       ·exact hj
       ·cases hj
      ·refine .d _ _ (.agg _ _ (by simp; omega) (fun d hd => hox d (List.mem_of_mem_drop (List.mem_of_mem_take hd))) ?_)
       intro j d x2 h1 h2;rw [Array.getElem?_extract] at h2;split at h2
       ·rename_i hlt;have hlt' : j < tySize P t := by omega
        rw [List.getElem?_take, if_pos hlt', List.getElem?_drop] at h1;obtain ⟨v, h3, h4⟩ := hx i (off + j) x d hxi h1;rw [show (G.addr l).2 + i * sz + (off + j) = (G.addr l).2 + i * sz + off + j from by omega, h2] at h3
        cases h3; exact h4
       ·cases h2
     ·cases h
    | false =>
     simp only at h
     cases hcs : x.cells[off]? with
     | none => rw [hcs] at h; cases h
     | some d =>
      rw [hcs] at h
      cases h
      obtain ⟨v, h3, h4⟩ := hx i off x d hxi hcs;refine ⟨rfl, v, ?_, .d _ _ h4⟩;simp only [Instr.loadAt, Instr.sureAddr, Sem.run_bind, Sem.run_pure, Result.andThen_ok];exact run_loadVar_one hag (by rw [cell_of hh]; exact h3)
 | cp cs b off hs ho f h1 h2 =>
  simp only [loadT] at h
  cases hag : tyAgg P t with
  | none => rw [hag] at h; cases h
  | some bb =>
   rw [hag] at h
   cases bb with
   | true =>
    simp only at h;split at h
    ·rename_i hle
     cases h
     refine ⟨rfl, .agg (Array.ofFn (n := tySize P t) fun i => f i.1), ?_, ?_⟩
     ·simp only [Instr.loadAt, Instr.sureAddr, Sem.run_bind, Sem.run_pure, Result.andThen_ok];refine run_loadVar_agg hag (by simp) (fun j v hj => ?_)
      rw [Array.getElem?_ofFn] at hj;split at hj
      ·cases hj
       rename_i hlt;exact h1 j _ (List.getElem?_eq_getElem (show j < cs.length by omega))
      ·cases hj
     ·refine .d _ _ (.agg _ _ (by simp; omega) (fun d hd => ho d (List.mem_of_mem_take hd)) ?_)
      intro j d x2 e1 e2;rw [Array.getElem?_ofFn] at e2;split at e2
      ·cases e2
       rename_i hlt;rw [List.getElem?_take, if_pos hlt] at e1;exact h2 j d e1
      ·cases e2
    ·cases h
   | false =>
    simp only at h
    cases cs with
    | nil => cases h
    | cons d ds =>
     cases h
     refine ⟨rfl, f 0, ?_, .d _ _ (h2 0 d rfl)⟩;simp only [Instr.loadAt, Instr.sureAddr, Sem.run_bind, Sem.run_pure, Result.andThen_ok];exact run_loadVar_one hag (h1 0 d rfl)
 | _ => cases h
theorem load_sim (hr : Rel w G S) {t : TypeId} {a : LV} {v : Value} (ha : LVRel w G a v) : Sim P w G S (Instr.loadAt t v) (loadT P t a) (fun w' G' lv x => LVRel w' G' lv x) := by
 intro lv S' h _;obtain ⟨rfl, x, h1, h2⟩ := load_ok hr ha h;exact ⟨x, w, G, h1, h2, hr, Ext.refl w G, DomLe.refl _ _ _⟩
end Go.VM
end
section
namespace Go.VM
open Go.RowKit
variable {w w' w1 w2 : World} {G G' G1 G2 : Gh} {S S' S1 S2 : St} {P : Program}
theorem Rep.one' {St : Nat → Prop} {x : D} {v : Value} (h : Rep w St x v) (hv : v.oneCell' = true) : x.one = true := by
 cases h <;> first | rfl | (simp [Value.oneCell'] at hv)
def LV.okc : LV → Prop
 | .un | .tup _ => False
 | _ => True
theorem cells_of_one {v : Value} (h : v.oneCell' = true) : v.cells = #[v] := by cases v <;> first | rfl | (simp [Value.oneCell'] at h)
theorem one_rel {lv : LV} {v : Value} (h : LVRel w G lv v) (hc : lv.cells = [lv]) (hv : v.cells = #[v]) (h1 : v.oneCell' = true) :
  lv.cells.length = v.cells.size ∧ ∀ (i : Nat) (c : LV) (x : Value), lv.cells[i]? = some c → v.cells[i]? = some x → LVRel w G c x ∧ x.oneCell' = true := by
 rw [hc, hv];refine ⟨rfl, fun i c x a b => ?_⟩
 cases i with
 | zero => simp at a b; subst a b; exact ⟨h, h1⟩
 | succ i => simp at a
theorem cells_rel {lv : LV} {v : Value} (h : LVRel w G lv v) (hk : lv.okc) : lv.cells.length = v.cells.size ∧
  ∀ (i : Nat) (c : LV) (x : Value), lv.cells[i]? = some c → v.cells[i]? = some x → LVRel w G c x ∧ x.oneCell' = true := by
 cases h with
 | d x v hx =>
  cases hx with
  | agg ds cs hl ho hh =>
   simp only [LV.cells, Value.cells, List.length_map];refine ⟨hl, fun i c x a b => ?_⟩;rw [List.getElem?_map] at a
   cases hd : ds[i]? with
   | none => rw [hd] at a; cases a
   | some d =>
    rw [hd] at a; cases a;have hr := hh i d x hd b;exact ⟨.d _ _ hr, hr.one (ho d (List.mem_of_getElem? hd))⟩
  | int k n => exact one_rel (.d _ _ (.int k n)) rfl rfl rfl
  | bool b => exact one_rel (.d _ _ (.bool b)) rfl rfl rfl
  | str s h => exact one_rel (.d _ _ (.str s h)) rfl rfl rfl
  | nilP => exact one_rel (.d _ _ .nilP) rfl rfl rfl
  | nilM => exact one_rel (.d _ _ .nilM) rfl rfl rfl
  | nilF => exact one_rel (.d _ _ .nilF) rfl rfl rfl
  | empty a cap hc => exact one_rel (.d _ _ (.empty a cap hc)) rfl rfl rfl
  | sl xs b off cap sz h1 h2 h3 h4 h5 f h6 h7 => exact one_rel (.d _ _ (.sl xs b off cap sz h1 h2 h3 h4 h5 f h6 h7)) rfl rfl rfl
 | lit xs a h1 h2 h3 => exact one_rel (.lit xs a h1 h2 h3) rfl rfl rfl
 | ar l sz lo len cap a h1 h2 h3 h4 h5 => exact one_rel (.ar l sz lo len cap a h1 h2 h3 h4 h5) rfl rfl rfl
 | ptr id off h1 => exact one_rel (.ptr id off h1) rfl rfl rfl
 | elp l sz i off h1 h2 h3 => exact one_rel (.elp l sz i off h1 h2 h3) rfl rfl rfl
 | cp cs b off h1 h2 f h3 h4 => exact one_rel (.cp cs b off h1 h2 f h3 h4) rfl rfl rfl
 | agg cs vs hl hh ho => exact ⟨hl, fun i c x a b => ⟨hh i c x a b, ho i c x a b⟩⟩
 | tup cs vs hl hh => exact hk.elim
 | fn f cs vs hl hh => exact one_rel (.fn f cs vs hl hh) rfl rfl rfl
 | mp id hd => exact one_rel (.mp id hd) rfl rfl rfl
 | yl id hd => exact one_rel (.yl id hd) rfl rfl rfl
 | un v => exact hk.elim
theorem Ext.setCell {w : World} {G : Gh} {b o : Nat} {x : Value} {l : Loc} (hwf : G.Wf w) (hown : G.own b = some l) :
  Ext w G (w.setCell ⟨b, o, none⟩ x) G ∧ Keep w G (w.setCell ⟨b, o, none⟩ x) G (fun k => k = l) ∧ G.Wf (w.setCell ⟨b, o, none⟩ x) := by
 refine ⟨⟨by rw [size_setCell]; exact Nat.le_refl _, rfl, rfl, rfl, ?_, ?_, fun _ h => h, fun _ h => h, fun _ h => ⟨h, rfl, rfl, rfl⟩, fun _ _ h => h, fun _ _ h => .inl h, fun _ _ h => h⟩, ?_, ?_⟩
 ·intro k hk ho _;exact heap_setCell_ne (fun e => by simp only at e; subst e; rw [hown] at ho; cases ho)
 ·intro k hk c e f hh;refine ⟨f, ?_⟩;rw [heap_setCell_ne (fun e => by simp only at e; subst e; exact (hwf.own _ _ hown).2 (hwf.lt _ hk))]; exact hh
 ·intro k m hm hne;refine ⟨heap_setCell_ne (fun e => by simp only at e; subst e; rw [hown] at hm; cases hm; exact hne rfl), hm⟩
 ·exact ⟨fun k m hm => ⟨by rw [size_setCell]; exact (hwf.own k m hm).1, (hwf.own k m hm).2⟩, fun k hk => by rw [size_setCell]; exact hwf.st k hk, hwf.lt, hwf.max⟩
theorem Rel.setCell (hr : Rel w G S) {id off : Nat} {cs : List LV} {x : Value} {c : LV} (ho : S.obj id = .cells cs) (hlt : off < cs.length) (h1 : x.oneCell' = true)
  (hc : CellRel (w.setCell ⟨(G.addr (.arr id)).1, off, none⟩ x) G id off c x) :
  Rel (w.setCell ⟨(G.addr (.arr id)).1, off, none⟩ x) G (S.set id (.cells (cs.set off c))) ∧ Ext w G (w.setCell ⟨(G.addr (.arr id)).1, off, none⟩ x) G ∧
   w.cell? ⟨(G.addr (.arr id)).1, off, none⟩ ≠ none ∧ w.frozen? ⟨(G.addr (.arr id)).1, off, none⟩ = false := by
 have hob := hr.obj id;rw [ho] at hob;obtain ⟨hd, hown, cc, e, f, hh, hs, hf, h1c, hcs⟩ := hob;obtain ⟨e1, e2, e3⟩ := Ext.setCell (o := off) (x := x) hr.wf hown;refine ⟨⟨e3, fun j => ?_⟩, e1, ?_, ?_⟩
 ·rw [set_obj];split
  ·rename_i hj; subst hj;refine ⟨hd, hown, cc.setIfInBounds off x, e, f, heap_setCell_at hh, by simpa using hs, by simpa [freeB] using hf, ?_, ?_⟩
   ·intro k v hv;rw [Array.getElem?_setIfInBounds] at hv;split at hv
    ·split at hv
     ·cases hv; exact h1
     ·cases hv
    ·exact h1c k v hv
   ·intro k lv v hlv hv;rw [List.getElem?_set] at hlv;rw [Array.getElem?_setIfInBounds] at hv;by_cases hk : off = k
    ·subst hk;rw [if_pos rfl, if_pos hlt] at hlv;rw [if_pos rfl, if_pos (by omega)] at hv
     cases hlv; cases hv; exact hc
    ·rw [if_neg hk] at hlv hv;exact (hcs k lv v hlv hv).keep hr.wf e1 e2 (fun ver => by simp)
  ·rename_i hj;exact (hr.obj j).keep hr.wf e1 e2 (fun l hl hx => hj (by subst hx; exact hl.symm))
 ·rw [cell_of hh, Array.getElem?_eq_getElem (by omega)]; simp
 ·rw [frozen_of hh]; simpa using hf off (by omega)
def gmove (G : Gh) (l l' : Loc) (lo sz cap : Nat) : Gh :=
 {addr := fun k => if k = l' then ((G.addr l).1, (G.addr l).2 + lo * sz) else G.addr k, cap := fun k => if k = l' then cap else G.cap k, esz := fun k => if k = l' then sz else G.esz k,
  dom := fun k => k = l' ∨ G.dom k, own := fun b => if 0 < cap ∧ b = (G.addr l).1 then some l' else G.own b, St := G.St, Lt := G.Lt }
theorem gmove_rel (hr : Rel w G S) {l l' : Loc} {sz lo n cap : Nat} {xs : List D} (hl : Live S l sz xs false) (hf : ¬ G.dom l') (hb : lo + cap ≤ G.cap l) (hc : n ≤ cap) :
  Rel w (gmove G l l' lo sz cap) (S.killArr l) ∧ Ext w G w (gmove G l l' lo sz cap) ∧ ArrRel w (gmove G l l' lo sz cap) l' sz (sub xs lo n) false := by
 have ha := hr.live hl;have hne : ∀ k, G.dom k → k ≠ l' := fun k hk e => hf (e ▸ hk);have hown : 0 < cap → G.own (G.addr l).1 = some l := by
  intro h;obtain ⟨_, _, _, _, _, _, ho⟩ := ha.row (by omega)
  simpa using ho.1
 have hext : Ext w G w (gmove G l l' lo sz cap) := by
  refine ⟨Nat.le_refl _, rfl, rfl, rfl, fun _ _ _ _ => rfl, fun _ _ _ _ f h => ⟨f, h⟩, fun _ h => h, fun _ h => h, ?_, ?_, fun _ _ h => .inl h, fun _ _ h => h⟩
  ·intro k hk;have := hne k hk;simp only [gmove];exact ⟨.inr hk, if_neg this, if_neg this, if_neg this⟩
  ·intro b hb ho;simp only [gmove];rw [if_neg]; exact ho;rintro ⟨h1, rfl⟩;rw [hown h1] at ho; cases ho
 have hkeep : Keep w G w (gmove G l l' lo sz cap) (fun k => k = l) := by
  intro b m hm hml;refine ⟨rfl, ?_⟩;simp only [gmove];rw [if_neg]; exact hm;rintro ⟨h1, rfl⟩;rw [hown h1] at hm; cases hm; exact hml rfl
 have hwf : (gmove G l l' lo sz cap).Wf w := by
  refine ⟨?_, hr.wf.st, hr.wf.lt, ?_⟩
  ·intro b m hm;simp only [gmove] at hm ⊢;split at hm
   ·rename_i h;obtain ⟨h1, rfl⟩ := h;exact hr.wf.own _ _ (hown h1)
   ·exact hr.wf.own b m hm
  ·intro k;simp only [gmove];split
   ·have := hr.wf.max l; omega
   ·exact hr.wf.max k
 refine ⟨hr.killArr hext hkeep hwf hl, hext, ⟨.inl rfl, by simp [gmove], ?_, ?_, ?_, ?_⟩⟩
 ·exact fun x hx => ha.hz x (List.mem_of_mem_drop (List.mem_of_mem_take hx))
 ·exact fun x hx => ha.ho x (List.mem_of_mem_drop (List.mem_of_mem_take hx))
 ·simp [gmove, sub]; omega
 ·simp only [gmove, if_true];intro hcp;obtain ⟨c, e, f, hh, hs, hx, ho⟩ := ha.row (by omega)
  refine ⟨c, e, f, hh, ?_, ?_, by simpa [hcp] using ho.2⟩
  ·have : lo * sz + cap * sz ≤ G.cap l * sz := by rw [← Nat.add_mul]; exact Nat.mul_le_mul_right _ hb
   omega
  ·intro i j x d h1 h2;simp only [sub, List.getElem?_take] at h1;split at h1
   ·rw [List.getElem?_drop] at h1;obtain ⟨v, h3, h4⟩ := hx _ _ _ _ h1 h2;exact ⟨v, by rw [← h3]; congr 1; rw [Nat.add_mul]; omega, h4⟩
   ·cases h1
theorem Rel.tick (hr : Rel w G S) : Rel w G S.tick := ⟨hr.wf, hr.obj⟩
theorem Rel.leak (hr : Rel w G S) : Rel w G S.leak := ⟨hr.wf, hr.obj⟩
theorem stow_rel (hr : Rel w G S) {id off : Nat} {lv c : LV} {x : Value} (hv : LVRel w G lv x) (h : (stow id lv).run S = .ok (c, S1)) (hf : Free G S S1) :
  ∃ G1, Rel w G1 S1 ∧ Ext w G w G1 ∧ DomLe G G1 S S1 ∧ CellRel w G1 id off c x := by
 cases lv with
 | d y =>
  cases y <;> first | (cases h; done) | (cases h; exact ⟨G, hr, Ext.refl w G, DomLe.refl _ _ _, hv⟩)
 | lit xs => cases h; exact ⟨G, hr, Ext.refl w G, DomLe.refl _ _ _, hv⟩
 | ar l sz lo n =>
  simp only [stow] at h;obtain ⟨sz', xs, fz, hl, h⟩ := arrT_run h;have ha := hr.live hl
  cases hv with
  | ar _ _ _ _ cap a hd hs hb hc haddr =>
  have hsz : sz = sz' := hs.symm.trans ha.esz;subst hsz;by_cases hn : lo + n ≤ xs.length
  ·rw [if_pos hn] at h
   cases fz with
   | true =>
    simp only [if_true] at h
    cases h
    refine ⟨G, hr, Ext.refl w G, DomLe.refl _ _ _, .d _ _ ?_⟩;refine ha.data (fun hcp => ?_) (hr.wf.max l) hb hc hn haddr;obtain ⟨_, _, _, _, _, _, ho⟩ := ha.row hcp;simpa using ho
   | false =>
    simp only [Bool.false_eq_true, if_false] at h;rw [T.run_bind, killT_run hl] at h
    cases h
    have hk := killArr_next S l;have hnew : New S (S.killArr l).tick (.cell id off (S.killArr l).clk) := ⟨by omega, by simp [St.tick]⟩
    obtain ⟨h1, h2, h3⟩ := gmove_rel (l' := .cell id off (S.killArr l).clk) hr hl (hf _ hnew) hb hc;refine ⟨_, h1.tick, h2, ?_, ?_⟩
    ·intro k hk;rcases hk with rfl | hk
     ·exact .inr hnew
     ·exact .inl hk
    ·have hlen : (sub xs lo n).length = n := by simp [sub]; omega
     refine ⟨⟨a, cap, by rw [hlen], ?_⟩, h3⟩
     rw [hlen];refine .ar _ _ _ _ _ _ h3.dom h3.esz (by simp [gmove]) hc (fun hcp => ?_)
     rw [haddr hcp];simp [gmove]
  ·rw [if_neg hn] at h; cases h
 | ptr i o =>
  simp only [stow] at h;split at h
  ·cases h; exact ⟨G, hr, Ext.refl w G, DomLe.refl _ _ _, hv⟩
  ·cases h; exact ⟨G, hr.leak, Ext.refl w G, DomLe.refl _ _ _, hv⟩
 | mp i =>
  simp only [stow] at h;split at h
  ·cases h; exact ⟨G, hr, Ext.refl w G, DomLe.refl _ _ _, hv⟩
  ·cases h; exact ⟨G, hr.leak, Ext.refl w G, DomLe.refl _ _ _, hv⟩
 | fn f cs =>
  cases cs with
  | nil => cases h; exact ⟨G, hr, Ext.refl w G, DomLe.refl _ _ _, hv⟩
  | cons a b => cases h
 | _ => cases h
theorem storeCell_sim (hr : Rel w G S) {id off : Nat} {lv : LV} {x : Value} (hv : LVRel w G lv x) (h1 : x.oneCell' = true) (hd : G.dom (.arr id)) :
  Sim P w G S (store ⟨(G.addr (.arr id)).1, off, none⟩ x) (storeCellT id off lv) (fun w' _ _ _ => w' = w.setCell ⟨(G.addr (.arr id)).1, off, none⟩ x) := by
 intro u S' h hf;simp only [storeCellT] at h;obtain ⟨c, S1, hst, h⟩ := T.bind_ok h;have g1 := T.grow _ hst;simp only [T.run] at h
 cases ho : S1.obj id with
 | cells cs =>
  rw [ho] at h;simp only at h;split at h
  ·rename_i hlt
   cases h
   obtain ⟨G1, hr1, he1, hd1, hc1⟩ := stow_rel (off := off) hr hv hst (hf.left (S1 := S1) ⟨Nat.le_refl _, Nat.le_refl _⟩);obtain ⟨k1, k2, k3, k4⟩ := he1.dom _ hd;have hob := hr1.obj id;rw [ho] at hob;obtain ⟨e1, e2, e3⟩ := Ext.setCell (o := off) (x := x) hr1.wf hob.2.1;have hc2 := hc1.keep hr1.wf e1 e2 (fun ver => by simp)
   obtain ⟨f1, f2, f3, f4⟩ := hr1.setCell ho hlt h1 hc2;rw [← k2];refine ⟨(), _, G1, ?_, rfl, f1, he1.trans f2, ?_⟩
   ·rw [run_store P w _ x _ h1]
    cases hq : w.cell? ⟨(G1.addr (.arr id)).1, off, none⟩ with
    | none => exact absurd hq f3
    | some q => simp [f4]
   ·intro l hl; rcases hd1 l hl with h | h
    ·exact .inl h
    ·exact .inr h
  ·cases h
 | _ => rw [ho] at h; cases h
theorem storeCells_sim {id : Nat} : ∀ (lvs : List LV) (vs : List Value) {w : World} {G : Gh} {S : St} (off i : Nat), Rel w G S → lvs.length = vs.length →
  (∀ (k : Nat) (c : LV) (x : Value), lvs[k]? = some c → vs[k]? = some x → LVRel w G c x ∧ x.oneCell' = true) → G.dom (.arr id) →
  Sim P w G S (storeCells ⟨(G.addr (.arr id)).1, off, none⟩ vs i) (storeCellsT id (off + i) lvs) (fun w' _ _ _ => w' = w.setCells (G.addr (.arr id)).1 (off + i) vs) := by
 intro lvs
 induction lvs with
 | nil =>
  intro vs w G S off i hr hl _ _
  cases vs with
  | nil => exact Sim.ret hr rfl
  | cons v vs => cases hl
 | cons c cs ih =>
  intro vs w G S off i hr hl hv hd
  cases vs with
  | nil => cases hl
  | cons v vs =>
   obtain ⟨hv0, h10⟩ := hv 0 c v rfl rfl;simp only [storeCells, storeCellsT];rw [addr_add];refine Sim.bind (storeCell_sim hr hv0 h10 hd) ?_;intro w1 G1 S1 a b hr1 he1 hw1;obtain ⟨k1, k2, k3, k4⟩ := he1.dom _ hd;have := ih vs (w := w1) (G := G1) (S := S1) off (i + 1) hr1 (by simpa using hl) (fun k c x h1 h2 => by
    obtain ⟨h3, h4⟩ := hv (k + 1) c x (by simpa using h1) (by simpa using h2)
    exact ⟨h3.ext hr.wf he1, h4⟩) k1
   rw [k2] at this;refine this.mono ?_;intro w' G' b a _ hw';rw [hw', hw1];rfl
end Go.VM
end
section
namespace Go.VM
open Go.RowKit
variable {w w' w1 w2 : World} {G G' G1 G2 : Gh} {S S' S1 S2 : St} {P : Program}
def DOk (f : LV → T D) : Prop := ∀ {w : World} {G : Gh} {S : St} {lv : LV} {v : Value} {r : D × St}, Rel w G S → LVRel w G lv v → (f lv).run S = .ok r →
 ∃ G', Rel w G' r.2 ∧ Ext w G w G' ∧ (∀ k, G'.dom k ↔ G.dom k) ∧ Rep w G'.St r.1 v ∧ r.2.next = S.next ∧ r.2.clk = S.clk
theorem toD1_ok : DOk toD1 := fun hr hv h => toD1_rel hr hv h
theorem mapL_ok {f : LV → T D} (hf : DOk f) : ∀ (lvs : List LV) (vs : List Value) {w : World} {G : Gh} {S : St} {r : List D × St}, Rel w G S → lvs.length = vs.length →
  (∀ (k : Nat) (c : LV) (x : Value), lvs[k]? = some c → vs[k]? = some x → LVRel w G c x) → (T.mapL f lvs).run S = .ok r →
  ∃ G', Rel w G' r.2 ∧ Ext w G w G' ∧ (∀ k, G'.dom k ↔ G.dom k) ∧ r.1.length = vs.length ∧ (∀ (k : Nat) (d : D) (x : Value), r.1[k]? = some d → vs[k]? = some x → Rep w G'.St d x) ∧ r.2.next = S.next ∧ r.2.clk = S.clk := by
 intro lvs
 induction lvs with
 | nil =>
  intro vs w G S r hr hl _ h
  cases h
  exact ⟨G, hr, Ext.refl w G, fun _ => Iff.rfl, hl, fun k d x a => by simp at a, rfl, rfl⟩
 | cons c cs ih =>
  intro vs w G S r hr hl hv h
  cases vs with
  | nil => cases hl
  | cons v vs =>
   simp only [T.mapL] at h;obtain ⟨d, S1, h1, h⟩ := T.bind_ok h;obtain ⟨ds, S2, h2, h⟩ := T.bind_ok h
   cases h
   obtain ⟨G1, a1, a2, a3, a4, a5, a6⟩ := hf hr (hv 0 c v rfl rfl) h1;obtain ⟨G2, b1, b2, b3, b4, b5, b6, b7⟩ := ih vs a1 (by simpa using hl) (fun k c x e1 e2 => (hv (k + 1) c x (by simpa using e1) (by simpa using e2)).ext hr.wf a2) h2
   refine ⟨G2, b1, a2.trans b2, fun k => (b3 k).trans (a3 k), by simpa using b4, ?_, b6.trans a5, b7.trans a6⟩
   intro k d' x e1 e2
   cases k with
   | zero => simp at e1 e2; subst e1 e2; exact a4.ext a1.wf b2
   | succ k => exact b5 k d' x (by simpa using e1) (by simpa using e2)
theorem toD_ok : DOk toD := by
 intro w G S lv v r hr hv h
 cases lv with
 | agg cs =>
  simp only [toD] at h;obtain ⟨ds, S1, h1, h⟩ := T.bind_ok h
  cases h
  cases hv with
  | agg _ vs hl hh ho =>
   obtain ⟨G', a1, a2, a3, a4, a5, a6, a7⟩ := mapL_ok toD1_ok cs vs.toList hr (by simpa using hl) (fun k c x e1 e2 => hh k c x e1 (by simpa using e2)) h1
   refine ⟨G', a1, a2, a3, .agg _ _ (by simpa using a4) ?_ (fun i d c e1 e2 => a5 i d c e1 (by simpa using e2)), a6, a7⟩
   intro d hd;obtain ⟨i, hi⟩ := List.getElem?_of_mem hd;have hlt : i < vs.size := by have := (List.getElem?_eq_some_iff.1 hi).1; simp at a4; omega
   have hx : vs[i]? = some vs[i] := Array.getElem?_eq_getElem hlt;have hc : cs[i]? = some (cs[i]'(by omega)) := List.getElem?_eq_getElem (by omega)
   exact (a5 i d _ hi (by simp [hx])).one' (ho i _ _ hc hx)
 | _ => exact toD1_ok hr hv h
theorem putCells_len {x : D} {off : Nat} {ds : List D} (h : off + ds.length ≤ x.cells.length) (h1 : ∀ d ∈ ds, d.one = true) : (putCells x off ds).cells.length = x.cells.length := by
 cases x with
 | agg cs => simp only [putCells, D.cells] at h ⊢; simp; omega
 | _ =>
  simp only [putCells];split
  ·rename_i d; rw [D.cells_one (h1 d (by simp))]; rfl
  ·rfl
theorem putCells_get {x : D} {off : Nat} {ds : List D} (h : off + ds.length ≤ x.cells.length) (h1 : ∀ d ∈ ds, d.one = true) (j : Nat) :
  (putCells x off ds).cells[j]? = if off ≤ j ∧ j < off + ds.length then ds[j - off]? else x.cells[j]? := by
 cases x with
 | agg cs =>
  simp only [putCells, D.cells] at h ⊢;rw [List.append_assoc];by_cases h2 : j < off
  ·rw [List.getElem?_append_left (by simp; omega), List.getElem?_take, if_pos h2, if_neg (by omega)]
  ·rw [List.getElem?_append_right (by simp; omega)]
   simp only [List.length_take];rw [show min off cs.length = off from by omega]
   by_cases h3 : j < off + ds.length
   ·rw [List.getElem?_append_left (by omega), if_pos (by omega)]
   ·rw [List.getElem?_append_right (by omega), if_neg (by omega), List.getElem?_drop]
    congr 1; omega
 | _ =>
  simp only [putCells];split
  ·rename_i d;simp only [D.cells, List.length_cons, List.length_nil] at h;have : off = 0 := by omega
   subst this;rw [D.cells_one (h1 d (by simp))]
   simp only [D.cells, List.length_cons, List.length_nil]
   cases j with
   | zero => simp
   | succ j => simp
  ·rename_i hne
   cases ds with
   | nil => rw [if_neg (by simp only [List.length_nil]; omega)]
   | cons d ds =>
    cases ds with
    | nil => exact absurd rfl (hne d)
    | cons d2 ds => simp only [D.cells, List.length_cons, List.length_nil] at h; omega
theorem putCells_one {x : D} {off : Nat} {ds : List D} (h1 : ∀ d ∈ ds, d.one = true) (h2 : ∀ d ∈ x.cells, d.one = true) : ∀ d ∈ (putCells x off ds).cells, d.one = true := by
 cases x with
 | agg cs =>
  simp only [putCells, D.cells];intro d hd;simp only [List.mem_append] at hd;rcases hd with (hd | hd) | hd
  ·exact h2 d (List.mem_of_mem_take hd)
  ·exact h1 d hd
  ·exact h2 d (List.mem_of_mem_drop hd)
 | _ =>
  simp only [putCells];split
  ·rename_i d; rw [D.cells_one (h1 d (by simp))]; exact h1
  ·exact h2
theorem Ext.setCells {w : World} {G : Gh} {b o : Nat} {vs : List Value} {l : Loc} (hwf : G.Wf w) (hown : G.own b = some l) :
  Ext w G (w.setCells b o vs) G ∧ Keep w G (w.setCells b o vs) G (fun k => k = l) ∧ G.Wf (w.setCells b o vs) := by
 have hs := streams_setCells vs w b o;refine ⟨⟨by rw [size_setCells]; exact Nat.le_refl _, hs.1, hs.2.1, hs.2.2, ?_, ?_, fun _ h => h, fun _ h => h, fun _ h => ⟨h, rfl, rfl, rfl⟩, fun _ _ h => h, fun _ _ h => .inl h, fun _ _ h => h⟩, ?_, ?_⟩
 ·intro k hk ho _;exact heap_setCells_ne vs (fun e => by subst e; rw [hown] at ho; cases ho)
 ·intro k hk c e f hh;refine ⟨f, ?_⟩;rw [heap_setCells_ne vs (fun e => by subst e; exact (hwf.own _ _ hown).2 (hwf.lt _ hk))]; exact hh
 ·intro k m hm hne;refine ⟨heap_setCells_ne vs (fun e => by subst e; rw [hown] at hm; cases hm; exact hne rfl), hm⟩
 ·exact ⟨fun k m hm => ⟨by rw [size_setCells]; exact (hwf.own k m hm).1, (hwf.own k m hm).2⟩, fun k hk => by rw [size_setCells]; exact hwf.st k hk, hwf.lt, hwf.max⟩
theorem run_storeCells_at' {b o : Nat} {vs : List Value} {c : Array Value} {e : TypeId} {f : Nat × Nat} (hh : w.heap[b]? = some (.cells c e f)) (hle : o + vs.length ≤ c.size) (hf : freeB c f) (h1 : ∀ v ∈ vs, v.oneCell' = true) :
  (storeCells ⟨b, o, none⟩ vs 0).run P w = .ok () (w.setCells b o vs) := by
 have := run_storeCells_cells (P := P) b o vs 0 w (fun j hj => by rw [cell_of hh, Array.getElem?_eq_getElem (by omega)]; rfl)
  (fun j hj => by rw [frozen_of hh]; simpa using hf (o + 0 + j) (by omega)) h1
 simpa using this
theorem store_sim (hr : Rel w G S) {t : TypeId} {a v : LV} {av x : Value} (ha : LVRel w G a av) (hv : LVRel w G v x) :
  Sim P w G S (Instr.storeAt t av x) (storeT P t v a) (fun _ _ _ _ => True) := by
 intro u S' h hf;unfold storeT at h;split at h
 case isFalse => cases h
 rename_i hcond;obtain ⟨hag, hsz⟩ := hcond;obtain ⟨bb, hbb⟩ := Option.isSome_iff_exists.1 hag;obtain ⟨i, hi, hts⟩ := agg_size hbb;have hok : v.okc := by
  cases v <;> first | trivial | skip
  all_goals (cases a <;> first | (cases h; done) | skip)
  all_goals (simp [LV.cells, storeCellsT, storeCellT, stow, T.mapL, toD1, T.bind, T.run] at h)
 obtain ⟨hlen, hcells⟩ := cells_rel hv hok;have hrun : ∀ ad : Addr, (Instr.storeAt t (.pointer (some ad)) x).run P w = (storeCells ad x.cells.toList 0).run P w := by
  intro ad;simp [Instr.storeAt, Instr.sureAddr, storeVar, run_sizeOf hi];intro hne;omega
 cases ha with
 | ptr id off hd =>
  simp only at h;obtain ⟨u1, S1, h1, h⟩ := T.bind_ok h;have h1' := h1
  cases h
  have := storeCells_sim (P := P) v.cells x.cells.toList off 0 hr (by simpa using hlen) (fun k c y e1 e2 => hcells k c y e1 (by simpa using e2)) hd
  obtain ⟨a', w', G', r1, r2, r3, r4, r5⟩ := this u1 _ (by simpa using h1') hf
  exact ⟨(), w', G', by rw [hrun]; exact r1, trivial, r3, r4, r5⟩
 | elp l sz k off hd hs hk =>
  simp only at h;obtain ⟨ds, S1, h1, h⟩ := T.bind_ok h;obtain ⟨G1, a1, a2, a3, a4, a5, a6, a7⟩ := mapL_ok toD1_ok v.cells x.cells.toList hr (by simpa using hlen) (fun k c y e1 e2 => (hcells k c y e1 (by simpa using e2)).1) h1
  obtain ⟨sz', xs, fz, hl, h⟩ := arrT_run h
  cases fz with
  | true => cases h
  | false =>
  simp only [Bool.false_eq_true, if_false] at h;have har := a1.live hl;obtain ⟨k1, k2, k3, k4⟩ := a2.dom l hd;have hse : sz = sz' := by rw [← hs, ← k4]; exact har.esz
  subst hse
  cases hxk : xs[k]? with
  | none => rw [hxk] at h; cases h
  | some y =>
  rw [hxk] at h;simp only at h;split at h
  case isFalse => cases h
  rename_i hle;rw [T.run_bind, setT_run hl] at h
  cases h
  obtain ⟨c, e, f, hh, hcs, hx, ho⟩ := har.row (by rw [k3]; omega)
  simp only [Bool.false_eq_true, if_false] at ho;have hy : y.cells.length = sz := har.hz y (List.mem_of_getElem? hxk);have hxl : k < xs.length := (List.getElem?_eq_some_iff.1 hxk).1;have hdsl : ds.length = x.cells.size := by simpa using a4
  have hdone : ∀ d ∈ ds, d.one = true := by
   intro d hd;obtain ⟨j, hj⟩ := List.getElem?_of_mem hd;have hlt : j < x.cells.size := by have := (List.getElem?_eq_some_iff.1 hj).1; omega
   have hx : x.cells[j]? = some x.cells[j] := Array.getElem?_eq_getElem hlt;have hc : v.cells[j]? = some (v.cells[j]'(by omega)) := List.getElem?_eq_getElem (by omega)
   exact (a5 j d _ hj (by simp [hx])).one' (hcells j _ _ hc hx).2
  have hvone : ∀ q ∈ x.cells.toList, q.oneCell' = true := by
   intro q hq;obtain ⟨j, hj⟩ := List.getElem?_of_mem hq;have hlt : j < x.cells.size := by have := (List.getElem?_eq_some_iff.1 hj).1; simpa using this
   have hc : v.cells[j]? = some (v.cells[j]'(by omega)) := List.getElem?_eq_getElem (by omega)
   exact (hcells j _ q hc (by simpa using hj)).2
  have hkm : k * sz + sz ≤ G1.cap l * sz := by
   rw [← Nat.succ_mul]; exact Nat.mul_le_mul_right _ (by rw [k3]; omega)
  have hin : (G1.addr l).2 + k * sz + off + x.cells.toList.length ≤ c.size := by simp; omega
  obtain ⟨e1, e2, e3⟩ := Ext.setCells (o := (G1.addr l).2 + k * sz + off) (vs := x.cells.toList) a1.wf ho.1;have hlen2 : (xs.set k (putCells y off ds)).length = xs.length := by simp
  have hn : ArrRel (w.setCells (G1.addr l).1 ((G1.addr l).2 + k * sz + off) x.cells.toList) G1 l sz (xs.set k (putCells y off ds)) false := by
   refine ⟨har.dom, har.esz, ?_, ?_, by rw [hlen2]; exact har.len, fun _ => ⟨_, e, f, heap_setCells_at _ hh, by rw [seg_size]; exact hcs, ?_, ?_⟩⟩
   ·intro z hz;rcases List.mem_or_eq_of_mem_set hz with hz | rfl
    ·exact har.hz z hz
    ·rw [putCells_len hle hdone]; exact hy
   ·intro z hz;rcases List.mem_or_eq_of_mem_set hz with hz | rfl
    ·exact har.ho z hz
    ·exact putCells_one hdone (har.ho y (List.mem_of_getElem? hxk))
   ·intro i' j z d g1 g2;rw [List.getElem?_set] at g1;rw [seg_get];by_cases hki : k = i'
    ·subst hki;rw [if_pos rfl, if_pos hxl] at g1
     cases g1
     rw [putCells_get hle hdone] at g2;by_cases hj : off ≤ j ∧ j < off + ds.length
     ·rw [if_pos hj] at g2;have hxj : x.cells.toList[j - off]? = some (x.cells.toList[j - off]'(by simp; omega)) := List.getElem?_eq_getElem (by simp; omega)
      rw [if_pos (by simp; omega), show (G1.addr l).2 + k * sz + j - ((G1.addr l).2 + k * sz + off) = j - off from by omega]
      exact ⟨_, hxj, (a5 _ _ _ g2 hxj).ext a1.wf e1⟩
     ·rw [if_neg hj] at g2;obtain ⟨q, q1, q2⟩ := hx k j y d hxk g2;rw [if_neg (by simp; omega)]
      exact ⟨q, q1, q2.ext a1.wf e1⟩
    ·rw [if_neg hki] at g1;obtain ⟨q, q1, q2⟩ := hx i' j z d g1 g2;have hzl : z.cells.length = sz := har.hz z (List.mem_of_getElem? g1);have hjl : j < z.cells.length := (List.getElem?_eq_some_iff.1 g2).1;have hne : ¬ ((G1.addr l).2 + k * sz + off ≤ (G1.addr l).2 + i' * sz + j ∧ (G1.addr l).2 + i' * sz + j < (G1.addr l).2 + k * sz + off + x.cells.toList.length ∧ (G1.addr l).2 + i' * sz + j < c.size) := by
      rintro ⟨b1, b2, _⟩;simp at b2;rcases Nat.lt_or_gt_of_ne hki with hlt | hlt
      ·have : k * sz + sz ≤ i' * sz := by rw [← Nat.succ_mul]; exact Nat.mul_le_mul_right _ hlt
       omega
      ·have : i' * sz + sz ≤ k * sz := by rw [← Nat.succ_mul]; exact Nat.mul_le_mul_right _ hlt
       omega
     rw [if_neg hne];exact ⟨q, q1, q2.ext a1.wf e1⟩
   ·simp only [Bool.false_eq_true, if_false];exact ⟨ho.1, by simpa [freeB, seg_size] using ho.2⟩
  refine ⟨(), _, G1, ?_, trivial, a1.putArr e1 e2 e3 hl hlen2 hn, a2.trans e1, ?_⟩
  ·rw [hrun, ← k2];exact run_storeCells_at' hh hin ho.2 hvone
  ·intro m hm;exact .inl ((a3 m).1 hm)
 | _ => cases h
theorem size_alloc (w : World) (o : Go.Obj) : (w.alloc o).heap.size = w.heap.size + 1 := by show (w.heap.push o).size = _; simp
theorem Ext.alloc {w : World} {G G' : Gh} {o : Go.Obj} (hst : ∀ b, G.St b → G'.St b) (hlt : ∀ b, G.Lt b → G'.Lt b) (hd : ∀ l, G.dom l → G'.dom l ∧ G'.addr l = G.addr l ∧ G'.cap l = G.cap l ∧ G'.esz l = G.esz l)
  (hown : ∀ b, b < w.heap.size → G'.own b = G.own b) (hs : ∀ b, b < w.heap.size → G'.St b → G.St b) (hl : ∀ b, b < w.heap.size → G'.Lt b → G.Lt b) (hwf : G.Wf w) :
  Ext w G (w.alloc o) G' ∧ Keep w G (w.alloc o) G' (fun _ => False) := by
 have hold : ∀ b, b < w.heap.size → (w.alloc o).heap[b]? = w.heap[b]? := fun b hb => Below.heap_alloc w o b hb;refine ⟨⟨by rw [size_alloc]; omega, rfl, rfl, rfl, fun b hb _ _ => hold b hb, ?_, hst, hlt, hd, fun b hb h => by rw [hown b hb]; exact h, fun b hb h => .inl (hs b hb h), hl⟩, ?_⟩
 ·intro b hb c e f hh; exact ⟨f, by rw [hold b (hwf.st b (hwf.lt b hb))]; exact hh⟩
 ·intro b l hb _;have := (hwf.own b l hb).1;exact ⟨hold b this, by rw [hown b this]; exact hb⟩
theorem heap_alloc_at (w : World) (o : Go.Obj) : (w.alloc o).heap[w.heap.size]? = some o := by show (w.heap.push o)[w.heap.size]? = _; simp
def gnew (G : Gh) (l : Loc) (b cap sz : Nat) : Gh :=
 {addr := fun k => if k = l then (b, 0) else G.addr k, cap := fun k => if k = l then cap else G.cap k, esz := fun k => if k = l then sz else G.esz k,
  dom := fun k => k = l ∨ G.dom k, own := fun k => if k = b then some l else G.own k, St := G.St, Lt := G.Lt }
theorem gnew_ext (hwf : G.Wf w) {l : Loc} (hf : ¬ G.dom l) {cap sz : Nat} (hc : cap ≤ 9223372036854775807) (o : Go.Obj) :
  Ext w G (w.alloc o) (gnew G l w.heap.size cap sz) ∧ Keep w G (w.alloc o) (gnew G l w.heap.size cap sz) (fun _ => False) ∧ (gnew G l w.heap.size cap sz).Wf (w.alloc o) := by
 have hne : ∀ k, G.dom k → k ≠ l := fun k hk e => hf (e ▸ hk);obtain ⟨h1, h2⟩ := Ext.alloc (o := o) (w := w) (G := G) (G' := gnew G l w.heap.size cap sz) (fun _ h => h) (fun _ h => h)
  (fun k hk => by have := hne k hk; simp only [gnew]; exact ⟨.inr hk, if_neg this, if_neg this, if_neg this⟩)
  (fun b hb => by simp only [gnew]; rw [if_neg (by omega)]) (fun _ _ h => h) (fun _ _ h => h) hwf
 refine ⟨h1, h2, ?_, ?_, hwf.lt, ?_⟩
 ·intro b k hk;simp only [gnew] at hk;split at hk
  ·rename_i hb; subst hb;exact ⟨by rw [size_alloc]; omega, fun h => absurd (hwf.st _ h) (by omega)⟩
  ·have := hwf.own b k hk;exact ⟨by rw [size_alloc]; omega, this.2⟩
 ·intro b hb; have := hwf.st b hb; rw [size_alloc]; omega
 ·intro k; simp only [gnew]; split
  ·exact hc
  ·exact hwf.max k
theorem Rel.new (hr : Rel w G S) {o : Go.Obj} {G' : Gh} {ob : Obj} (h1 : Ext w G (w.alloc o) G') (h2 : Keep w G (w.alloc o) G' (fun _ => False)) (h3 : G'.Wf (w.alloc o))
  (hn : ObjRel (w.alloc o) G' S.next ob) : Rel (w.alloc o) G' (S.alloc ob) := by
 refine ⟨h3, fun id => ?_⟩;simp only [St.alloc];split
 ·rename_i h; subst h; exact hn
 ·exact (hr.obj id).keep hr.wf h1 h2 (fun _ _ h => h)
end Go.VM
end
section
namespace Go.VM
open Go.RowKit
variable {w w' w1 w2 : World} {G G' G1 G2 : Gh} {S S' S1 S2 : St} {P : Program}
theorem const_rel {v : Value} (h : known (ofConst v) = true) (w : World) (G : Gh) : LVRel w G (ofConst v) v ∧ v.oneCell' = true := by
 revert h
 unfold ofConst;split <;> intro h
 case h_8 => simp [known] at h
 ·exact ⟨.d _ _ (.int _ _), rfl⟩
 ·exact ⟨.d _ _ (.bool _), rfl⟩
 ·rename_i s;by_cases hs : s.size ≤ 9223372036854775807
  ·rw [if_pos hs]; exact ⟨.d _ _ (.str s hs), rfl⟩
  ·rw [if_neg hs] at h; simp [known] at h
 ·exact ⟨.lit [] none (.empty none 0 (by omega)) (fun p hp => by cases hp) (fun _ => rfl), rfl⟩
 ·exact ⟨.d _ _ .nilP, rfl⟩
 ·exact ⟨.d _ _ .nilM, rfl⟩
 ·exact ⟨.d _ _ .nilF, rfl⟩
theorem zero_cells {t : TypeId} {z : List LV} (h : zeroCells P t = some z) : ∃ i zv, P.info? t = some i ∧ i.zero = some zv ∧ z = zv.cells.toList.map ofConst ∧
  ∀ (k : Nat) (c : LV) (v : Value), z[k]? = some c → zv.cells[k]? = some v → known (ofConst v) = true ∧ c = ofConst v := by
 unfold zeroCells at h
 cases hi : P.info? t with
 | none => simp [hi] at h
 | some i =>
  cases hz : i.zero with
  | none => simp [hi, hz] at h
  | some zv =>
   simp only [hi, Option.bind_some, hz] at h;split at h
   ·rename_i hk
    cases h
    refine ⟨i, zv, rfl, hz, rfl, fun k c v h1 h2 => ?_⟩;rw [List.getElem?_map, Array.getElem?_toList, h2] at h1
    cases h1
    refine ⟨?_, rfl⟩;rw [List.all_eq_true] at hk;exact hk _ (List.mem_map.2 ⟨v, by simpa using Array.mem_of_getElem? h2, rfl⟩)
   ·cases h
theorem freeB_new (c : Array Value) : freeB c (0, 0) := fun k _ => by omega
theorem alloc_sim (hr : Rel w G S) {t : TypeId} {v : Value} : Sim P w G S (Instr.alloc t true v) (allocT P t) (fun w' G' lv x => LVRel w' G' lv x) := by
 intro lv S' h hf;unfold allocT at h
 cases hz : zeroCells P t with
 | none => rw [hz] at h; cases h
 | some z =>
  rw [hz] at h
  cases h
  obtain ⟨i, zv, hi, hzv, rfl, hzc⟩ := zero_cells hz;have hfr : ¬ G.dom (.arr S.next) := hf (.arr S.next) ⟨Nat.le_refl _, by simp [St.alloc]⟩
  obtain ⟨e1, e2, e3⟩ := gnew_ext (cap := 0) (sz := 0) hr.wf hfr (by omega) (.cells zv.cells t)
  refine ⟨.pointer (some ⟨w.heap.size, 0, none⟩), w.alloc (.cells zv.cells t), _, ?_, ?_, hr.new e1 e2 e3 ?_, e1, ?_⟩
  ·simp [Instr.alloc, zeroValue, typeInfo, hi, hzv, newVar, newRow]
  ·have := LVRel.ptr (w := w.alloc (.cells zv.cells t)) (G := gnew G (.arr S.next) w.heap.size 0 0) S.next 0 (.inl rfl);simpa [gnew] using this
  ·refine ⟨.inl rfl, by simp [gnew], zv.cells, t, (0, 0), by simpa [gnew] using heap_alloc_at w _, by simp, freeB_new _, ?_, ?_⟩
   ·intro k v hv;have := hzc k (ofConst v) v (by simp [hv]) hv
    exact (const_rel this.1 w G).2
   ·intro k c v hc hv;obtain ⟨h1, rfl⟩ := hzc k c v hc hv;have := (const_rel h1 (w.alloc (.cells zv.cells t)) (gnew G (.arr S.next) w.heap.size 0 0)).1
    revert this h1
    cases ofConst v <;> intro h1 this <;> first | exact this | (simp [known] at h1; done) | (cases this)
  ·intro k hk;rcases hk with rfl | hk
   ·exact .inr ⟨Nat.le_refl _, by simp [St.alloc]⟩
   ·exact .inl hk
theorem setCell_same {b o : Nat} {v : Value} (h : w.cell? ⟨b, o, none⟩ = some v) : w.setCell ⟨b, o, none⟩ v = w := by
 obtain ⟨c, e, f, hh, hc⟩ := cell_of_some h;have : (w.setCell ⟨b, o, none⟩ v).heap = w.heap := by
  apply Array.ext
  ·exact size_setCell _ _ _
  ·intro i h1 h2;have e1 := Array.getElem?_eq_getElem h1;have e2 := Array.getElem?_eq_getElem h2;by_cases hi : i = b
   ·subst hi;rw [heap_setCell_at hh] at e1;rw [hh] at e2;rw [← Option.some.inj e1, ← Option.some.inj e2];congr 1
    apply Array.ext
    ·simp
    ·intro j g1 g2;rw [Array.getElem_setIfInBounds];split
     ·rename_i hj;subst hj;have := Array.getElem?_eq_getElem g2;rw [hc] at this; exact Option.some.inj this
     ·rfl
   ·rw [heap_setCell_ne hi, e2] at e1;exact (Option.some.inj e1).symm
 calc w.setCell ⟨b, o, none⟩ v = { w with heap := (w.setCell ⟨b, o, none⟩ v).heap } := rfl
  _ = w := by rw [this]
theorem setCells_same (vs : List Value) : ∀ {w : World} {b o : Nat}, (∀ (j : Nat) (v : Value), vs[j]? = some v → w.cell? ⟨b, o + j, none⟩ = some v) → w.setCells b o vs = w := by
 induction vs with
 | nil => intro w b o _; rfl
 | cons v vs ih =>
  intro w b o h;show (w.setCell ⟨b, o, none⟩ v).setCells b (o + 1) vs = w;rw [setCell_same (by simpa using h 0 v rfl)]
  exact ih (fun j x hj => by have := h (j + 1) x (by simpa using hj); rw [← this]; congr 2; omega)
theorem box_sim (hr : Rel w G S) {t : TypeId} {lv : LV} {v : Value} (hv : LVRel w G lv v) : Sim P w G S (Instr.box t v) (boxT lv) (fun w' G' lv x => LVRel w' G' lv x) := by
 intro out S' h hf;unfold boxT at h;have h' : ((storeCellsT S.next 0 lv.cells).bind fun _ => T.ret (.ptr S.next 0)).run (S.alloc (.cells (List.replicate lv.cells.length .un))) = .ok (out, S') := h;obtain ⟨u, S1, h1, h2⟩ := T.bind_ok h';have g1 := T.grow _ h1;obtain ⟨rfl, rfl⟩ : LV.ptr S.next 0 = out ∧ S1 = S' := by cases h2; exact ⟨rfl, rfl⟩
 have hok : lv.okc := by
  cases lv <;> first | trivial | skip
  all_goals (simp [LV.cells, storeCellsT, storeCellT, stow, T.bind, T.run] at h1)
 obtain ⟨hlen, hcells⟩ := cells_rel hv hok;have hfr : ¬ G.dom (.arr S.next) := hf (.arr S.next) ⟨Nat.le_refl _, by simp [St.alloc] at g1; omega⟩
 obtain ⟨e1, e2, e3⟩ := gnew_ext (cap := 0) (sz := 0) hr.wf hfr (by omega) (.cells v.cells t)
 have hone : ∀ (k : Nat) (x : Value), v.cells[k]? = some x → x.oneCell' = true := by
  intro k x hx;have hlt : k < v.cells.size := (Array.getElem?_eq_some_iff.1 hx).1;exact (hcells k _ x (List.getElem?_eq_getElem (by omega)) hx).2
 have hr1 := hr.new (ob := .cells (List.replicate lv.cells.length .un)) e1 e2 e3 ⟨.inl rfl, by simp [gnew], v.cells, t, (0, 0), by simpa [gnew] using heap_alloc_at w _, by simp [hlen], freeB_new _, hone, by
  intro k c x hc hx;rw [List.getElem?_replicate] at hc;split at hc
  ·cases hc; exact .un x
  ·cases hc⟩
 have hs := storeCells_sim (P := P) (id := S.next) lv.cells v.cells.toList 0 0 hr1 (by simpa using hlen) (fun k c x a b => by
  obtain ⟨h3, h4⟩ := hcells k c x a (by simpa using b)
  exact ⟨h3.ext hr.wf e1, h4⟩) (.inl rfl)
 have hd0 : DomLe G (gnew G (.arr S.next) w.heap.size 0 0) S (S.alloc (.cells (List.replicate lv.cells.length .un))) := by
  intro k hk;rcases hk with rfl | hk
  ·exact .inr ⟨Nat.le_refl _, by simp [St.alloc]⟩
  ·exact .inl hk
 have g0 : S.next ≤ (S.alloc (.cells (List.replicate lv.cells.length .un))).next ∧ S.clk ≤ (S.alloc (.cells (List.replicate lv.cells.length .un))).clk := ⟨by simp [St.alloc], Nat.le_refl _⟩
 obtain ⟨a, w2, G2, r1, r2, r3, r4, r5⟩ := hs u S1 (by simpa using h1) (hf.right hd0 g0)
 have haddr : (gnew G (.arr S.next) w.heap.size 0 0).addr (.arr S.next) = (w.heap.size, 0) := by simp [gnew]
 rw [haddr] at r2;have hsame : w2 = w.alloc (.cells v.cells t) := by
  rw [r2];exact setCells_same _ (fun j x hj => by rw [cell_of (heap_alloc_at w _)]; simpa using hj)
 subst hsame;refine ⟨.pointer (some ⟨w.heap.size, 0, none⟩), _, G2, ?_, ?_, r3, e1.trans r4, hd0.trans r5 g0 g1⟩
 ·simp [Instr.box, newVar, newRow]
 ·obtain ⟨k1, k2, k3, k4⟩ := r4.dom (.arr S.next) (.inl rfl);have := LVRel.ptr (w := w.alloc (.cells v.cells t)) (G := G2) S.next 0 k1;rw [k2, haddr] at this;exact this
theorem dsOf_get : ∀ (l : List LV) {ds : List D}, dsOf? l = some ds → ds.length = l.length ∧ ∀ (k : Nat) (c : LV) (d : D), l[k]? = some c → ds[k]? = some d → dOf? c = some d := by
 intro l
 induction l with
 | nil => intro ds h; cases h; exact ⟨rfl, fun k c d h => by simp at h⟩
 | cons c cs ih =>
  intro ds h;simp only [dsOf?] at h
  cases h1 : dOf? c with
  | none => simp [h1] at h
  | some d =>
   cases h2 : dsOf? cs with
   | none => simp [h1, h2] at h
   | some ds' =>
    simp [h1, h2] at h;subst h;obtain ⟨a, b⟩ := ih h2;refine ⟨by simp [a], fun k c' d' e1 e2 => ?_⟩
    cases k with
    | zero => simp at e1 e2; subst e1 e2; exact h1
    | succ k => exact b k c' d' (by simpa using e1) (by simpa using e2)
theorem zeroD_rel {t : TypeId} {z : D} (h : zeroD P t = some z) : ∃ i zv, P.info? t = some i ∧ i.zero = some zv ∧ z.cells.length = zv.cells.size ∧ (∀ d ∈ z.cells, d.one = true) ∧
  ∀ (k : Nat) (d : D) (v : Value), z.cells[k]? = some d → zv.cells[k]? = some v → ∀ (w : World) (St : Nat → Prop), Rep w St d v ∧ v.oneCell' = true := by
 unfold zeroD at h
 cases hz : zeroCells P t with
 | none => simp [hz] at h
 | some zc =>
  obtain ⟨i, zv, hi, hzv, rfl, hzc⟩ := zero_cells hz;have key : ∀ (c : LV) (v : Value) (d : D), known (ofConst v) = true → c = ofConst v → dOf? c = some d → (∀ (w : World) (St : Nat → Prop), Rep w St d v ∧ v.oneCell' = true) ∧ d.one = true := by
   intro c v d hk hc hd;subst hc;have h1 : ∀ (w : World) (St : Nat → Prop), Rep w St d v ∧ v.oneCell' = true := by
    intro w St;obtain ⟨h2, h3⟩ := const_rel hk w ⟨fun _ => (0, 0), fun _ => 0, fun _ => 0, fun _ => False, fun _ => none, St, fun _ => False⟩;refine ⟨?_, h3⟩
    revert h2 hd
    cases ofConst v <;> intro hd h2 <;> simp [dOf?] at hd
    ·subst hd; cases h2; assumption
    ·subst hd; cases h2; assumption
   exact ⟨h1, (h1 (default : World) (fun _ => False)).1.one' (h1 (default : World) (fun _ => False)).2⟩
  rw [hz] at h
  cases hag : tyAgg P t with
  | none => simp [hag] at h
  | some b =>
   rw [hag] at h
   cases b with
   | true =>
    simp only at h
    cases hm : dsOf? (zv.cells.toList.map ofConst) with
    | none => simp [hm] at h
    | some ds =>
     simp [hm] at h;subst h;obtain ⟨hlen', hget'⟩ := dsOf_get _ hm;have hlen : ds.length = zv.cells.size := by simpa using hlen'
     have hget : ∀ (k : Nat) (d : D) (v : Value), ds[k]? = some d → zv.cells[k]? = some v → dOf? (ofConst v) = some d := by
      intro k d v h1 h2;exact hget' k _ d (by simp [h2]) h1
     refine ⟨i, zv, hi, hzv, hlen, ?_, ?_⟩
     ·intro d hd;obtain ⟨k, hk⟩ := List.getElem?_of_mem hd;have hlt : k < zv.cells.size := by have := (List.getElem?_eq_some_iff.1 hk).1; simp only [D.cells] at this; omega
      have hv : zv.cells[k]? = some zv.cells[k] := Array.getElem?_eq_getElem hlt;have := hzc k _ _ (by simp [hv]; rfl) hv
      exact (key _ _ d this.1 rfl (hget k d _ hk hv)).2
     ·intro k d v h1 h2;have := hzc k (ofConst v) v (by simp [h2]) h2
      exact (key _ v d this.1 rfl (hget k d v h1 h2)).1
   | false =>
    cases hzl : zv.cells.toList with
    | nil => simp [hzl] at h
    | cons v0 vs =>
     cases vs with
     | cons v1 vs => simp [hzl] at h
     | nil =>
      simp [hzl] at h;have hc : zv.cells = #[v0] := by apply Array.ext'; simpa using hzl
      have := hzc 0 (ofConst v0) v0 (by simp [hzl]) (by simp [hc])
      obtain ⟨k1, k2⟩ := key _ v0 z this.1 rfl h;have hz1 := D.cells_one k2;refine ⟨i, zv, hi, hzv, by simp [hz1, hc], by rw [hz1]; simpa using k2, ?_⟩
      intro k d v h1 h2;rw [hz1] at h1; rw [hc] at h2
      cases k with
      | zero => simp at h1 h2; subst h1 h2; exact k1
      | succ k => simp at h1
end Go.VM
end
section
namespace Go.VM
open Go.RowKit
variable {w w' w1 w2 : World} {G G' G1 G2 : Gh} {S S' S1 S2 : St} {P : Program}
def RowIs (w : World) (St : Nat → Prop) (c : Array Value) (o sz : Nat) (xs : List D) : Prop :=
 ∀ (i j : Nat) (x d : D), xs[i]? = some x → x.cells[j]? = some d → ∃ v, c[o + i * sz + j]? = some v ∧ Rep w St d v
theorem new_arr' (hr : Rel w G S) {c : Array Value} {e : TypeId} {cap sz : Nat} {xs : List D} (hf : ¬ G.dom (.arr S.next)) (hcap : cap ≤ 9223372036854775807)
  (hz : ∀ x ∈ xs, x.cells.length = sz) (ho : ∀ x ∈ xs, ∀ d ∈ x.cells, d.one = true) (hlen : xs.length ≤ cap) (hsz : cap * sz ≤ c.size) (hrow : RowIs w G.St c 0 sz xs) {w0 : World}
  (hw0 : w0.heap = w.heap ∧ w0.os = w.os ∧ w0.tape = w.tape ∧ w0.output = w.output) :
  ∃ G', Rel (w0.alloc (.cells c e)) G' (S.alloc (.arr sz xs false)) ∧ Ext w G (w0.alloc (.cells c e)) G' ∧ DomLe G G' S (S.alloc (.arr sz xs false)) ∧
   LVRel (w0.alloc (.cells c e)) G' (.ar (.arr S.next) sz 0 xs.length) (.slice (some ⟨w.heap.size, 0, none⟩) xs.length cap) ∧
   G'.addr (.arr S.next) = (w.heap.size, 0) ∧ G'.own w.heap.size = some (.arr S.next) := by
 obtain ⟨h0, h1, h2, h3⟩ := hw0;have hr0 : Rel w0 G S := by
  have he : Ext w G w0 G := ⟨by rw [h0]; exact Nat.le_refl _, h1, h2, h3, fun b _ _ _ => by rw [h0], fun b _ c e f hh => ⟨f, by rw [h0]; exact hh⟩, fun _ h => h, fun _ h => h, fun _ h => ⟨h, rfl, rfl, rfl⟩, fun _ _ h => h, fun _ _ h => .inl h, fun _ _ h => h⟩
  exact ⟨⟨fun b l h => by rw [h0]; exact hr.wf.own b l h, fun b h => by rw [h0]; exact hr.wf.st b h, hr.wf.lt, hr.wf.max⟩,
   fun id => (hr.obj id).keep hr.wf he (X := fun _ => False) (fun b l h _ => ⟨by rw [h0], h⟩) (fun _ _ h => h)⟩
 have he0 : Ext w G w0 G := ⟨by rw [h0]; exact Nat.le_refl _, h1, h2, h3, fun b _ _ _ => by rw [h0], fun b _ c e f hh => ⟨f, by rw [h0]; exact hh⟩, fun _ h => h, fun _ h => h, fun _ h => ⟨h, rfl, rfl, rfl⟩, fun _ _ h => h, fun _ _ h => .inl h, fun _ _ h => h⟩
 obtain ⟨e1, e2, e3⟩ := gnew_ext (cap := cap) (sz := sz) hr0.wf hf hcap (.cells c e);have hs : w0.heap.size = w.heap.size := by rw [h0]
 refine ⟨_, hr0.new e1 e2 e3 ?_, he0.trans e1, ?_, ?_, by simp [gnew, hs], by simp [gnew, hs]⟩
 ·refine ⟨.inl rfl, by simp [gnew], hz, ho, by simpa [gnew] using hlen, fun _ => ⟨c, e, (0, 0), by simpa [gnew] using heap_alloc_at w0 _, by simpa [gnew] using hsz, ?_, by simpa [gnew] using freeB_new c⟩⟩
  intro i j x d a b;obtain ⟨v, h4, h5⟩ := hrow i j x d a b;exact ⟨v, by simpa [gnew] using h4, (h5.ext hr.wf (he0.trans e1))⟩
 ·intro k hk;rcases hk with rfl | hk
  ·exact .inr ⟨Nat.le_refl _, by simp [St.alloc]⟩
  ·exact .inl hk
 ·refine .ar _ _ _ _ _ _ (.inl rfl) (by simp [gnew]) (by simp [gnew]) hlen (fun _ => ?_)
  simp [gnew, hs]
theorem new_arr (hr : Rel w G S) {c : Array Value} {e : TypeId} {cap sz : Nat} {xs : List D} (hf : ¬ G.dom (.arr S.next)) (hcap : cap ≤ 9223372036854775807)
  (hz : ∀ x ∈ xs, x.cells.length = sz) (ho : ∀ x ∈ xs, ∀ d ∈ x.cells, d.one = true) (hlen : xs.length ≤ cap) (hsz : cap * sz ≤ c.size) (hrow : RowIs w G.St c 0 sz xs) {w0 : World}
  (hw0 : w0.heap = w.heap ∧ w0.os = w.os ∧ w0.tape = w.tape ∧ w0.output = w.output) :
  ∃ G', Rel (w0.alloc (.cells c e)) G' (S.alloc (.arr sz xs false)) ∧ Ext w G (w0.alloc (.cells c e)) G' ∧ DomLe G G' S (S.alloc (.arr sz xs false)) ∧
   LVRel (w0.alloc (.cells c e)) G' (.ar (.arr S.next) sz 0 xs.length) (.slice (some ⟨w.heap.size, 0, none⟩) xs.length cap) := by
 obtain ⟨G', r1, r2, r3, r4, _, _⟩ := new_arr' hr hf hcap hz ho hlen hsz hrow hw0;exact ⟨G', r1, r2, r3, r4⟩
theorem makeSlice_sim (hr : Rel w G S) {t : TypeId} {n c : LV} {nv cv : Value} (hn : LVRel w G n nv) (hc : LVRel w G c cv) :
  Sim P w G S (Instr.makeSlice t nv cv) (makeSliceT P t n c) (fun w' G' lv x => LVRel w' G' lv x) := by
 intro lv S' h hf;unfold makeSliceT at h;split at h
 case h_2 => cases h
 rename_i e es k n' k' c' he
 cases hn with | d _ _ hn => cases hn with | int _ _ =>
 cases hc with | d _ _ hc => cases hc with | int _ _ =>
 obtain ⟨hu, i, hi, hes⟩ := elem_under he
 cases hz : zeroD P e with
 | none => rw [hz] at h; cases h
 | some z =>
  rw [hz] at h;simp only at h;split at h
  case isFalse => cases h
  rename_i hcond;obtain ⟨c1, c2, c3, c4, c5⟩ := hcond;obtain ⟨i2, zv, hi2, hzv, hzl, hzo, hzc⟩ := zeroD_rel hz;rw [hi] at hi2; cases hi2;obtain ⟨rfl, rfl⟩ : LV.ar (.arr S.next) es 0 n'.toNat = lv ∧ S.alloc (.arr es (List.replicate n'.toNat z) false) = S' := by cases h; exact ⟨rfl, rfl⟩
  have hby : tyBytes P e = i.bytes := by simp [tyBytes, hi]
  have hfr : ¬ G.dom (.arr S.next) := hf (.arr S.next) ⟨Nat.le_refl _, by simp [St.alloc]⟩
  have hes' : zv.cells.size = es := by omega
  let cells : Array Value := (Array.range (c'.toNat * es)).map (zv.cells[· % zv.cells.size]!)
  have hcs : cells.size = c'.toNat * es := by simp [cells]
  obtain ⟨G', r1, r2, r3, r4⟩ := new_arr (cap := c'.toNat) (sz := es) (xs := List.replicate n'.toNat z) (c := cells) (e := e) hr hfr (by omega)
   (fun x hx => by rw [List.eq_of_mem_replicate hx]; exact c5) (fun x hx => by rw [List.eq_of_mem_replicate hx]; exact hzo) (by simp; omega) (by rw [hcs]; exact Nat.le_refl _)
   (by
    intro a b x d ha hb;rw [List.getElem?_replicate] at ha;split at ha
    case isFalse => cases ha
    cases ha
    have hbl : b < es := by have := (List.getElem?_eq_some_iff.1 hb).1; omega
    have hv : zv.cells[b]? = some (zv.cells[b]'(by omega)) := Array.getElem?_eq_getElem (by omega)
    refine ⟨zv.cells[b]'(by omega), ?_, (hzc b d _ hb hv w G.St).1⟩
    have hlt : 0 + a * es + b < c'.toNat * es := by
     have : a * es + es ≤ c'.toNat * es := by rw [← Nat.succ_mul]; exact Nat.mul_le_mul_right _ (by omega)
     omega
    simp only [cells, Array.getElem?_map, Array.getElem?_range, hlt, if_true, Option.map_some];have hm : (0 + a * es + b) % zv.cells.size = b := by rw [hes', Nat.zero_add, Nat.mul_comm, Nat.mul_add_mod]; exact Nat.mod_eq_of_lt hbl
    have hg : zv.cells[b]! = zv.cells[b]'(by omega) := getElem!_pos zv.cells b (by omega)
    rw [← hg];exact congrArg (fun q => some zv.cells[q]!) hm) ⟨rfl, rfl, rfl, rfl⟩
  refine ⟨.slice (some ⟨w.heap.size, 0, none⟩) n'.toNat c'.toNat, _, G', ?_, by simpa using r4, r1, r2, r3⟩
  have w1 : IntKind.i64.wrap n' = n' := IntWalk.i64_in _ (by omega)
  have w2 : IntKind.i64.wrap c' = c' := IntWalk.i64_in _ (by omega)
  have b1 : ¬ (c' < 0) := by omega
  have b2 : ¬ (n' < 0) := by omega
  have b3 : ¬ (c' < n') := by omega
  have b4 : ¬ (281474976710656 < (i.bytes : Int) * c') := by rw [Int.mul_comm, ← hby]; omega
  simp only [Instr.makeSlice, Sem.run_bind, run_underlying hu, Result.andThen_ok, asInt, asIntOf, Sem.run_pure, run_typeInfo hi, w1, w2];have har : (askRoom (c'.toNat * i.bytes)).run P w = .ok () w := by unfold askRoom; split <;> simp [mark, Sem.run]
  simp [b1, b2, b3, b4, har, sizeOf, typeInfo, hi, zeroValue, hzv, newRow];have key : ∀ (f g : Nat → Value) (n : Nat), n = 0 → (Array.range n).map f = (Array.range n).map g := by intro f g n hn; subst hn; simp
  split
  ·rename_i h0;rw [← hes] at h0 ⊢;rw [key (fun _ => default) (fun x => zv.cells[x % zv.cells.size]!) _ h0]
  ·simp [cells, hes]
theorem fill_step {place : Nat → Option (Nat × Nat)} {cells : Array Value} {i off sz : Nat} {v : Value} {rest : List (Nat × Value)} (h : place i = some (off, sz)) (h1 : v.cells.size = sz) (h2 : off + sz ≤ cells.size) :
  Instr.fill place cells ((i, v) :: rest) = Instr.fill place (seg cells off v.cells.toList) rest := by
 have key : ∀ (l : List Value) (k : Nat) (cs : Array Value), (l.zipIdx k).foldl (fun cs (p : Value × Nat) => cs.setIfInBounds (off + p.2) p.1) cs = seg cs (off + k) l := by
  intro l
  induction l with
  | nil => intro k cs; rfl
  | cons a l ih => intro k cs; simp only [List.zipIdx_cons, List.foldl_cons, seg]; rw [ih]; rfl
 simp only [Instr.fill, h];rw [if_neg (by simp [h1]; omega)]
 congr 1;rw [← Array.foldl_toList];have := key v.cells.toList 0 cells;simp only [Nat.add_zero] at this;rw [← this, Array.toList_zipIdx]
theorem fill_row {sz : Nat} : ∀ (vs : List Value) (k : Nat) (cells : Array Value), (∀ v ∈ vs, v.cells.size = sz) → (k + vs.length) * sz ≤ cells.size →
  ∃ out, Instr.fill (fun i => some (i * sz, sz)) cells ((List.range' k vs.length).zip vs) = some out ∧ out.size = cells.size ∧
   (∀ (i j : Nat) (v c : Value), vs[i]? = some v → v.cells[j]? = some c → out[(k + i) * sz + j]? = some c) ∧ (∀ q, q < k * sz → out[q]? = cells[q]?) := by
 intro vs
 induction vs with
 | nil => intro k cells _ _; exact ⟨cells, rfl, rfl, fun i j v c h => by simp at h, fun _ _ => rfl⟩
 | cons v vs ih =>
  intro k cells h1 h2;have hv := h1 v (by simp)
  have hk : k * sz + sz ≤ cells.size := by
   have : (k + 1) * sz ≤ (k + (v :: vs).length) * sz := Nat.mul_le_mul_right _ (by simp)
   rw [Nat.succ_mul] at this; omega
  obtain ⟨out, o1, o2, o3, o4⟩ := ih (k + 1) (seg cells (k * sz) v.cells.toList) (fun x hx => h1 x (by simp [hx])) (by
   rw [seg_size, show k + 1 + vs.length = k + (v :: vs).length from by simp only [List.length_cons]; omega]; exact h2)
  refine ⟨out, ?_, by rw [o2, seg_size], ?_, ?_⟩
  ·simp only [List.length_cons, List.range'_succ, List.zip_cons_cons];rw [fill_step rfl hv hk]; exact o1
  ·intro i j x c e1 e2
   cases i with
   | zero =>
    simp at e1; subst e1;have hj : j < sz := by have := (Array.getElem?_eq_some_iff.1 e2).1; omega
    rw [o4 _ (by simp only [Nat.add_zero]; rw [Nat.succ_mul]; omega), seg_get, if_pos (by simp; omega)]
    rw [show (k + 0) * sz + j - k * sz = j from by simp]
    simpa using e2
   | succ i =>
    have := o3 i j x c (by simpa using e1) e2
    rw [show k + (i + 1) = k + 1 + i from by omega]; exact this
  ·intro q hq;rw [o4 q (by rw [Nat.succ_mul]; omega), seg_get, if_neg (by omega)]
theorem Rep.cellsRel {St : Nat → Prop} {x : D} {v : Value} (h : Rep w St x v) : x.cells.length = v.cells.size ∧ (∀ d ∈ x.cells, d.one = true) ∧
  ∀ (j : Nat) (d : D) (c : Value), x.cells[j]? = some d → v.cells[j]? = some c → Rep w St d c := by
 have single : x.one = true → v.cells = #[v] → x.cells.length = v.cells.size ∧ (∀ d ∈ x.cells, d.one = true) ∧
   ∀ (j : Nat) (d : D) (c : Value), x.cells[j]? = some d → v.cells[j]? = some c → Rep w St d c := by
  intro h1 h2;rw [D.cells_one h1, h2];refine ⟨rfl, by simpa using h1, fun j d c a b => ?_⟩
  cases j with
  | zero => simp at a b; subst a b; exact h
  | succ j => simp at a
 by_cases h1 : x.one = true
 ·exact single h1 (cells_of_one (h.one h1))
 ·cases h with
  | agg ds cs hl ho hh => exact ⟨hl, ho, hh⟩
  | _ => exact absurd rfl h1
theorem mapL_snd : ∀ (ps : List (Nat × LV)), T.mapL (fun p : Nat × LV => toD p.2) ps = T.mapL toD (ps.map (·.2)) := by
 intro ps
 induction ps with
 | nil => rfl
 | cons p ps ih => simp only [T.mapL, List.map_cons, ih]
def gst (G : Gh) (b : Nat) : Gh := { G with St := fun k => k = b ∨ G.St k, Lt := fun k => k = b ∨ G.Lt k }
theorem gst_ext (hwf : G.Wf w) (o : Go.Obj) : Ext w G (w.alloc o) (gst G w.heap.size) ∧ Keep w G (w.alloc o) (gst G w.heap.size) (fun _ => False) ∧ (gst G w.heap.size).Wf (w.alloc o) := by
 obtain ⟨h1, h2⟩ := Ext.alloc (o := o) (w := w) (G := G) (G' := gst G w.heap.size) (fun _ h => .inr h) (fun _ h => .inr h) (fun k hk => ⟨hk, rfl, rfl, rfl⟩) (fun b hb => rfl)
  (fun b hb h => h.elim (fun e => absurd e (by omega)) id) (fun b hb h => h.elim (fun e => absurd e (by omega)) id) hwf
 refine ⟨h1, h2, ?_, ?_, ?_, hwf.max⟩
 ·intro b l hb;have := hwf.own b l hb;exact ⟨by rw [size_alloc]; omega, fun h => h.elim (fun e => by omega) this.2⟩
 ·intro b hb; rw [size_alloc]; rcases hb with rfl | hb
  ·omega
  ·have := hwf.st b hb; omega
 ·intro b hb; rcases hb with rfl | hb
  ·exact .inl rfl
  ·exact .inr (hwf.lt b hb)
theorem zip_range {α : Type} : ∀ (l : List (Nat × α)) (k : Nat), l.map (·.1) = List.range' k l.length → l = (List.range' k (l.map (·.2)).length).zip (l.map (·.2)) := by
 intro l
 induction l with
 | nil => intro k _; rfl
 | cons p l ih =>
  intro k h;simp only [List.map_cons, List.length_cons, List.range'_succ, List.cons.injEq] at h;have := ih (k + 1) h.2;simp only [List.map_cons, List.length_cons, List.range'_succ, List.zip_cons_cons];rw [← this, ← h.1]
theorem buildSlice_sim (hr : Rel w G S) {t : TypeId} {n : Nat} {ps : List (Nat × LV)} {vps : Array (Nat × Value)} (hl : ps.length = vps.size)
  (hp : ∀ (k : Nat) (p : Nat × LV) (q : Nat × Value), ps[k]? = some p → vps[k]? = some q → p.1 = q.1 ∧ LVRel w G p.2 q.2) :
  Sim P w G S (Instr.buildSlice t n vps) (buildSliceT P t n ps) (fun w' G' lv x => LVRel w' G' lv x) := by
 intro lv S' h hf;unfold buildSliceT at h;split at h
 case h_2 => cases h
 rename_i e es he;obtain ⟨hu, i, hi, hes⟩ := elem_under he;split at h
 case isFalse => cases h
 rename_i hcond;obtain ⟨c1, c0, c2, c3⟩ := hcond;obtain ⟨xs, S1, h1, h⟩ := T.bind_ok h;rw [mapL_snd] at h1;split at h
 case isFalse => cases h
 rename_i hsz;obtain ⟨rfl, rfl⟩ : LV.lit xs = lv ∧ S1 = S' := by cases h; exact ⟨rfl, rfl⟩
 obtain ⟨z, hz⟩ := Option.isSome_iff_exists.1 c3;obtain ⟨i2, zv, hi2, hzv, _, _⟩ := zero_cells hz;rw [hi] at hi2; cases hi2
 let vs : List Value := vps.toList.map (·.2)
 have hvl : vs.length = ps.length := by simp [vs, hl]
 have hn : ps.length = n := by have := congrArg List.length c1; simpa using this
 obtain ⟨G1, a1, a2, a3, a4, a5, a6, a7⟩ := mapL_ok toD_ok (ps.map (·.2)) vs hr (by simp [hvl]) (fun k c x e1 e2 => by
  simp only [List.getElem?_map, Option.map_eq_some_iff, vs] at e1 e2;obtain ⟨p, p1, rfl⟩ := e1;obtain ⟨q, q1, rfl⟩ := e2;exact (hp k p q p1 (by simpa using q1)).2) h1
 have a4' : xs.length = vs.length := by simpa using a4
 have hvps : vps.toList = (List.range' 0 vs.length).zip vs := by
  have h1 : vps.toList.map (·.1) = List.range' 0 vps.toList.length := by
   have : vps.toList.map (·.1) = ps.map (·.1) := by
    apply List.ext_getElem?
    intro k;simp only [List.getElem?_map];by_cases hk : k < ps.length
    ·have e1 := List.getElem?_eq_getElem hk;have e2 : vps[k]? = some (vps[k]'(by omega)) := Array.getElem?_eq_getElem (by omega)
     rw [e1, Array.getElem?_toList, e2];simp [(hp k _ _ e1 e2).1]
    ·rw [List.getElem?_eq_none (by simp; omega), List.getElem?_eq_none (by omega)]
     rfl
   rw [this, c1, ← List.range_eq_range']; congr 1; simp; omega
  exact zip_range vps.toList 0 h1
 have hvsz : ∀ v ∈ vs, v.cells.size = es := by
  intro v hv;obtain ⟨k, hk⟩ := List.getElem?_of_mem hv;have hlt : k < vs.length := (List.getElem?_eq_some_iff.1 hk).1;have hx : xs[k]? = some (xs[k]'(by omega)) := List.getElem?_eq_getElem (by omega)
  have := (a5 k _ _ hx hk).cellsRel.1;rw [← this]; exact hsz _ (List.getElem_mem _)
 let base : Array Value := (Array.range (n * es)).map ((if n * es = 0 then #[] else zv.cells)[· % (if n * es = 0 then #[] else zv.cells).size]!)
 have hbs : base.size = n * es := by simp [base]
 obtain ⟨out, o1, o2, o3, _⟩ := fill_row (sz := es) vs 0 base hvsz (by rw [hbs, hvl, hn]; simp)
 obtain ⟨e1, e2, e3⟩ := gst_ext (w := w) a1.wf (.cells out e);have hrel : Rel (w.alloc (.cells out e)) (gst G1 w.heap.size) S1 := ⟨e3, fun id => (a1.obj id).keep a1.wf e1 e2 (fun _ _ h => h)⟩;have hxl : xs.length = n := by omega
 refine ⟨.slice (some ⟨w.heap.size, 0, none⟩) n n, _, _, ?_, ?_, hrel, a2.trans e1, fun k hk => .inl ((a3 k).1 hk)⟩
 ·have hfill : Instr.fill (fun i => some (i * es, es)) base vps.toList = some out := by rw [hvps]; exact o1
  simp only [Instr.buildSlice, Sem.run_bind, run_underlying hu, Result.andThen_ok, run_sizeOf hi, ← hes];rw [if_neg (by omega)]
  by_cases h0 : n * es = 0
  ·have hb : base = (Array.range (n * es)).map ((#[] : Array Value)[· % (#[] : Array Value).size]!) := by simp only [base, h0, if_true]
   rw [hb] at hfill;simp only [h0, if_true, Sem.run_pure, Result.andThen_ok, Sem.run_bind] at hfill ⊢;rw [hfill];simp [newRow]
  ·have hb : base = (Array.range (n * es)).map (zv.cells[· % zv.cells.size]!) := by simp only [base, h0, if_false]
   rw [hb] at hfill;simp only [h0, if_false, Sem.run_pure, Result.andThen_ok, Sem.run_bind, zeroValue, run_typeInfo hi, hzv];rw [hfill];simp [newRow]
 ·have hrep : Rep (w.alloc (.cells out e)) (gst G1 w.heap.size).St (.sl xs) (.slice (some ⟨w.heap.size, 0, none⟩) xs.length xs.length) := by
   refine .sl xs _ _ _ es (.inl rfl) (Nat.le_refl _) (by omega) hsz ?_ (fun a b => (out[a * es + b]?).getD .nilFunc) ?_ ?_
   ·intro x hx;obtain ⟨k, hk⟩ := List.getElem?_of_mem hx;have hlt : k < vs.length := by have := (List.getElem?_eq_some_iff.1 hk).1; omega
    exact (a5 k x _ hk (List.getElem?_eq_getElem hlt)).cellsRel.2.1
   all_goals
    intro a b x d g1 g2;have hlt : a < vs.length := by have := (List.getElem?_eq_some_iff.1 g1).1; omega
    have hv := List.getElem?_eq_getElem hlt;obtain ⟨r1, r2, r3⟩ := (a5 a x _ g1 hv).cellsRel;have hb : b < (vs[a]'hlt).cells.size := by have := (List.getElem?_eq_some_iff.1 g2).1; omega
    have hc := Array.getElem?_eq_getElem hb;have ho := o3 a b _ _ hv hc;simp only [Nat.zero_add] at ho;have hd := r3 b d _ g2 hc
   ·rw [cell_of (heap_alloc_at w _), Nat.zero_add, ho]; rfl
   ·rw [ho]; exact hd.ext a1.wf e1
  have := LVRel.lit (w := w.alloc (.cells out e)) (G := gst G1 w.heap.size) xs _ hrep (fun p hp => by cases hp; exact ⟨rfl, .inl rfl⟩) (fun h => by cases h)
  rw [hxl] at this;exact this
end Go.VM
end
section
namespace Go.VM
open Go.RowKit
variable {w w' w1 w2 : World} {G G' G1 G2 : Gh} {S S' S1 S2 : St} {P : Program}
structure Src (P : Program) (w : World) (St : Nat → Prop) (es : Nat) (ys : List D) (xv : Value) (news : Array Value) : Prop where
 len : ∀ w' : World, w'.heap = w.heap → (Builtin.lenOf xv).run P w' = .ok ys.length w'
 firstN : ∀ w' : World, w'.heap = w.heap → ∀ m, m ≤ ys.length → (Builtin.firstCells es m xv).run P w' = .ok (news.extract 0 (m * es)) w'
 size : news.size = ys.length * es
 sized : sized es ys
 ones : ∀ y ∈ ys, ∀ d ∈ y.cells, d.one = true
 row : ∀ (i j : Nat) (y d : D), ys[i]? = some y → y.cells[j]? = some d → ∃ v, news[i * es + j]? = some v ∧ Rep w St d v
 one : ∀ v ∈ news, v.oneCell' = true
theorem Src.first {St : Nat → Prop} {es : Nat} {ys : List D} {xv : Value} {news : Array Value} (h : Src P w St es ys xv news) (w' : World) (hw : w'.heap = w.heap) :
  (Builtin.firstCells es ys.length xv).run P w' = .ok news w' := by
 rw [h.firstN w' hw _ (Nat.le_refl _), ← h.size, Array.extract_size]
theorem row_onecell {St : Nat → Prop} {es : Nat} {ys : List D} {news : Array Value} (hsz : news.size = ys.length * es) (hs : sized es ys) (ho : ∀ y ∈ ys, ∀ d ∈ y.cells, d.one = true)
  (hr : ∀ (i j : Nat) (y d : D), ys[i]? = some y → y.cells[j]? = some d → ∃ v, news[i * es + j]? = some v ∧ Rep w St d v) : ∀ v ∈ news, v.oneCell' = true := by
 intro v hv;obtain ⟨k, hk⟩ := Array.getElem?_of_mem hv;have hlt : k < ys.length * es := by rw [← hsz]; exact (Array.getElem?_eq_some_iff.1 hk).1
 have he : 0 < es := Nat.pos_of_ne_zero fun h => by simp [h] at hlt
 have hi : k / es < ys.length := (Nat.div_lt_iff_lt_mul he).2 hlt;have hj : k % es < es := Nat.mod_lt _ he;have hy := List.getElem?_eq_getElem hi;have hyl : (ys[k / es]'hi).cells.length = es := hs _ (List.getElem_mem _);have hd := List.getElem?_eq_getElem (show k % es < (ys[k / es]'hi).cells.length by omega)
 obtain ⟨v', h1, h2⟩ := hr _ _ _ _ hy hd;rw [Nat.mul_comm, Nat.div_add_mod] at h1;rw [hk] at h1; cases h1;exact h2.one (ho _ (List.getElem_mem _) _ (List.getElem_mem _))
theorem src_cells {St : Nat → Prop} {es b off cap : Nat} {ys : List D} (hs : sized es ys) (ho : ∀ y ∈ ys, ∀ d ∈ y.cells, d.one = true)
  (hr : ∀ (i j : Nat) (y d : D), ys[i]? = some y → y.cells[j]? = some d → ∃ v, w.cell? ⟨b, off + i * es + j, none⟩ = some v ∧ Rep w St d v) :
  ∃ news, Src P w St es ys (.slice (some ⟨b, off, none⟩) ys.length cap) news := by
 let news : Array Value := Array.ofFn (n := ys.length * es) fun k => (w.cell? ⟨b, off + k.1, none⟩).getD .nilFunc
 have hsz : news.size = ys.length * es := by simp [news]
 have hin : ∀ i j, i < ys.length → j < es → i * es + j < ys.length * es := by
  intro i j hi hj;have : i * es + es ≤ ys.length * es := by rw [← Nat.succ_mul]; exact Nat.mul_le_mul_right _ hi
  omega
 have hrow : ∀ (i j : Nat) (y d : D), ys[i]? = some y → y.cells[j]? = some d → ∃ v, news[i * es + j]? = some v ∧ Rep w St d v := by
  intro i j y d h1 h2;obtain ⟨v, h3, h4⟩ := hr i j y d h1 h2;have hi : i < ys.length := (List.getElem?_eq_some_iff.1 h1).1;have hj : j < es := by have := (List.getElem?_eq_some_iff.1 h2).1; have := hs y (List.mem_of_getElem? h1); omega
  refine ⟨v, ?_, h4⟩;simp only [news, Array.getElem?_ofFn, hin i j hi hj, dite_true];rw [show off + (i * es + j) = off + i * es + j from by omega, h3]; rfl
 have hcell : ∀ (k : Nat) (v : Value), news[k]? = some v → w.cell? ⟨b, off + k, none⟩ = some v := by
  intro k v hk;have hlt : k < ys.length * es := by rw [← hsz]; exact (Array.getElem?_eq_some_iff.1 hk).1
  have he : 0 < es := Nat.pos_of_ne_zero fun h => by simp [h] at hlt
  have hi : k / es < ys.length := (Nat.div_lt_iff_lt_mul he).2 hlt;have hj : k % es < es := Nat.mod_lt _ he;have hy := List.getElem?_eq_getElem hi;have hyl : (ys[k / es]'hi).cells.length = es := hs _ (List.getElem_mem _);have hd := List.getElem?_eq_getElem (show k % es < (ys[k / es]'hi).cells.length by omega)
  obtain ⟨v', h1, h2⟩ := hr _ _ _ _ hy hd;rw [Nat.add_assoc, Nat.mul_comm, Nat.div_add_mod] at h1;simp only [news, Array.getElem?_ofFn, hlt, dite_true, h1, Option.getD_some] at hk;rw [h1]; exact hk
 refine ⟨news, fun w' _ => rfl, ?_, hsz, hs, ho, hrow, row_onecell hsz hs ho hrow⟩;intro w' hw' m hm;have hms : m * es ≤ news.size := by rw [hsz]; exact Nat.mul_le_mul_right _ hm
 simp only [Builtin.firstCells];exact run_loadCells_at (by simp; omega) (fun j v hj => by
  rw [Array.getElem?_extract] at hj;split at hj
  ·have := hcell j v (by simpa using hj)
   simpa [World.cell?, hw'] using this
  ·cases hj)
theorem src_rel (hr : Rel w G S) {es : Nat} {x : LV} {xv : Value} (hx : LVRel w G x xv) {k : List D → T LV} {r : LV × St} (h : (srcT es x k).run S = .ok r) :
  ∃ ys news, Src P w G.St es ys xv news ∧ (k ys).run S = .ok r := by
 have empty : ∀ a cap, ∃ news, Src P w G.St es [] (.slice a 0 cap) news := by
  intro a cap;refine ⟨#[], fun _ _ => rfl, fun w' _ m hm => ?_, by simp, fun x hx => by simp at hx, fun x hx => by simp at hx, fun i j y d h => by simp at h, fun v hv => by simp at hv⟩
  have hm0 : m = 0 := by simpa using hm
  subst hm0;have h0 : (#[] : Array Value).extract 0 (0 * es) = #[] := by simp
  rw [h0]
  cases a with
  | none => rfl
  | some a => simp only [Builtin.firstCells, Nat.zero_mul]; rfl
 have ofRep : ∀ ys v, Rep w G.St (.sl ys) v → sized es ys → ∃ news, Src P w G.St es ys v news := by
  intro ys v hv hs
  cases hv with
  | empty a cap _ => exact empty a cap
  | sl _ b off cap sz hsb hcap hm hz ho f h1 h2 =>
   cases ys with
   | nil => exact empty _ _
   | cons y ys =>
    have hse : sz = es := (hz y (by simp)).symm.trans (hs y (by simp))
    subst hse;exact src_cells hs ho (fun i j y d a b => ⟨f i j, h1 i j y d a b, h2 i j y d a b⟩)
 cases x with
 | d x =>
  cases hx with | d _ _ hx =>
  cases x with
  | sl ys =>
   simp only [srcT] at h;split at h
   ·rename_i hs;obtain ⟨news, hn⟩ := ofRep ys xv hx hs;exact ⟨ys, news, hn, h⟩
   ·cases h
  | str s =>
   simp only [srcT] at h;split at h
   ·rename_i he;subst he
    cases hx with
    | str b hb =>
     refine ⟨_, b.data.map fun c => .int .u8 c.toNat, ⟨fun _ _ => ?_, fun _ _ m hm => ?_, by simp, ?_, ?_, ?_, ?_⟩, h⟩
     ·simp [Builtin.lenOf]
     ·simp only [Builtin.firstCells];show Result.ok _ _ = _;congr 1
      apply Array.ext'
      simp [ByteArray.data_extract]
     ·intro x hx; obtain ⟨c, _, rfl⟩ := List.mem_map.1 hx; rfl
     ·intro x hx; obtain ⟨c, _, rfl⟩ := List.mem_map.1 hx; intro d hd; simp [D.cells] at hd; subst hd; rfl
     ·intro i j y d h1 h2;simp only [List.getElem?_map, Option.map_eq_some_iff] at h1;obtain ⟨c, h3, rfl⟩ := h1
      cases j with
      | zero => simp [D.cells] at h2; subst h2; exact ⟨.int .u8 c.toNat, by simp [show b.data[i]? = some c from by simpa using h3], .int _ _⟩
      | succ j => simp [D.cells] at h2
     ·intro v hv; obtain ⟨c, _, rfl⟩ := Array.mem_map.1 hv; rfl
   ·cases h
  | _ => cases h
 | lit ys =>
  cases hx with | lit _ a hx _ _ =>
  simp only [srcT] at h;split at h
  ·rename_i hs;obtain ⟨news, hn⟩ := ofRep ys _ hx hs;exact ⟨ys, news, hn, h⟩
  ·cases h
 | ar l sz lo n =>
  simp only [srcT] at h;obtain ⟨sz', xs, fz, hl, hq⟩ := arrT_run h;clear h;have ha := hr.live hl
  cases hx with
  | ar _ _ _ _ cap a hd hs hb hc haddr =>
  have hsz : sz = sz' := hs.symm.trans ha.esz;subst hsz;split at hq
  case isFalse => cases hq
  rename_i hcond;obtain ⟨hn, hss⟩ := hcond;have hlen : (sub xs lo n).length = n := by simp [sub]; omega
  cases n with
  | zero =>
   have : sub xs lo 0 = [] := by simp [sub]
   rw [this] at hq;obtain ⟨news, hn⟩ := empty a cap;exact ⟨[], news, hn, hq⟩
  | succ n =>
   obtain ⟨c, e, f, hh, hcs, hx, _⟩ := ha.row (by omega)
   rw [haddr (by omega)]
   have hse : sz = es := by
    have hm : (sub xs lo (n + 1))[0]? = some ((sub xs lo (n + 1))[0]'(by omega)) := List.getElem?_eq_getElem (by omega)
    have h1 := hss _ (List.mem_of_getElem? hm);have h2 := ha.hz _ (List.mem_of_mem_drop (List.mem_of_mem_take (List.mem_of_getElem? hm)));exact h2.symm.trans h1
   subst hse;obtain ⟨news, hn⟩ := src_cells (P := P) (w := w) (St := G.St) (b := (G.addr l).1) (off := (G.addr l).2 + lo * sz) (cap := cap) hss (fun y hy => ha.ho y (List.mem_of_mem_drop (List.mem_of_mem_take hy)))
    (fun i j y d h1 h2 => by
     simp only [sub, List.getElem?_take] at h1;split at h1
     ·rw [List.getElem?_drop] at h1;obtain ⟨v, h3, h4⟩ := hx _ _ _ _ h1 h2;refine ⟨v, ?_, h4⟩;rw [cell_of hh, ← h3]; congr 1; rw [Nat.add_mul]; omega
     ·cases h1)
   rw [hlen] at hn;exact ⟨_, news, hn, hq⟩
 | _ => cases h
structure App (P : Program) (w : World) (es : Nat) (e : TypeId) (m : Nat) (news : Array Value) (sem : Sem Value) (a : Option Addr) (n cap : Nat) : Prop where
 room : ∀ (ad : Addr) (w' : World), a = some ad → n + m ≤ cap → (storeCells (ad.add (n * es)) news.toList 0).run P w = .ok () w' → sem.run P w = .ok (.slice (some ad) (n + m) cap) w'
 grow : ∀ (olds : Array Value), cap < n + m → (Builtin.firstCells es n (.slice a n cap)).run P w.drew = .ok olds w.drew →
  ∃ cap' rest, n + m ≤ cap' ∧ cap' ≤ 9223372036854775807 ∧ rest.size = (cap' - (n + m)) * es ∧
   sem.run P w = .ok (.slice (some ⟨w.heap.size, 0, none⟩) (n + m) cap') (w.drew.alloc (.cells (olds ++ news ++ rest) e))
theorem fits_le {n b : Nat} (h : fits n b) : n * b ≤ 70368744177664 := h.2
theorem grow_sim (hr : Rel w G S) {es by_ : Nat} {e : TypeId} {x : LV} {xv : Value} {ys : List D} {news : Array Value}
  (hx : LVRel w G x xv) (hs : sized es ys) (ho : ∀ y ∈ ys, ∀ d ∈ y.cells, d.one = true) (hns : news.size = ys.length * es)
  (hrow : ∀ (i j : Nat) (y d : D), ys[i]? = some y → y.cells[j]? = some d → ∃ v, news[i * es + j]? = some v ∧ Rep w G.St d v) (hone : ∀ v ∈ news, v.oneCell' = true)
  {sem : Sem Value} (hsem : ∀ a n cap, xv = .slice a n cap → fits (n + ys.length) by_ → App P w es e ys.length news sem a n cap) (hsem0 : ∀ a n cap, xv = .slice a n cap → ys = [] → n ≤ cap → sem.run P w = .ok (.slice a n cap) w) :
  Sim P w G S sem (growT es by_ x ys) (fun w' G' lv v => LVRel w' G' lv v) := by
 intro lv S' h hf;have hdrew : w.drew.heap = w.heap ∧ w.drew.os = w.os ∧ w.drew.tape = w.tape ∧ w.drew.output = w.output := ⟨rfl, rfl, rfl, rfl⟩;have mk : ∀ (xs : List D) (olds rest : Array Value) (cap' : Nat) (S0 : St) (G0 : Gh), Rel w G0 S0 → Ext w G w G0 → S0.next = S.next → S0.clk = S.clk → (∀ k, G0.dom k ↔ G.dom k) → ¬ G.dom (.arr S.next) →
   sized es xs → (∀ y ∈ xs, ∀ d ∈ y.cells, d.one = true) → olds.size = xs.length * es →
   (∀ (i j : Nat) (y d : D), xs[i]? = some y → y.cells[j]? = some d → ∃ v, olds[i * es + j]? = some v ∧ Rep w G.St d v) → xs.length + ys.length ≤ cap' → cap' ≤ 9223372036854775807 → rest.size = (cap' - (xs.length + ys.length)) * es →
   ∃ G', Rel (w.drew.alloc (.cells (olds ++ news ++ rest) e)) G' (S0.alloc (.arr es (xs ++ ys) false)) ∧ Ext w G (w.drew.alloc (.cells (olds ++ news ++ rest) e)) G' ∧ DomLe G G' S (S0.alloc (.arr es (xs ++ ys) false)) ∧
    LVRel (w.drew.alloc (.cells (olds ++ news ++ rest) e)) G' (.ar (.arr S.next) es 0 (xs.length + ys.length)) (.slice (some ⟨w.heap.size, 0, none⟩) (xs.length + ys.length) cap') := by
  intro xs olds rest cap' S0 G0 hr0 he0 hnx hck hdm hfr hxs hxo hos hold hc1 hc2 hrs;have hsz : (olds ++ news ++ rest).size = cap' * es := by
   simp only [Array.size_append, hos, hns, hrs, ← Nat.add_mul]; congr 1; omega
  obtain ⟨G', r1, r2, r3, r4⟩ := new_arr (w := w) (G := G0) (S := S0) (c := olds ++ news ++ rest) (e := e) (cap := cap') (sz := es) (xs := xs ++ ys) hr0 (by rw [hnx, hdm]; exact hfr) hc2
   (fun x hx => (List.mem_append.1 hx).elim (hxs x) (hs x)) (fun x hx => (List.mem_append.1 hx).elim (hxo x) (ho x))
   (by simpa using hc1) (by rw [hsz]; exact Nat.le_refl _) (by
    intro i j y d h1 h2;have hjl : j < y.cells.length := (List.getElem?_eq_some_iff.1 h2).1;by_cases hi : i < xs.length
    ·rw [List.getElem?_append_left hi] at h1;have hy := hxs y (List.mem_of_getElem? h1);obtain ⟨v, h3, h4⟩ := hold i j y d h1 h2;have hlt : i * es + j < olds.size := (Array.getElem?_eq_some_iff.1 h3).1;refine ⟨v, ?_, h4.ext hr.wf he0⟩;rw [Nat.zero_add, Array.append_assoc, Array.getElem?_append_left hlt]; exact h3
    ·rw [List.getElem?_append_right (by omega)] at h1
     obtain ⟨v, h3, h4⟩ := hrow _ j y d h1 h2;have hlt : (i - xs.length) * es + j < news.size := (Array.getElem?_eq_some_iff.1 h3).1;refine ⟨v, ?_, h4.ext hr.wf he0⟩;have hix : i * es = xs.length * es + (i - xs.length) * es := by rw [← Nat.add_mul]; congr 1; omega
     rw [Nat.zero_add, Array.append_assoc, Array.getElem?_append_right (by omega), Array.getElem?_append_left (by omega), ← h3]
     congr 1; omega) hdrew
  refine ⟨G', r1, he0.trans r2, ?_, ?_⟩
  ·intro k hk;rcases r3 k hk with h | h
   ·exact .inl ((hdm k).1 h)
   ·right
    cases k <;> simp only [New] at h ⊢ <;> simp only [hnx, hck] at h <;> exact h
  ·rw [hnx] at r4;simpa using r4
 cases x with
 | lit xs =>
  cases hx with | lit _ a hx hlt hna =>
  simp only [growT] at h;split at h
  case isFalse => cases h
  rename_i hxs;by_cases hc : xs = [] ∨ ys ≠ []
  ·rw [if_pos hc] at h;split at h
   case isFalse => cases h
   rename_i hfit;obtain ⟨rfl, rfl⟩ : LV.ar (.arr S.next) es 0 (xs.length + ys.length) = lv ∧ S.alloc (.arr es (xs ++ ys) false) = S' := by cases h; exact ⟨rfl, rfl⟩
   have hfr : ¬ G.dom (.arr S.next) := hf (.arr S.next) ⟨Nat.le_refl _, by simp [St.alloc]⟩
   have happ := hsem a xs.length xs.length rfl hfit;by_cases hy : ys = []
   ·-- nothing onto nothing: an owned slice without room
    have hx0 : xs = [] := hc.elim id (fun h => absurd hy h);subst hx0; subst hy;have hrun := hsem0 a 0 0 rfl rfl (by omega)
    let G' : Gh := { G with cap := fun k => if k = .arr S.next then 0 else G.cap k, esz := fun k => if k = .arr S.next then es else G.esz k, dom := fun k => k = .arr S.next ∨ G.dom k }
    have hne : ∀ k, G.dom k → k ≠ .arr S.next := fun k hk e => hfr (e ▸ hk);have hext : Ext w G w G' := ⟨Nat.le_refl _, rfl, rfl, rfl, fun _ _ _ _ => rfl, fun _ _ _ _ f h => ⟨f, h⟩, fun _ h => h, fun _ h => h, fun k hk => by
     have := hne k hk;exact ⟨.inr hk, rfl, if_neg this, if_neg this⟩, fun _ _ h => h, fun _ _ h => .inl h, fun _ _ h => h⟩
    have hkeep : Keep w G w G' (fun _ => False) := fun b l h _ => ⟨rfl, h⟩;have hwf : G'.Wf w := by
     refine ⟨hr.wf.own, hr.wf.st, hr.wf.lt, fun k => ?_⟩;show (if k = .arr S.next then 0 else G.cap k) ≤ _;split
     ·omega
     ·exact hr.wf.max k
    refine ⟨.slice a 0 0, w, G', hrun, ?_, ⟨hwf, fun id => ?_⟩, hext, ?_⟩
    ·exact .ar _ _ _ _ _ _ (.inl rfl) (by simp [G']) (by simp [G']) (Nat.le_refl _) (fun h => by omega)
    ·simp only [St.alloc];split
     ·rename_i hid; subst hid;exact ⟨.inl rfl, by simp [G'], fun x hx => by simp at hx, fun x hx => by simp at hx, by simp, fun h => by simp [G'] at h⟩
     ·exact (hr.obj id).keep hr.wf hext hkeep (fun _ _ h => h)
    ·intro k hk;rcases hk with rfl | hk
     ·exact .inr ⟨Nat.le_refl _, by simp [St.alloc]⟩
     ·exact .inl hk
   ·have hyl : 0 < ys.length := List.length_pos_iff.2 hy;have holds : ∃ olds : Array Value, (Builtin.firstCells es xs.length (.slice a xs.length xs.length)).run P w.drew = .ok olds w.drew ∧ olds.size = xs.length * es ∧
      (∀ (i j : Nat) (y d : D), xs[i]? = some y → y.cells[j]? = some d → ∃ v, olds[i * es + j]? = some v ∧ Rep w G.St d v) ∧ ∀ y ∈ xs, ∀ d ∈ y.cells, d.one = true := by
     obtain ⟨ys', news', hsrc, hk⟩ := src_rel (P := P) (k := fun ys => .ret (.lit ys)) (r := (.lit xs, S)) hr (.lit xs a hx hlt hna) (es := es) (by simp only [srcT]; rw [if_pos hxs]; rfl)
     cases hk
     exact ⟨news', hsrc.first _ rfl, hsrc.size, hsrc.row, hsrc.ones⟩
    obtain ⟨olds, h1, h2, h3, h4⟩ := holds;obtain ⟨cap', rest, k1, k2, k3, k4⟩ := happ.grow olds (by omega) h1
    obtain ⟨G', r1, r2, r3, r4⟩ := mk xs olds rest cap' S G hr (Ext.refl w G) rfl rfl (fun _ => Iff.rfl) hfr hxs h4 h2 h3 k1 k2 k3;exact ⟨_, _, G', k4, r4, r1, r2, r3⟩
  ·rw [if_neg hc] at h
   cases h
   have hy : ys = [] := by
    by_cases hy : ys = []
    ·exact hy
    ·exact absurd (.inr hy) hc
   exact ⟨_, w, G, hsem0 a _ _ rfl hy (Nat.le_refl _), .lit _ a hx hlt hna, hr, Ext.refl w G, DomLe.refl _ _ _⟩
 | ar l sz lo n =>
  simp only [growT] at h;split at h
  case isFalse => cases h
  rename_i hse;subst hse;obtain ⟨sz', xs, fz, hl, h⟩ := arrT_run h
  cases fz with
  | true => cases h
  | false =>
  simp only [Bool.false_eq_true, if_false] at h;split at h
  case isFalse => cases h
  rename_i hcond;obtain ⟨hn, hfit⟩ := hcond;have ha := hr.live hl
  cases hx with
  | ar _ _ _ _ cap a hd hsz hb hc haddr =>
  have hsz' : sz = sz' := hsz.symm.trans ha.esz;subst hsz';rw [T.run_bind, killT_run hl] at h;have hkn := killArr_next S l;obtain ⟨rfl, rfl⟩ : LV.ar (.arr (S.killArr l).next) sz 0 (n + ys.length) = lv ∧ (S.killArr l).alloc (.arr sz (sub xs lo n ++ ys) false) = S' := by cases h; exact ⟨rfl, rfl⟩
  have hfr : ¬ G.dom (.arr S.next) := hf (.arr S.next) ⟨Nat.le_refl _, by simp [St.alloc, hkn.1]⟩
  have happ := hsem a n cap rfl hfit;have hsl : (sub xs lo n).length = n := by simp [sub]; omega
  have hsub : sized sz (sub xs lo n) := fun x hx => ha.hz x (List.mem_of_mem_drop (List.mem_of_mem_take hx));have hsubo : ∀ y ∈ sub xs lo n, ∀ d ∈ y.cells, d.one = true := fun x hx => ha.ho x (List.mem_of_mem_drop (List.mem_of_mem_take hx));by_cases hroom : n + ys.length ≤ cap
  ·by_cases hcp : 0 < cap
   ·-- in place
    obtain ⟨c, e', f, hh, hcs, hxr, hown⟩ := ha.row (by omega)
    simp only [Bool.false_eq_true, if_false] at hown;have hadr := haddr hcp;obtain ⟨m1, m2, m3⟩ := gmove_rel (l' := .arr S.next) hr hl hfr hb hc;have hlo : lo * sz + cap * sz ≤ G.cap l * sz := by rw [← Nat.add_mul]; exact Nat.mul_le_mul_right _ hb
    have hnm : n * sz + ys.length * sz ≤ cap * sz := by rw [← Nat.add_mul]; exact Nat.mul_le_mul_right _ hroom
    have hle : (G.addr l).2 + lo * sz + n * sz + news.toList.length ≤ c.size := by simp [hns]; omega
    have hst := run_storeCells_at' (P := P) hh hle hown.2 (fun v hv => hone v (by simpa using hv))
    have hrun := happ.room ⟨(G.addr l).1, (G.addr l).2 + lo * sz, none⟩ _ hadr hroom (by rw [addr_add]; exact hst)
    have hgo : (gmove G l (.arr S.next) lo sz cap).own (G.addr l).1 = some (.arr S.next) := by simp [gmove, hcp]
    obtain ⟨e1, e2, e3⟩ := Ext.setCells (o := (G.addr l).2 + lo * sz + n * sz) (vs := news.toList) m1.wf hgo;refine ⟨_, _, gmove G l (.arr S.next) lo sz cap, hrun, ?_, ⟨e3, fun id => ?_⟩, m2.trans e1, ?_⟩
    ·rw [hkn.1];exact .ar _ _ _ _ _ _ (.inl rfl) (by simp [gmove]) (by simp [gmove]) hroom (fun _ => by simp [gmove])
    ·simp only [St.alloc, hkn.1];split
     ·rename_i hid; subst hid;refine ⟨.inl rfl, by simp [gmove], ?_, ?_, by simp [gmove, hsl]; omega, fun _ => ⟨_, e', f, by simp only [gmove, if_true]; exact heap_setCells_at _ hh, by simp only [gmove, if_true]; rw [seg_size]; omega, ?_, ?_⟩⟩
      ·intro x hx; exact (List.mem_append.1 hx).elim (hsub x) (hs x)
      ·intro x hx; exact (List.mem_append.1 hx).elim (hsubo x) (ho x)
      ·intro i j y d h1 h2;have hjl : j < y.cells.length := (List.getElem?_eq_some_iff.1 h2).1;simp only [gmove, if_true];rw [seg_get];by_cases hi : i < n
       ·rw [List.getElem?_append_left (by omega)] at h1
        have hyz := hsub y (List.mem_of_getElem? h1);simp only [sub, List.getElem?_take, hi, if_true, List.getElem?_drop] at h1;obtain ⟨v, h3, h4⟩ := hxr _ _ _ _ h1 h2;have hlt : i * sz + sz ≤ n * sz := by rw [← Nat.succ_mul]; exact Nat.mul_le_mul_right _ hi
        rw [if_neg (by omega)]
        refine ⟨v, ?_, (h4.ext hr.wf m2).ext m1.wf e1⟩;rw [← h3]; congr 1; rw [Nat.add_mul]; omega
       ·rw [List.getElem?_append_right (by omega), hsl] at h1
        obtain ⟨v, h3, h4⟩ := hrow _ j y d h1 h2;have hlt : (i - n) * sz + j < news.size := (Array.getElem?_eq_some_iff.1 h3).1;have hix : i * sz = n * sz + (i - n) * sz := by rw [← Nat.add_mul]; congr 1; omega
        rw [if_pos (by simp; omega)]
        refine ⟨v, ?_, (h4.ext hr.wf m2).ext m1.wf e1⟩;rw [show (G.addr l).2 + lo * sz + i * sz + j - ((G.addr l).2 + lo * sz + n * sz) = (i - n) * sz + j from by omega]
        simpa using h3
      ·simp only [gmove, if_true, Bool.false_eq_true, if_false, hcp, true_and];simpa [freeB, seg_size] using hown.2
     ·rename_i hid;exact (m1.obj id).keep m1.wf e1 e2 (fun l' hl' hx => hid (by subst hx; exact hl'.symm))
    ·intro k hk;rcases hk with rfl | hk
     ·exact .inr ⟨by omega, by simp [St.alloc, hkn.1]⟩
     ·exact .inl hk
   ·-- no room, and nothing to append
    have hn0 : n = 0 := by omega
    have hyl : ys.length = 0 := by omega
    have hy : ys = [] := List.eq_nil_of_length_eq_zero hyl;have hc0 : cap = 0 := by omega
    subst hn0; subst hy; subst hc0;obtain ⟨m1, m2, m3⟩ := gmove_rel (l' := .arr S.next) hr hl hfr hb hc;have hrun := hsem0 a 0 0 rfl rfl (by omega)
    refine ⟨_, w, gmove G l (.arr S.next) lo sz 0, hrun, ?_, ⟨m1.wf, fun id => ?_⟩, m2, ?_⟩
    ·rw [hkn.1];exact .ar _ _ _ _ _ _ (.inl rfl) (by simp [gmove]) (by simp [gmove]) (by simp) (fun h => by omega)
    ·simp only [St.alloc, hkn.1];split
     ·rename_i hid; subst hid;simp only [List.append_nil];exact m3
     ·exact m1.obj id
    ·intro k hk;rcases hk with rfl | hk
     ·exact .inr ⟨by omega, by simp [St.alloc, hkn.1]⟩
     ·exact .inl hk
  ·-- a new row
   have hkill : Rel w G (S.killArr l) := hr.killArr (Ext.refl w G) (Keep.refl w G _) hr.wf hl;have holds : ∃ olds : Array Value, (Builtin.firstCells sz n (.slice a n cap)).run P w.drew = .ok olds w.drew ∧ olds.size = (sub xs lo n).length * sz ∧
     (∀ (i j : Nat) (y d : D), (sub xs lo n)[i]? = some y → y.cells[j]? = some d → ∃ v, olds[i * sz + j]? = some v ∧ Rep w G.St d v) := by
    obtain ⟨ys', news', hsrc, hk⟩ := src_rel (P := P) (k := fun ys => .ret (.lit ys)) (r := (.lit (sub xs lo n), S)) hr (.ar l sz lo n cap a hd hsz hb hc haddr) (es := sz) (by
     simp only [srcT];have : ∀ k : Nat → List D → Bool → T LV, (arrT l k).run S = (k sz xs false).run S := by
      intro k
      cases l with
      | arr id => simp only [Live] at hl; simp [arrT, T.run, hl]
      | cell id off v => obtain ⟨cs, h1, h2⟩ := hl; simp [arrT, T.run, h1, h2]
     rw [this, if_pos ⟨hn, hsub⟩]; rfl)
    cases hk
    have := hsrc.first w.drew rfl;rw [hsl] at this;exact ⟨news', this, hsrc.size, hsrc.row⟩
   obtain ⟨olds, h1, h2, h3⟩ := holds;obtain ⟨cap', rest, k1, k2, k3, k4⟩ := happ.grow olds (by omega) h1
   obtain ⟨G', r1, r2, r3, r4⟩ := mk (sub xs lo n) olds rest cap' (S.killArr l) G hkill (Ext.refl w G) hkn.1 hkn.2 (fun _ => Iff.rfl) hfr hsub hsubo h2 h3 (by rw [hsl]; exact k1) k2 (by rw [hsl]; exact k3)
   rw [hsl] at r4;rw [hkn.1];exact ⟨_, _, G', k4, r4, r1, r2, r3⟩
 | _ => cases h
end Go.VM
end
section
namespace Go.VM
open Go.RowKit
variable {w w' w1 w2 : World} {G G' G1 G2 : Gh} {S S' S1 S2 : St} {P : Program}
def notInt : TypeDesc → Bool
 | .int _ => false
 | _ => true
theorem int_of {t : TypeId} (h : tyInt P t = none) {d : TypeDesc} (hu : P.underlying t = some d) : notInt d = true := by
 unfold tyInt at h;rw [hu] at h
 cases d <;> first | rfl | cases h
theorem size_zeroCells' (z : Array Value) (n : Nat) : (Builtin.zeroCells z n).size = n * z.size := by simp [Builtin.zeroCells]
theorem app_ok {ts : Array TypeId} {t tx e ty : TypeId} {d : TypeDesc} {i : TypeInfo} {zv : Value} (h0 : ts[0]? = some t) (h1 : ts[1]? = some tx) (hu : P.underlying t = some (.slice e)) (hi : P.info? e = some i)
  (hz : i.zero = some zv) (hzs : zv.cells.size = i.size) (hx : P.underlying tx = some d) (hd : notInt d = true) {ys : List D} {xv : Value} {news : Array Value} {St : Nat → Prop} (hs : Src P w St i.size ys xv news)
  {a : Option Addr} {n cap : Nat} (hfit : fits (n + ys.length) i.bytes) :
  App P w i.size e ys.length news (Builtin.append_ ts ty #[.slice a n cap, xv]) a n cap := by
 have hf := fits_le hfit;have hlen := hfit.1;have hl := hs.len w rfl;have hl' := hs.len w.drew rfl;have hfi := hs.first w rfl;have hfi' := hs.first w.drew rfl;have hzf : (match d with | .int _ => true | _ => false) = false := by cases d <;> first | rfl | cases hd
 constructor
 ·intro ad w' ha hroom hst;subst ha;unfold Builtin.append_;simp only [h0, h1, List.getElem?_toArray, List.getElem?_cons_zero, List.getElem?_cons_succ, Sem.run_bind, run_underlying hu, run_underlying hx, Result.andThen_ok, run_sizeOf hi, Sem.run_pure]
  cases d <;> first | (cases hd; done) | skip
  all_goals simp [hl, hroom, hfi, hst]
 ·intro olds hg hold;refine ⟨grownCap w (n + ys.length) cap e, Builtin.zeroCells zv.cells (grownCap w (n + ys.length) cap e - (n + ys.length)), grownCap_ge _ _ _ _, ?_, by rw [size_zeroCells', hzs], ?_⟩
  ·have := grownCap_le_maxLen w (n + ys.length) cap e (by simp only [maxLen]; omega)
   simp only [maxLen] at this; omega
  ·have hn : ¬ (n + ys.length ≤ cap) := by omega
   have h63 : ¬ (9223372036854775807 < ((n : Int) + (ys.length : Int))) := by omega
   have h48 : ¬ (281474976710656 < Builtin.nextslicecap (n + ys.length) cap * i.bytes) := by
    have := growslice_fits (need := n + ys.length) (old := cap) (bytes := i.bytes) hg (by omega); omega
   unfold Builtin.append_;simp only [h0, h1, List.getElem?_toArray, List.getElem?_cons_zero, List.getElem?_cons_succ, Sem.run_bind, run_underlying hu, run_underlying hx, Result.andThen_ok, run_sizeOf hi, Sem.run_pure]
   cases d <;> first | (cases hd; done) | skip
   all_goals simp [hl, hn, h63, h48, typeInfo, hi, zeroValue, hz, Question.forced, hfi', hold, newRow, grownCap]
theorem app_none {ts : Array TypeId} {t tx e ty : TypeId} {d : TypeDesc} {i : TypeInfo} (h0 : ts[0]? = some t) (h1 : ts[1]? = some tx) (hu : P.underlying t = some (.slice e)) (hi : P.info? e = some i)
  (hx : P.underlying tx = some d) (hd : notInt d = true) {ys : List D} {xv : Value} {news : Array Value} {St : Nat → Prop} (hs : Src P w St i.size ys xv news) (hy : ys = [])
  {a : Option Addr} {n cap : Nat} (hn : n ≤ cap) : (Builtin.append_ ts ty #[.slice a n cap, xv]).run P w = .ok (.slice a n cap) w := by
 subst hy;have hl := hs.len w rfl;have hfi := hs.first w rfl;have hnews : news = #[] := by have := hs.size; simp at this; exact this
 subst hnews;simp only [List.length_nil] at hl hfi;unfold Builtin.append_;simp only [h0, h1, List.getElem?_toArray, List.getElem?_cons_zero, List.getElem?_cons_succ, Sem.run_bind, run_underlying hu, run_underlying hx, Result.andThen_ok, run_sizeOf hi, Sem.run_pure]
 cases d <;> first | (cases hd; done) | skip
 all_goals (cases a <;> simp [hl, hn, hfi, storeCells])
def zerosOf (zv : Value) (sz m : Nat) : Array Value := if m * sz = 0 then #[] else Builtin.zeroCells zv.cells m
theorem zeros_size {zv : Value} {sz m : Nat} (h : zv.cells.size = sz) : (zerosOf zv sz m).size = m * sz := by
 unfold zerosOf; split
 ·rename_i h0; simp [h0]
 ·simp [Builtin.zeroCells, h]
theorem zeros_get {zv : Value} {sz m i j : Nat} (h : zv.cells.size = sz) (hi : i < m) (hj : j < sz) : (zerosOf zv sz m)[i * sz + j]? = zv.cells[j]? := by
 have hlt : i * sz + j < m * sz := by
  have : i * sz + sz ≤ m * sz := by rw [← Nat.succ_mul]; exact Nat.mul_le_mul_right _ hi
  omega
 unfold zerosOf;rw [if_neg (by omega)]
 have hm : (i * sz + j) % zv.cells.size = j := by rw [h, Nat.mul_comm, Nat.mul_add_mod]; exact Nat.mod_eq_of_lt hj
 simp only [Builtin.zeroCells, h, Array.getElem?_map, Array.getElem?_range, hlt, if_true, Option.map_some];rw [Array.getElem?_eq_getElem (by omega)]
 have hg : zv.cells[j]! = zv.cells[j]'(by omega) := getElem!_pos zv.cells j (by omega)
 rw [← hg];rw [h] at hm;exact congrArg (fun q => some zv.cells[q]!) hm
theorem app_zeros {ts : Array TypeId} {t tx e ty : TypeId} {k : IntKind} {i : TypeInfo} {zv : Value} (h0 : ts[0]? = some t) (h1 : ts[1]? = some tx) (hu : P.underlying t = some (.slice e)) (hi : P.info? e = some i)
  (hz : i.zero = some zv) (hzs : zv.cells.size = i.size) (hx : P.underlying tx = some (.int k)) {k' : IntKind} {m : Int} (hm : 0 ≤ m ∧ m ≤ 70368744177664) (hmb : m * i.bytes ≤ 70368744177664)
  {a : Option Addr} {n cap : Nat} (hfit : fits (n + m.toNat) i.bytes) :
  App P w i.size e m.toNat (zerosOf zv i.size m.toNat) (Builtin.append_ ts ty #[.slice a n cap, .int k' m]) a n cap := by
 have hf := fits_le hfit;have hlen := hfit.1;have hw : IntKind.i64.wrap m = m := IntWalk.i64_in _ (by omega)
 have b1 : ¬ (m < 0) := by omega
 have b2 : ¬ (281474976710656 < m * (i.bytes : Int)) := by omega
 constructor
 ·intro ad w' ha hroom hst;subst ha;have hst' : ∀ z : Array Value, z = zerosOf zv i.size m.toNat → (storeCells (ad.add (n * i.size)) z.toList 0).run P w = .ok () w' := fun z hz => by rw [hz]; exact hst
  unfold Builtin.append_;simp only [h0, h1, List.getElem?_toArray, List.getElem?_cons_zero, List.getElem?_cons_succ, Sem.run_bind, run_underlying hu, run_underlying hx, Result.andThen_ok, run_sizeOf hi, Sem.run_pure];by_cases hz0 : m.toNat * i.size = 0
  ·have := hst' #[] (by simp [zerosOf, hz0])
   simp at this;simp [asInt, asIntOf, hw, b1, b2, typeInfo, hi, hroom, hz0, this]
  ·have := hst' (Builtin.zeroCells zv.cells m.toNat) (by simp only [zerosOf]; rw [if_neg hz0])
   simp [asInt, asIntOf, hw, b1, b2, typeInfo, hi, hroom, hz0, zeroValue, hz, this]
 ·intro olds hg hold;refine ⟨grownCap w (n + m.toNat) cap e, Builtin.zeroCells zv.cells (grownCap w (n + m.toNat) cap e - (n + m.toNat)), grownCap_ge _ _ _ _, ?_, by rw [size_zeroCells', hzs], ?_⟩
  ·have := grownCap_le_maxLen w (n + m.toNat) cap e (by simp only [maxLen]; omega)
   simp only [maxLen] at this; omega
  ·have hn : ¬ (n + m.toNat ≤ cap) := by omega
   have h63 : ¬ (9223372036854775807 < ((n : Int) + (m.toNat : Int))) := by omega
   have h48 : ¬ (281474976710656 < Builtin.nextslicecap (n + m.toNat) cap * i.bytes) := by
    have := growslice_fits (need := n + m.toNat) (old := cap) (bytes := i.bytes) hg (by omega); omega
   unfold Builtin.append_;simp only [h0, h1, List.getElem?_toArray, List.getElem?_cons_zero, List.getElem?_cons_succ, Sem.run_bind, run_underlying hu, run_underlying hx, Result.andThen_ok, run_sizeOf hi, Sem.run_pure];by_cases hz0 : m.toNat * i.size = 0
   ·have : zerosOf zv i.size m.toNat = #[] := by simp [zerosOf, hz0]
    rw [this];simp [asInt, asIntOf, hw, b1, b2, hn, h48, typeInfo, hi, zeroValue, hz, Question.forced, hold, hz0, newRow, grownCap];intro hbad; exfalso; omega
   ·have : zerosOf zv i.size m.toNat = Builtin.zeroCells zv.cells m.toNat := by simp only [zerosOf]; rw [if_neg hz0]
    rw [this];simp [asInt, asIntOf, hw, b1, b2, hn, h48, typeInfo, hi, zeroValue, hz, Question.forced, hold, hz0, newRow, grownCap];intro hbad; exfalso; omega
theorem app_zero_none {ts : Array TypeId} {t tx e ty : TypeId} {k : IntKind} {i : TypeInfo} (h0 : ts[0]? = some t) (h1 : ts[1]? = some tx) (hu : P.underlying t = some (.slice e)) (hi : P.info? e = some i)
  (hx : P.underlying tx = some (.int k)) {k' : IntKind} {m : Int} (hm : 0 ≤ m) (hm0 : m.toNat = 0) {a : Option Addr} {n cap : Nat} (hn : n ≤ cap) :
  (Builtin.append_ ts ty #[.slice a n cap, .int k' m]).run P w = .ok (.slice a n cap) w := by
 have hm' : m = 0 := by omega
 subst hm';have hw : IntKind.i64.wrap 0 = 0 := IntWalk.i64_in _ (by omega)
 unfold Builtin.append_;simp only [h0, h1, List.getElem?_toArray, List.getElem?_cons_zero, List.getElem?_cons_succ, Sem.run_bind, run_underlying hu, run_underlying hx, Result.andThen_ok, run_sizeOf hi, Sem.run_pure]
 cases a <;> simp [asInt, asIntOf, hw, typeInfo, hi, hn, storeCells]
theorem intTy {t : TypeId} {k : IntKind} (h : tyInt P t = some k) : P.underlying t = some (.int k) := by
 unfold tyInt at h
 cases hu : P.underlying t with
 | none => rw [hu] at h; cases h
 | some d => rw [hu] at h; cases d <;> first | (cases h; rfl) | cases h
theorem append_sim (hr : Rel w G S) {ts : Array TypeId} {ty : TypeId} {x y : LV} {xv yv : Value} (hx : LVRel w G x xv) (hy : LVRel w G y yv) :
  Sim P w G S (Builtin.append_ ts ty #[xv, yv]) (appendT P ts x y) (fun w' G' lv v => LVRel w' G' lv v) := by
 intro lv S' h hf;unfold appendT at h
 cases h0 : ts[0]? with
 | none => simp [h0, T.run] at h
 | some t =>
 cases he : tyElem P t with
 | none => simp [h0, he, T.run] at h
 | some p =>
 obtain ⟨e, es⟩ := p;simp only [h0, Option.bind_some, he] at h
 cases hz : zeroD P e with
 | none => rw [hz] at h; cases h
 | some z =>
 rw [hz] at h;simp only at h;split at h
 case isFalse => cases h
 rename_i hzl;obtain ⟨hu, i, hi, hes⟩ := elem_under he;obtain ⟨i2, zv, hi2, hzv, hzl2, hzo, hzc⟩ := zeroD_rel hz;rw [hi] at hi2; cases hi2;have hzs : zv.cells.size = i.size := by omega
 have hby : tyBytes P e = i.bytes := by simp [tyBytes, hi]
 rw [hby] at h;subst hes
 cases h1 : ts[1]? with
 | none => simp [h1, T.run] at h
 | some tx =>
 simp only [h1, Option.bind_some] at h
 cases hti : tyInt P tx with
 | some k =>
  rw [hti] at h;have hux := intTy hti
  cases y with
  | d y =>
   cases y with
   | int k' m =>
    simp only at h;split at h
    case isFalse => cases h
    rename_i hc
    cases hy with | d _ _ hy => cases hy with | int _ _ =>
    refine grow_sim (e := e) hr hx (news := zerosOf zv i.size m.toNat) (fun q hq => by rw [List.eq_of_mem_replicate hq]; exact hzl) (fun q hq => by rw [List.eq_of_mem_replicate hq]; exact hzo) (by rw [zeros_size hzs]; simp) ?_ ?_
     (fun a n cap hxv hfit => by
      subst hxv;rw [List.length_replicate] at hfit ⊢;exact app_zeros h0 h1 hu hi hzv hzs hux ⟨hc.1, hc.2.1⟩ hc.2.2 hfit)
     (fun a n cap hxv hnil hn => by
      subst hxv;exact app_zero_none h0 h1 hu hi hux hc.1 (by have := congrArg List.length hnil; simpa using this) hn) lv S' h hf
    ·intro a b q d ha hb;rw [List.getElem?_replicate] at ha;split at ha
     case isFalse => cases ha
     cases ha
     have hbl : b < i.size := by have := (List.getElem?_eq_some_iff.1 hb).1; omega
     rw [zeros_get hzs (by assumption) hbl]
     have hv : zv.cells[b]? = some (zv.cells[b]'(by omega)) := Array.getElem?_eq_getElem (by omega)
     exact ⟨_, hv, (hzc b d _ hb hv w G.St).1⟩
    ·intro v hv;obtain ⟨q, hq⟩ := Array.getElem?_of_mem hv;have hlt : q < m.toNat * i.size := by have := (Array.getElem?_eq_some_iff.1 hq).1; rw [zeros_size hzs] at this; exact this
     have he : 0 < i.size := by
      rcases Nat.eq_zero_or_pos i.size with h | h
      ·simp [h] at hlt
      ·exact h
     have hj : q % i.size < i.size := Nat.mod_lt _ he;have := zeros_get (zv := zv) (sz := i.size) (m := m.toNat) (i := q / i.size) (j := q % i.size) hzs ((Nat.div_lt_iff_lt_mul he).2 hlt) hj;rw [Nat.mul_comm, Nat.div_add_mod, hq] at this;have hd : z.cells[q % i.size]? = some (z.cells[q % i.size]'(by omega)) := List.getElem?_eq_getElem (by omega)
     exact (hzc _ _ v hd this.symm w G.St).2
   | _ => cases h
  | _ => cases h
 | none =>
  rw [hti] at h;simp only at h;split at h
  case isFalse => cases h
  rename_i hsome;obtain ⟨d, hux⟩ := Option.isSome_iff_exists.1 hsome;obtain ⟨ys, news, hsrc, hk⟩ := src_rel (P := P) hr hy h;exact grow_sim (e := e) hr hx hsrc.sized hsrc.ones hsrc.size hsrc.row hsrc.one
   (fun a n cap hxv hfit => by subst hxv; exact app_ok h0 h1 hu hi hzv hzs hux (int_of hti hux) hsrc hfit)
   (fun a n cap hxv hnil hn => by subst hxv; exact app_none h0 h1 hu hi hux (int_of hti hux) hsrc hnil hn) lv S' hk hf
theorem copy_sim (hr : Rel w G S) {ts : Array TypeId} {ty : TypeId} {x y : LV} {xv yv : Value} (hx : LVRel w G x xv) (hy : LVRel w G y yv) :
  Sim P w G S (Builtin.copy_ ts ty #[xv, yv]) (copyT P ts x y) (fun w' G' lv v => LVRel w' G' lv v) := by
 intro lv S' h hf;unfold copyT at h
 cases h0 : ts[0]? with
 | none => simp [h0, T.run] at h
 | some t =>
 cases he : tyElem P t with
 | none => simp [h0, he, T.run] at h
 | some p =>
 obtain ⟨e, es⟩ := p;simp only [h0, Option.bind_some, he] at h;obtain ⟨hu, i, hi, hes⟩ := elem_under he;obtain ⟨ys, news, hsrc, hk⟩ := src_rel (P := P) hr hy h
 cases x with
 | ar l sz lo n =>
  simp only at hk;split at hk
  case isFalse => cases hk
  rename_i hse;subst hse;obtain ⟨sz', xs, fz, hl, hk⟩ := arrT_run hk
  cases fz with
  | true => cases hk
  | false =>
  simp only [Bool.false_eq_true, if_false] at hk;split at hk
  case isFalse => cases hk
  rename_i hn;have ha := hr.live hl
  cases hx with
  | ar _ _ _ _ cap a hd hsz hb hc haddr =>
  have hsz' : sz = sz' := hsz.symm.trans ha.esz;subst hsz';rw [T.run_bind, setT_run hl] at hk;obtain ⟨rfl, rfl⟩ : LV.d (.int .i64 (min ys.length n : Nat)) = lv ∧ S.putArr l sz (xs.take lo ++ ys.take n ++ xs.drop (lo + min ys.length n)) false = S' := by cases hk; exact ⟨rfl, rfl⟩
  have hxl : (xs.take lo ++ ys.take n ++ xs.drop (lo + min ys.length n)).length = xs.length := by simp; omega
  have hlen := hsrc.len w rfl;have hgetn : ∀ k, (xs.take lo ++ ys.take n ++ xs.drop (lo + min ys.length n))[k]? = if lo ≤ k ∧ k < lo + min ys.length n then ys[k - lo]? else xs[k]? := by
   intro k;by_cases h1 : k < lo
   ·rw [List.append_assoc, List.getElem?_append_left (by simp; omega), List.getElem?_take, if_pos h1, if_neg (by omega)]
   ·by_cases h2 : k < lo + min ys.length n
    ·rw [List.append_assoc, List.getElem?_append_right (by simp; omega), List.getElem?_append_left (by simp; omega), if_pos (by omega), List.getElem?_take]
     simp only [List.length_take];rw [show k - min lo xs.length = k - lo from by omega, if_pos (by omega)]
    ·rw [List.getElem?_append_right (by simp; omega), if_neg (by omega), List.getElem?_drop]
     congr 1; simp; omega
  have hm : min ys.length n ≤ ys.length := Nat.min_le_left _ _;have hfirst := hsrc.firstN w rfl _ hm;have hmn : Nat.min ys.length n = min ys.length n := rfl;have hrun0 : ∀ w', (match a with | some ad => (storeCells ad (news.extract 0 (min ys.length n * sz)).toList 0).run P w = .ok () w' | none => w' = w) →
    (Builtin.copy_ ts ty #[.slice a n cap, yv]).run P w = .ok (goInt (min ys.length n : Nat)) w' := by
   intro w' hst;unfold Builtin.copy_;simp only [h0, List.getElem?_toArray, List.getElem?_cons_zero, List.getElem?_cons_succ, Sem.run_bind, run_underlying hu, Result.andThen_ok, run_sizeOf hi, hlen, hmn, ← hes, hfirst]
   cases a with
   | none => simp only at hst; subst hst; rfl
   | some ad => simp only at hst; simp only [hst, Result.andThen_ok, Sem.run_pure, Sem.run_bind]
  by_cases hcp : 0 < cap
  ·obtain ⟨c, e', f, hh, hcs, hxr, hown⟩ := ha.row (by omega)
   simp only [Bool.false_eq_true, if_false] at hown;have hadr := haddr hcp;subst hadr;have hlo : lo * sz + cap * sz ≤ G.cap l * sz := by rw [← Nat.add_mul]; exact Nat.mul_le_mul_right _ hb
   have hmc : min ys.length n * sz ≤ cap * sz := Nat.mul_le_mul_right _ (by omega)
   have hns : min ys.length n * sz ≤ news.size := by rw [hsrc.size]; exact Nat.mul_le_mul_right _ hm
   have hexl : (news.extract 0 (min ys.length n * sz)).toList.length = min ys.length n * sz := by simp; omega
   have hst := run_storeCells_at' (P := P) (vs := (news.extract 0 (min ys.length n * sz)).toList) (o := (G.addr l).2 + lo * sz) hh (by rw [hexl]; omega) hown.2 (fun v hv => hsrc.one v (by
    obtain ⟨k, hk⟩ := List.getElem?_of_mem hv;rw [Array.getElem?_toList, Array.getElem?_extract] at hk;split at hk
    ·exact Array.mem_of_getElem? hk
    ·cases hk))
   obtain ⟨e1, e2, e3⟩ := Ext.setCells (o := (G.addr l).2 + lo * sz) (vs := (news.extract 0 (min ys.length n * sz)).toList) hr.wf hown.1;refine ⟨_, _, G, hrun0 _ hst, .d _ _ (.int _ _), hr.putArr e1 e2 e3 hl hxl ?_, e1, DomLe.refl _ _ _⟩;refine ⟨ha.dom, ha.esz, ?_, ?_, by rw [hxl]; exact ha.len, fun _ => ⟨_, e', f, heap_setCells_at _ hh, by rw [seg_size]; exact hcs, ?_, ?_⟩⟩
   ·intro q hq;simp only [List.mem_append] at hq;rcases hq with (hq | hq) | hq
    ·exact ha.hz q (List.mem_of_mem_take hq)
    ·exact hsrc.sized q (List.mem_of_mem_take hq)
    ·exact ha.hz q (List.mem_of_mem_drop hq)
   ·intro q hq;simp only [List.mem_append] at hq;rcases hq with (hq | hq) | hq
    ·exact ha.ho q (List.mem_of_mem_take hq)
    ·exact hsrc.ones q (List.mem_of_mem_take hq)
    ·exact ha.ho q (List.mem_of_mem_drop hq)
   ·intro k j q d g1 g2;rw [hgetn] at g1;rw [seg_get, hexl];have hjl : j < q.cells.length := (List.getElem?_eq_some_iff.1 g2).1;split at g1
    ·rename_i hk2;have hqz : q.cells.length = sz := hsrc.sized q (List.mem_of_getElem? g1);obtain ⟨v, v1, v2⟩ := hsrc.row _ j q d g1 g2;have hks : k * sz = lo * sz + (k - lo) * sz := by rw [← Nat.add_mul]; congr 1; omega
     have hlt : (k - lo) * sz + sz ≤ min ys.length n * sz := by rw [← Nat.succ_mul]; exact Nat.mul_le_mul_right _ (by omega)
     rw [if_pos (by omega), show (G.addr l).2 + k * sz + j - ((G.addr l).2 + lo * sz) = (k - lo) * sz + j from by omega]
     refine ⟨v, ?_, v2.ext hr.wf e1⟩;rw [Array.getElem?_toList, Array.getElem?_extract, if_pos (by omega)]
     simpa using v1
    ·rename_i hk2;have hqz : q.cells.length = sz := ha.hz q (List.mem_of_getElem? g1);obtain ⟨v, v1, v2⟩ := hxr k j q d g1 g2;have hne : ¬ ((G.addr l).2 + lo * sz ≤ (G.addr l).2 + k * sz + j ∧ (G.addr l).2 + k * sz + j < (G.addr l).2 + lo * sz + min ys.length n * sz ∧ (G.addr l).2 + k * sz + j < c.size) := by
      rintro ⟨b1, b2, _⟩;by_cases hkl : k < lo
      ·have : k * sz + sz ≤ lo * sz := by rw [← Nat.succ_mul]; exact Nat.mul_le_mul_right _ hkl
       omega
      ·have : (lo + min ys.length n) * sz ≤ k * sz := Nat.mul_le_mul_right _ (by omega)
       rw [Nat.add_mul] at this;omega
     rw [if_neg hne];exact ⟨v, v1, v2.ext hr.wf e1⟩
   ·simp only [Bool.false_eq_true, if_false];exact ⟨hown.1, by simpa [freeB, seg_size] using hown.2⟩
  ·have hn0 : n = 0 := by omega
   subst hn0;have hxs : xs.take lo ++ ys.take 0 ++ xs.drop (lo + min ys.length 0) = xs := by simp
   have hput : Rel w G (S.putArr l sz (xs.take lo ++ ys.take 0 ++ xs.drop (lo + min ys.length 0)) false) := by
    rw [hxs];exact hr.putArr (Ext.refl w G) (Keep.refl w G _) hr.wf hl rfl ha
   refine ⟨_, w, G, hrun0 w ?_, .d _ _ (.int _ _), hput, Ext.refl w G, DomLe.refl _ _ _⟩
   cases a with
   | none => rfl
   | some ad => simp [storeCells]
 | _ => cases hk
end Go.VM
end
section
namespace Go.VM
open Go.RowKit
variable {w w' w1 w2 : World} {G G' G1 G2 : Gh} {S S' S1 S2 : St} {P : Program}
theorem Sim.pure' {α β : Type} {m : Sem α} {t : T β} {R : World → Gh → β → α → Prop} (hr : Rel w G S) (h : ∀ b S', t.run S = .ok (b, S') → S' = S ∧ ∃ a, m.run P w = .ok a w ∧ R w G b a) : Sim P w G S m t R := by
 intro b S' hb _;obtain ⟨rfl, a, h1, h2⟩ := h b S' hb;exact ⟨a, w, G, h1, h2, hr, Ext.refl w G, DomLe.refl _ _ _⟩
theorem fieldAddr_sim (hr : Rel w G S) {t : TypeId} {f : Nat} {x : LV} {xv : Value} (hx : LVRel w G x xv) :
  Sim P w G S (Instr.fieldAt t xv f) (fieldAddrT P t f x) (fun w' G' lv v => LVRel w' G' lv v) := by
 refine Sim.pure' hr fun lv S' h => ?_;unfold fieldAddrT at h
 cases hf : tyField P t f with
 | none => rw [hf] at h; cases h
 | some p =>
  obtain ⟨o, ft, n⟩ := p;rw [hf] at h;simp only at h;obtain ⟨fs, fd, i, hu, hfd, ho, hft, hi, hn⟩ := field_under hf;split at h
  ·cases h
  rename_i hn0;have hrun : ∀ a : Addr, (Instr.fieldAt t (.pointer (some a)) f).run P w = .ok (.pointer (some (a.add o))) w := by
   intro a;subst ho hft;simp [Instr.fieldAt, run_underlying hu, hfd, Instr.sureAddr, fieldPlace, run_sizeOf hi, show i.size ≠ 0 from by omega]
  cases hx with
  | ptr id off hd =>
   cases h
   refine ⟨rfl, _, hrun _, ?_⟩;rw [addr_add]; exact .ptr _ _ hd
  | elp l sz k off hd hs hk =>
   cases h
   refine ⟨rfl, _, hrun _, ?_⟩;rw [addr_add, Nat.add_assoc]; exact .elp _ _ _ _ hd hs hk
  | cp cs b off hs ho f h1 h2 =>
   cases h
   refine ⟨rfl, _, hrun _, ?_⟩;rw [addr_add];refine .cp _ _ _ hs (fun d hd => ho d (List.mem_of_mem_drop hd)) (fun j => f (o + j)) ?_ ?_
   ·intro j d hj;rw [List.getElem?_drop] at hj;rw [Nat.add_assoc]; exact h1 _ _ hj
   ·intro j d hj;rw [List.getElem?_drop] at hj;exact h2 _ _ hj
  | _ => cases h
theorem run_part_agg {t : TypeId} {i : TypeInfo} (ha : tyAgg P t = some true) (hi : P.info? t = some i) (cs : Array Value) (o : Nat) :
  (part t cs o).run P w = .ok (.agg (cs.extract o (o + i.size))) w := by
 simp [part, run_isAgg ha, run_sizeOf hi]
theorem run_part_one {t : TypeId} (ha : tyAgg P t = some false) {cs : Array Value} {o : Nat} {v : Value} (h : cs[o]? = some v) :
  (part t cs o).run P w = .ok v w := by
 simp [part, run_isAgg ha, h]
theorem field_sim (hr : Rel w G S) {t : TypeId} {f : Nat} {x : LV} {xv : Value} (hx : LVRel w G x xv) :
  Sim P w G S (Instr.field t xv f) (fieldT P t f x) (fun w' G' lv v => LVRel w' G' lv v) := by
 refine Sim.pure' hr fun lv S' h => ?_;unfold fieldT at h
 cases hf : tyField P t f with
 | none => rw [hf] at h; cases h
 | some p =>
  obtain ⟨o, ft, n⟩ := p;rw [hf] at h;simp only at h;obtain ⟨fs, fd, i, hu, hfd, ho, hft, hi, hn⟩ := field_under hf;have hrun : ∀ cs, (Instr.field t (.agg cs) f).run P w = (part ft cs o).run P w := by
   intro cs;subst ho hft;simp [Instr.field, run_underlying hu, hfd, asAgg]
  subst hn;split at h
  ·rename_i cs ha;split at h
   case isFalse => cases h
   rename_i hle
   cases h
   cases hx with | agg _ vs hl hh ho1 =>
   refine ⟨rfl, _, (hrun vs).trans (run_part_agg ha hi vs o), .agg _ _ (by simp; omega) ?_ ?_⟩
   ·intro j c v h1 h2;rw [Array.getElem?_extract] at h2;split at h2
    ·rw [List.getElem?_take, if_pos (by omega), List.getElem?_drop] at h1
     exact hh _ _ _ h1 h2
    ·cases h2
   ·intro j c v h1 h2;rw [Array.getElem?_extract] at h2;split at h2
    ·rw [List.getElem?_take, if_pos (by omega), List.getElem?_drop] at h1
     exact ho1 _ _ _ h1 h2
    ·cases h2
  ·rename_i cs ha
   cases hc : cs[o]? with
   | none => rw [hc] at h; cases h
   | some c =>
    rw [hc] at h
    cases h
    cases hx with | agg _ vs hl hh ho1 =>
    have hlt : o < vs.size := by have := (List.getElem?_eq_some_iff.1 hc).1; omega
    have hv : vs[o]? = some vs[o] := Array.getElem?_eq_getElem hlt;exact ⟨rfl, _, (hrun vs).trans (run_part_one ha hv), hh _ _ _ hc hv⟩
  ·rename_i cs ha;split at h
   case isFalse => cases h
   rename_i hle
   cases h
   cases hx with | d _ _ hx => cases hx with | agg _ vs hl ho1 hh =>
   refine ⟨rfl, _, (hrun vs).trans (run_part_agg ha hi vs o), .d _ _ (.agg _ _ (by simp; omega) (fun d hd => ho1 d (List.mem_of_mem_drop (List.mem_of_mem_take hd))) ?_)⟩
   intro j c v h1 h2;rw [Array.getElem?_extract] at h2;split at h2
   ·rw [List.getElem?_take, if_pos (by omega), List.getElem?_drop] at h1
    exact hh _ _ _ h1 h2
   ·cases h2
  ·rename_i cs ha
   cases hc : cs[o]? with
   | none => rw [hc] at h; cases h
   | some c =>
    rw [hc] at h
    cases h
    cases hx with | d _ _ hx => cases hx with | agg _ vs hl ho1 hh =>
    have hlt : o < vs.size := by have := (List.getElem?_eq_some_iff.1 hc).1; omega
    have hv : vs[o]? = some vs[o] := Array.getElem?_eq_getElem hlt;exact ⟨rfl, _, (hrun vs).trans (run_part_one ha hv), .d _ _ (hh _ _ _ hc hv)⟩
  ·cases h
theorem elemOf_rel {t e : TypeId} {i : TypeInfo} {xs : List D} {xv : Value} {k : IntKind} {n : Int} {lv : LV} (hu : P.underlying t = some (.slice e)) (hi : P.info? e = some i) (hx : Rep w G.St (.sl xs) xv)
  (h : (elemOf xs i.size n).run S = .ok (lv, S')) : S' = S ∧ ∃ a, (Instr.indexAt t xv (.int k n)).run P w = .ok a w ∧ LVRel w G lv a := by
 unfold elemOf at h;split at h
 case isFalse => cases h
 rename_i hn
 cases hxi : xs[n.toNat]? with
 | none => rw [hxi] at h; cases h
 | some x =>
  rw [hxi] at h;simp only at h;split at h
  case isFalse => cases h
  rename_i hlen
  cases h
  have hlt : n.toNat < xs.length := (List.getElem?_eq_some_iff.1 hxi).1;refine ⟨rfl, ?_⟩
  cases hx with
  | empty a cap hc => simp at hlt
  | sl _ b off cap sz hs hc hm hz ho f h1 h2 =>
   have hsz : sz = i.size := (hz x (List.mem_of_getElem? hxi)).symm.trans hlen;refine ⟨.pointer (some ⟨b, off + n.toNat * i.size, none⟩), ?_, ?_⟩
   ·simp only [Instr.indexAt, asIntOf, Sem.run_bind, Sem.run_pure, Result.andThen_ok, run_underlying hu];simp [show 0 ≤ n ∧ n < (xs.length : Int) from ⟨hn, by omega⟩, run_sizeOf hi, addr_add]
   ·refine .cp _ _ _ hs (ho x (List.mem_of_getElem? hxi)) (fun j => f n.toNat j) ?_ ?_
    ·intro j d hj; rw [← hsz]; exact h1 _ _ _ _ hxi hj
    ·intro j d hj; exact h2 _ _ _ _ hxi hj
theorem indexAddr_sim (hr : Rel w G S) {t : TypeId} {x n : LV} {xv nv : Value} (hx : LVRel w G x xv) (hn : LVRel w G n nv) :
  Sim P w G S (Instr.indexAt t xv nv) (indexAddrT P t x n) (fun w' G' lv v => LVRel w' G' lv v) := by
 refine Sim.pure' hr fun lv S' h => ?_;unfold indexAddrT at h;split at h
 case h_2 => cases h
 rename_i k m
 cases hn with | d _ _ hn => cases hn with | int _ _ =>
 cases he : tyElem P t with
 | some p =>
  obtain ⟨e, es⟩ := p;rw [he] at h;simp only at h;obtain ⟨hu, i, hi, hes⟩ := elem_under he;subst hes;split at h
  ·cases hx with | d _ _ hx => exact elemOf_rel hu hi hx h
  ·cases hx with | lit _ a hx _ _ => exact elemOf_rel hu hi hx h
  ·rename_i l sz lo n;split at h
   case isFalse => cases h
   rename_i hc;obtain ⟨hc1, hc2, hc3⟩ := hc
   cases h
   cases hx with
   | ar _ _ _ _ cap a hd hs hb hcap ha =>
    rw [ha (by omega)]
    refine ⟨rfl, .pointer (some ⟨(G.addr l).1, (G.addr l).2 + lo * sz + m.toNat * i.size, none⟩), ?_, ?_⟩
    ·simp only [Instr.indexAt, asIntOf, Sem.run_bind, Sem.run_pure, Result.andThen_ok, run_underlying hu];simp [show 0 ≤ m ∧ m < (n : Int) from ⟨hc2, hc3⟩, run_sizeOf hi, addr_add]
    ·have := LVRel.elp (w := w) (G := G) l sz (lo + m.toNat) 0 hd hs (by omega)
     rw [Nat.add_mul, Nat.add_zero, ← Nat.add_assoc] at this;rw [← hc1]; exact this
  ·cases h
 | none =>
  rw [he] at h;simp only at h
  cases har : tyArr P t with
  | none => rw [har] at h; cases h
  | some p =>
   obtain ⟨len, e, es⟩ := p;rw [har] at h;simp only at h;obtain ⟨hu, i, hi, hes⟩ := arr_under har;subst hes;split at h
   case isFalse => cases h
   rename_i hm;have hrun : ∀ a : Addr, (Instr.indexAt t (.pointer (some a)) (.int k m)).run P w = .ok (.pointer (some (a.add (m.toNat * i.size)))) w := by
    intro a;simp only [Instr.indexAt, asIntOf, Sem.run_bind, Sem.run_pure, Result.andThen_ok, run_underlying hu, Instr.sureAddr];simp [hm, run_sizeOf hi]
   cases hx with
   | ptr id off hd => cases h; exact ⟨rfl, _, hrun _, by rw [addr_add]; exact .ptr _ _ hd⟩
   | elp l sz q off hd hs hk => cases h; exact ⟨rfl, _, hrun _, by rw [addr_add, Nat.add_assoc]; exact .elp _ _ _ _ hd hs hk⟩
   | cp cs b off hs ho f h1 h2 =>
    cases h
    refine ⟨rfl, _, hrun _, ?_⟩;rw [addr_add];refine .cp _ _ _ hs (fun d hd => ho d (List.mem_of_mem_drop hd)) (fun j => f (m.toNat * i.size + j)) ?_ ?_
    ·intro j d hj;rw [List.getElem?_drop] at hj;rw [Nat.add_assoc]; exact h1 _ _ hj
    ·intro j d hj;rw [List.getElem?_drop] at hj;exact h2 _ _ hj
   | _ => cases h
theorem index_sim (hr : Rel w G S) {t : TypeId} {x n : LV} {xv nv : Value} (hx : LVRel w G x xv) (hn : LVRel w G n nv) :
  Sim P w G S (Instr.index t xv nv) (indexT P t x n) (fun w' G' lv v => LVRel w' G' lv v) := by
 refine Sim.pure' hr fun lv S' h => ?_;unfold indexT at h;split at h
 ·rename_i s k m
  cases hn with | d _ _ hn => cases hn with | int _ _ =>
  cases hx with | d _ _ hx => cases hx with | str b hb =>
  split at h
  case isFalse => cases h
  rename_i hts;obtain ⟨hts, hm⟩ := hts
  cases hc : b.data.toList[m.toNat]? with
  | none => rw [hc] at h; cases h
  | some c =>
   rw [hc] at h
   cases h
   refine ⟨rfl, .int .u8 c.toNat, ?_, .d _ _ (.int _ _)⟩;have hu : P.underlying t = some .string := by
    unfold tyStr at hts
    cases hu : P.underlying t with
    | none => rw [hu] at hts; cases hts
    | some d => rw [hu] at hts; cases d <;> first | rfl | cases hts
   have hb2 : b[m.toNat]? = some c := by
    have h1 : m.toNat < b.data.size := by have := (List.getElem?_eq_some_iff.1 hc).1; simpa using this
    have h2 : m.toNat < b.size := h1;rw [getElem?_pos b m.toNat h2];have := (List.getElem?_eq_some_iff.1 hc).2;rw [← this]; rfl
   simp [Instr.index, asIntOf, run_underlying hu, hm, hb2]
 ·rename_i cs k m
  cases hn with | d _ _ hn => cases hn with | int _ _ =>
  cases hx with | d _ _ hx => cases hx with | agg _ vs hl ho hh =>
  cases har : tyArr P t with
  | none => rw [har] at h; cases h
  | some p =>
   obtain ⟨len, e, es⟩ := p;rw [har] at h;simp only at h;obtain ⟨hu, i, hi, hes⟩ := arr_under har;subst hes;split at h
   case isFalse => cases h
   rename_i hc;obtain ⟨h1, h2, h3, h4⟩ := hc
   cases hcs : cs[m.toNat]? with
   | none => rw [hcs] at h; cases h
   | some c =>
    rw [hcs] at h
    cases h
    have hlt : m.toNat < vs.size := by have := (List.getElem?_eq_some_iff.1 hcs).1; omega
    have hv : vs[m.toNat]? = some vs[m.toNat] := Array.getElem?_eq_getElem hlt;refine ⟨rfl, vs[m.toNat], ?_, .d _ _ (hh _ _ _ hcs hv)⟩;simp only [Instr.index, asIntOf, Sem.run_bind, Sem.run_pure, Result.andThen_ok, run_underlying hu];simp [show 0 ≤ m ∧ m < (len : Int) from ⟨h1, h2⟩, run_sizeOf hi, h4];exact run_part_one h3 hv
 ·cases h
end Go.VM
end
section
namespace Go.VM
open Go.RowKit
variable {w w' w1 w2 : World} {G G' G1 G2 : Gh} {S S' S1 S2 : St} {P : Program}
theorem str_size (b : ByteArray) : b.data.toList.length = b.size := by simp
theorem strTy {t : TypeId} (h : tyStr P t = true) : P.underlying t = some .string := by
 unfold tyStr at h
 cases hu : P.underlying t with
 | none => rw [hu] at h; cases h
 | some d => rw [hu] at h; cases d <;> first | rfl | cases h
def OptRel (w : World) (G : Gh) : Option LV → Option Value → Prop
 | none, none => True
 | some lv, some v => LVRel w G lv v
 | _, _ => False
theorem bound_rel {o : Option LV} {ov : Option Value} {n : Nat} {i : Int} (h : OptRel w G o ov) (hb : bound o n = some i) : (ov = none ∧ i = n ∧ o = none) ∨ ∃ k, ov = some (.int k i) := by
 cases o with
 | none =>
  cases ov with
  | none => simp [bound] at hb; exact .inl ⟨rfl, hb.symm, rfl⟩
  | some v => exact h.elim
 | some lv =>
  cases ov with
  | none => exact h.elim
  | some v =>
   right;unfold bound at hb;split at hb
   ·rename_i he; cases he
   ·rename_i k j he
    cases he
    cases h with | d _ _ h => cases h with | int _ _ => cases hb; exact ⟨k, rfl⟩
   ·cases hb
theorem run_sliceBound {k : IntKind} {i : Int} {y : Nat} {c : BoundsCode} (h : 0 ≤ i ∧ i ≤ y) : (Instr.sliceBound (.int k i) y c).run P w = .ok i.toNat w := by
 simp [Instr.sliceBound, asIntOf, h]
theorem cut_rel {α : Type} {n len cap : Nat} {lo hi mx : Option LV} {lov hiv mxv : Option Value} {k : Nat → Nat → T α} {r : α × St} {isSlice : Bool} (h1 : OptRel w G lo lov) (h2 : OptRel w G hi hiv) (h3 : OptRel w G mx mxv)
  (hn : n = len) (hcap : len ≤ cap) (hmh : mx.isSome = true → hi.isSome = true) (h : (cut n lo hi mx k).run S = .ok r) :
  ∃ l h m, l ≤ h ∧ h ≤ len ∧ h ≤ m ∧ m ≤ cap ∧ (Instr.sliceBounds isSlice len cap lov hiv mxv).run P w = .ok (l, h, m) w ∧ (k l h).run S = .ok r := by
 subst hn;unfold cut at h;split at h
 case h_2 => cases h
 rename_i l hh m e1 e2 e3;split at h
 case isFalse => cases h
 rename_i hc;obtain ⟨c1, c2, c3, c4⟩ := hc;have r1 := bound_rel h1 e1;have r2 := bound_rel h2 e2;have r3 := bound_rel h3 e3;rcases r3 with ⟨rfl, hm, rfl⟩ | ⟨k3, rfl⟩
 ·refine ⟨l.toNat, hh.toNat, cap, by omega, by omega, by omega, Nat.le_refl _, ?_, h⟩
  rcases r2 with ⟨rfl, hh2, _⟩ | ⟨k2, rfl⟩ <;> rcases r1 with ⟨rfl, hl, _⟩ | ⟨k1, rfl⟩
  ·subst hh2; subst hl; simp [Instr.sliceBounds]
  ·subst hh2; simp [Instr.sliceBounds, run_sliceBound (show 0 ≤ l ∧ l ≤ (n : Int) by omega)]
  ·subst hl; simp [Instr.sliceBounds, run_sliceBound (show 0 ≤ hh ∧ hh ≤ (cap : Int) by omega)]
  ·simp [Instr.sliceBounds, run_sliceBound (show 0 ≤ hh ∧ hh ≤ (cap : Int) by omega), run_sliceBound (show 0 ≤ l ∧ l ≤ (hh.toNat : Int) by omega)]
 ·have hms : hi.isSome = true := hmh (by cases mx with | none => exact h3.elim | some _ => rfl)
  rcases r2 with ⟨rfl, hh2, rfl⟩ | ⟨k2, rfl⟩
  ·cases hms
  ·refine ⟨l.toNat, hh.toNat, m.toNat, by omega, by omega, by omega, by omega, ?_, h⟩
   rcases r1 with ⟨rfl, hl, _⟩ | ⟨k1, rfl⟩
   ·subst hl; simp [Instr.sliceBounds, run_sliceBound (show 0 ≤ m ∧ m ≤ (cap : Int) by omega), run_sliceBound (show 0 ≤ hh ∧ hh ≤ (m.toNat : Int) by omega)]
   ·simp [Instr.sliceBounds, run_sliceBound (show 0 ≤ m ∧ m ≤ (cap : Int) by omega), run_sliceBound (show 0 ≤ hh ∧ hh ≤ (m.toNat : Int) by omega), run_sliceBound (show 0 ≤ l ∧ l ≤ (hh.toNat : Int) by omega)]
theorem run_sliceAt_slice {t e : TypeId} {i : TypeInfo} (hu : P.underlying t = some (.slice e)) (hi : P.info? e = some i) {a : Option Addr} {len cap l h m : Nat} {lov hiv mxv : Option Value}
  (hb : (Instr.sliceBounds true len cap lov hiv mxv).run P w = .ok (l, h, m) w) :
  (Instr.sliceAt t (.slice a len cap) lov hiv mxv).run P w = .ok (.slice (if m = l then a else a.map (·.add (l * i.size))) (h - l) (m - l)) w := by
 simp [Instr.sliceAt, Instr.slice, run_underlying hu, hb, run_sizeOf hi]
theorem slice_data {t e : TypeId} {i : TypeInfo} {xs : List D} {xv : Value} {lo hi mx : Option LV} {lov hiv mxv : Option Value} {r : LV × St} (hu : P.underlying t = some (.slice e)) (hi' : P.info? e = some i)
  (hx : Rep w G.St (.sl xs) xv) (hsz : sized i.size xs) (h1 : OptRel w G lo lov) (h2 : OptRel w G hi hiv) (h3 : OptRel w G mx mxv) (hmh : mx.isSome = true → hi.isSome = true)
  (h : (cut xs.length lo hi mx fun l h => .ret (.d (.sl (sub xs l (h - l))))).run S = .ok r) :
  r.2 = S ∧ ∃ a, (Instr.sliceAt t xv lov hiv mxv).run P w = .ok a w ∧ LVRel w G r.1 a := by
 have key : ∀ (a : Option Addr) (cap : Nat), xs.length ≤ cap → cap ≤ 9223372036854775807 → xv = .slice a xs.length cap →
   (∀ l n c, l + c ≤ cap → n ≤ c → l + n ≤ xs.length → 0 < n → Rep w G.St (.sl (sub xs l n)) (.slice (a.map (·.add (l * i.size))) n c)) →
   r.2 = S ∧ ∃ a, (Instr.sliceAt t xv lov hiv mxv).run P w = .ok a w ∧ LVRel w G r.1 a := by
  intro a cap hcap hmax hxv hrep;obtain ⟨l, hh, m, c1, c2, c3, c4, hb, hk⟩ := cut_rel (P := P) (isSlice := true) (cap := cap) h1 h2 h3 rfl hcap hmh h
  cases hk
  subst hxv;refine ⟨rfl, _, run_sliceAt_slice hu hi' hb, .d _ _ ?_⟩;by_cases hn : hh - l = 0
  ·rw [hn, show sub xs l 0 = [] from by simp [sub]]
   exact .empty _ _ (by omega)
  ·rw [if_neg (by omega)]
   exact hrep l (hh - l) (m - l) (by omega) (by omega) (by omega) (by omega)
 cases hx with
 | empty a cap hc => exact key a cap (by simp) hc rfl (fun l n c _ _ h3 h4 => by simp at h3; omega)
 | sl _ b off cap sz hs hc hm hz ho f g1 g2 =>
  refine key (some ⟨b, off, none⟩) cap hc hm rfl (fun l n c h1 h2 h3 h4 => ?_);have hse : sz = i.size := by
   have hm : xs[0]? = some (xs[0]'(by omega)) := List.getElem?_eq_getElem (by omega)
   exact (hz _ (List.mem_of_getElem? hm)).symm.trans (hsz _ (List.mem_of_getElem? hm))
  have hl : (sub xs l n).length = n := by simp [sub]; omega
  have hget : ∀ j, (sub xs l n)[j]? = if j < n then xs[l + j]? else none := by
   intro j; simp only [sub, List.getElem?_take]; split <;> simp [List.getElem?_drop]
  simp only [Option.map_some, addr_add];have := Rep.sl (w := w) (St := G.St) (sub xs l n) b (off + l * i.size) c sz hs (by omega) (by omega) (fun x hx => hz x (List.mem_of_mem_drop (List.mem_of_mem_take hx)))
   (fun x hx => ho x (List.mem_of_mem_drop (List.mem_of_mem_take hx))) (fun a j => f (l + a) j)
   (fun a j x d q1 q2 => by
    rw [hget] at q1;split at q1
    ·have := g1 (l + a) j x d q1 q2;rw [← this]; congr 2; rw [← hse, Nat.add_mul]; omega
    ·cases q1)
   (fun a j x d q1 q2 => by
    rw [hget] at q1;split at q1
    ·exact g2 (l + a) j x d q1 q2
    ·cases q1)
  rw [hl] at this;exact this
theorem slice_sim (hr : Rel w G S) {t : TypeId} {x : LV} {xv : Value} {lo hi mx : Option LV} {lov hiv mxv : Option Value} (hx : LVRel w G x xv) (h1 : OptRel w G lo lov) (h2 : OptRel w G hi hiv) (h3 : OptRel w G mx mxv)
  (hmh : mx.isSome = true → hi.isSome = true) : Sim P w G S (Instr.sliceAt t xv lov hiv mxv) (sliceT P t x lo hi mx) (fun w' G' lv v => LVRel w' G' lv v) := by
 refine Sim.pure' hr fun lv S' h => ?_;unfold sliceT at h;split at h
 ·rename_i s;split at h
  ·cases h
  rename_i hmx;have hmxn : mx = none := by cases mx <;> first | rfl | (simp at hmx)
  subst hmxn;have hmv : mxv = none := by cases mxv <;> first | rfl | exact h3.elim
  subst hmv;split at h
  case isFalse => cases h
  rename_i hts;have hu := strTy hts
  cases hx with | d _ _ hx => cases hx with | str b hb =>
  have hsz : b.data.toList.length = b.size := str_size b;obtain ⟨l, hh, m, c1, c2, c3, c4, hbd, hk⟩ := cut_rel (P := P) (isSlice := false) (cap := b.size) h1 h2 (mx := none) (mxv := none) trivial hsz (Nat.le_refl _) (fun h => by cases h) h
  cases hk
  refine ⟨rfl, .string (b.extract l hh), ?_, .d _ _ ?_⟩
  ·simp [Instr.sliceAt, Instr.slice, run_underlying hu, hbd]
  ·have := Rep.str (w := w) (St := G.St) (b.extract l hh) (by
    rw [← str_size, Lib.extract_data, List.length_take, List.length_drop, str_size]; omega)
   rw [Lib.extract_data] at this;exact this
 ·cases hx with | d _ _ hx =>
  cases he : tyElem P t with
  | none => rw [he] at h; cases h
  | some p =>
   obtain ⟨e, es⟩ := p;rw [he] at h;simp only at h;obtain ⟨hu, i, hi, hes⟩ := elem_under he;subst hes;split at h
   case isFalse => cases h
   rename_i hsz;exact slice_data hu hi hx hsz h1 h2 h3 hmh h
 ·cases hx with | lit _ a hx _ _ =>
  cases he : tyElem P t with
  | none => rw [he] at h; cases h
  | some p =>
   obtain ⟨e, es⟩ := p;rw [he] at h;simp only at h;obtain ⟨hu, i, hi, hes⟩ := elem_under he;subst hes;split at h
   case isFalse => cases h
   rename_i hsz;exact slice_data hu hi hx hsz h1 h2 h3 hmh h
 ·rename_i l sz o n
  cases he : tyElem P t with
  | none => rw [he] at h; cases h
  | some p =>
   obtain ⟨e, es⟩ := p;rw [he] at h;simp only at h;obtain ⟨hu, i, hi, hes⟩ := elem_under he;subst hes;split at h
   case isFalse => cases h
   rename_i hsz;subst hsz
   cases hx with
   | ar _ _ _ _ cap a hd hs hb hc ha =>
    obtain ⟨l1, hh, m, c1, c2, c3, c4, hbd, hk⟩ := cut_rel (P := P) (isSlice := true) (cap := cap) h1 h2 h3 rfl hc hmh h
    cases hk
    refine ⟨rfl, _, run_sliceAt_slice hu hi hbd, .ar _ _ _ _ _ _ hd hs (by omega) (by omega) (fun h0 => ?_)⟩
    rw [if_neg (by omega), ha (by omega)]
    simp only [Option.map_some, addr_add, Nat.add_mul];rw [Nat.add_assoc]
 ·cases h
theorem len1_ok {n : Nat} {lv : LV} (h : (T.ofRes (len1 n)).run S = .ok (lv, S')) : S' = S ∧ lv = .d (.int .i64 n) := by
 unfold len1 at h;split at h
 ·cases h; exact ⟨rfl, rfl⟩
 ·cases h
theorem len_sim (hr : Rel w G S) {ts : Array TypeId} {ty t : TypeId} {x : LV} {xv : Value} (ht : ts[0]? = some t) (hx : LVRel w G x xv) :
  Sim P w G S (Builtin.len_ ts ty #[xv]) (lenT P t x) (fun w' G' lv v => LVRel w' G' lv v) := by
 refine Sim.pure' hr fun lv S' h => ?_;unfold lenT at h;have hint : ∀ n : Nat, LVRel w G (.d (.int .i64 n)) (goInt n) := fun n => .d _ _ (.int _ _);split at h
 ·rename_i s hu;obtain ⟨rfl, rfl⟩ := len1_ok h
  cases hx with | d _ _ hx => cases hx with | str b hb =>
  refine ⟨rfl, goInt b.size, by simp [Builtin.len_, ht, run_underlying hu], ?_⟩
  rw [str_size]; exact hint _
 ·rename_i e xs hu;obtain ⟨rfl, rfl⟩ := len1_ok h
  cases hx with | d _ _ hx =>
  refine ⟨rfl, goInt xs.length, ?_, hint _⟩
  cases hx <;> simp [Builtin.len_, ht, run_underlying hu]
 ·rename_i e xs hu;obtain ⟨rfl, rfl⟩ := len1_ok h
  cases hx with | lit _ a hx _ _ =>
  exact ⟨rfl, goInt xs.length, by simp [Builtin.len_, ht, run_underlying hu], hint _⟩
 ·rename_i e l sz lo n hu;obtain ⟨rfl, rfl⟩ := len1_ok h
  cases hx with | ar _ _ _ _ cap a hd hs hb hc ha =>
  exact ⟨rfl, goInt n, by simp [Builtin.len_, ht, run_underlying hu], hint _⟩
 ·rename_i k e id hu;simp only [T.run] at h
  cases ho : S.obj id with
  | mp ks es =>
   rw [ho] at h
   cases h
   have hob := hr.obj id;rw [ho] at hob;obtain ⟨_, hd, hown, en, cl, hh, hs, _⟩ := hob
   cases hx with | mp _ hd2 =>
   have hno : ∀ c e f, w.heap[(G.addr (.arr id)).1]? ≠ some (.cells c e f) := by intro c e f hq; rw [hh] at hq; cases hq
   refine ⟨rfl, goInt en.size, ?_, by rw [hs]; exact hint _⟩
   simp [Builtin.len_, ht, run_underlying hu, getObj, Sem.run, hh]
  | _ => rw [ho] at h; cases h
 ·rename_i k e hu
  cases h
  cases hx with | d _ _ hx => cases hx with | nilM =>
  exact ⟨rfl, goInt 0, by simp [Builtin.len_, ht, run_underlying hu], hint _⟩
 ·rename_i n e hu
  cases h
  exact ⟨rfl, goInt n, by simp [Builtin.len_, ht, run_underlying hu], hint _⟩
 ·cases h
theorem len_vac (hr : Rel w G S) {t : TypeId} {x : LV} {xv : Value} (hx : LVRel w G x xv) : (lenT P t x).run S ≠ .vac := by
 intro h;have hv : ∀ n : Nat, n ≤ 9223372036854775807 → (T.ofRes (len1 n)).run S ≠ .vac := by
  intro n hn hq;unfold len1 at hq;rw [if_pos hn] at hq
  cases hq
 unfold lenT at h;split at h
 ·cases hx with | d _ _ hx => cases hx with | str b hb =>
  exact hv _ (by rw [str_size]; exact hb) h
 ·cases hx with | d _ _ hx =>
  cases hx with
  | empty a cap hc => exact hv 0 (by omega) h
  | sl xs b off cap sz hs hc hm _ _ f _ _ => exact hv _ (by omega) h
 ·cases hx with | lit _ a hx _ _ =>
  cases hx with
  | empty a cap hc => exact hv 0 (by omega) h
  | sl xs b off cap sz hs hc hm _ _ f _ _ => exact hv _ (by omega) h
 ·rename_i l _ _ _ _
  cases hx with | ar _ _ _ _ cap a hd hs hb hc ha =>
  exact hv _ (by have := hr.wf.max l; omega) h
 ·simp only [T.run] at h;split at h <;> cases h
 ·cases h
 ·cases h
 ·cases h
end Go.VM
end
section
namespace Go.VM
open Go.RowKit
variable {w w' w1 w2 : World} {G G' G1 G2 : Gh} {S S' S1 S2 : St} {P : Program}
theorem run_eqGuard {op : BinOp} {t : TypeId} {x y : Operand} {a b : Value} (ha : a.oneCell' = true) (hn : a ≠ .nilIface) : (eqGuard op t x y a b).run P w = .ok () w := by
 unfold eqGuard
 cases a <;> first | (simp [Value.oneCell'] at ha; done) | (exact absurd rfl hn) | skip
 all_goals (cases op <;> simp)
theorem intBin_ok {op : BinOp} {k : IntKind} {a b : Int} {lv : LV} {t : TypeId} (h : intBin op k a b = .ok lv) :
  ∃ v, (binOp op t (.int k a) (.int k b)).run P w = .ok v w ∧ LVRel w G lv v := by
 cases op <;> simp only [intBin] at h
 case quo =>
  split at h
  ·cases h
  ·rename_i hb
   cases h
   exact ⟨_, by simp [binOp, Op.intDiv, hb], .d _ _ (.int _ _)⟩
 case rem =>
  split at h
  ·cases h
  ·rename_i hb
   cases h
   exact ⟨_, by simp [binOp, Op.intDiv, hb], .d _ _ (.int _ _)⟩
 case shl => cases h
 case shr => cases h
 all_goals (cases h)
 case add => exact ⟨_, by simp [binOp, Op.intArith], .d _ _ (.int _ _)⟩
 case sub => exact ⟨_, by simp [binOp, Op.intArith], .d _ _ (.int _ _)⟩
 case mul => exact ⟨_, by simp [binOp, Op.intArith], .d _ _ (.int _ _)⟩
 case and => exact ⟨_, by simp only [binOp]; rw [if_neg (by simp)]; rfl, .d _ _ (.int _ _)⟩
 case or => exact ⟨_, by simp only [binOp]; rw [if_neg (by simp)]; rfl, .d _ _ (.int _ _)⟩
 case xor => exact ⟨_, by simp only [binOp]; rw [if_neg (by simp)]; rfl, .d _ _ (.int _ _)⟩
 case andNot => exact ⟨_, by simp only [binOp]; rw [if_neg (by simp)]; rfl, .d _ _ (.int _ _)⟩
 case eql => exact ⟨.bool (decide (a = b)), by simp only [binOp]; rw [if_neg (by simp)]; simp only [Op.intCmp, Sem.run_pure]; congr 2, .d _ _ (.bool _)⟩
 case neq => exact ⟨.bool (!decide (a = b)), by simp only [binOp]; rw [if_neg (by simp)]; simp only [Op.intCmp, Sem.run_pure]; congr 2, .d _ _ (.bool _)⟩
 all_goals exact ⟨_, by simp only [binOp]; rw [if_neg (by simp)]; simp only [Op.intCmp, Sem.run_pure], .d _ _ (.bool _)⟩
theorem run_stringOp {op : BinOp} {a b : ByteArray} {lv : LV} (h : strBin op a.data.toList b.data.toList = .ok lv) :
  ∃ v, (Op.stringOp op a b).run P w = .ok v w ∧ LVRel w G lv v := by
 have ha := Lib.toList_data a;have hb := Lib.toList_data b;have hd : ∀ l1 l2 : List UInt8, (l1 == l2) = decide (l1 = l2) := fun l1 l2 => by rw [Bool.eq_iff_iff]; simp
 cases op <;> simp only [strBin] at h
 case add =>
  split at h
  case isFalse => cases h
  rename_i hl
  cases h
  have hl1 := str_size a;have hl2 := str_size b;have hs : (a ++ b).data.toList = a.data.toList ++ b.data.toList := by simp [ByteArray.data_append]
  refine ⟨.string (a ++ b), ?_, .d _ _ ?_⟩
  ·have : ¬ (((a.size + b.size : Nat) : Int) > IntKind.i64.max) := by
    have : IntKind.i64.max = 9223372036854775807 := by decide
    rw [this]; omega
   unfold Op.stringOp;simp only [this, if_false];rfl
  ·rw [← hs];refine .str _ ?_;rw [← str_size, hs, List.length_append]; exact hl
 all_goals first
  | (cases h; done)
  | skip
 all_goals
  cases h
  refine ⟨.bool _, by simp only [Op.stringOp, ha, hb, hd]; rfl, .d _ _ (.bool _)⟩
theorem ofRes_ok {r : Res LV} {lv : LV} (h : (T.ofRes r).run S = .ok (lv, S')) : S' = S ∧ r = .ok lv := by
 cases r with
 | ok a => cases h; exact ⟨rfl, rfl⟩
 | no => cases h
 | vac => cases h
theorem equalIn_nilP {d : Nat} {t e : TypeId} (hu : P.underlying t = some (.pointer e)) (x : Option Addr) : (Op.equalIn (d + 1) t (.pointer x) (.pointer none)).run P w = .ok (x == none) w := by
 cases x <;> (simp only [Op.equalIn, Sem.run_bind, run_underlying hu, Result.andThen_ok]; rfl)
theorem equalIn_nilS {d : Nat} {t e : TypeId} (hu : P.underlying t = some (.slice e)) (x : Option Addr) (l c : Nat) : (Op.equalIn (d + 1) t (.slice x l c) (.slice none 0 0)).run P w = .ok (x == none) w := by
 cases x <;> (simp only [Op.equalIn, Sem.run_bind, run_underlying hu, Result.andThen_ok]; rfl)
theorem equalIn_bool {d : Nat} {t : TypeId} (hu : P.underlying t = some .bool) (a b : Bool) : (Op.equalIn (d + 1) t (.bool a) (.bool b)).run P w = .ok (a == b) w := by
 simp only [Op.equalIn, Sem.run_bind, run_underlying hu, Result.andThen_ok]; rfl
theorem nilP_run {op : BinOp} {t e : TypeId} {xo yo : Operand} {x : LV} {xv : Value} {lv : LV} (hu : P.underlying t = some (.pointer e)) (hx : LVRel w G x xv) (h : eqNil op (isNilP x) = .ok lv) :
  ∃ a, (do eqGuard op t xo yo xv (.pointer none); binOp op t xv (.pointer none) : Sem Value).run P w = .ok a w ∧ LVRel w G lv a := by
 cases hip : isNilP x with
 | none => rw [hip] at h; cases op <;> cases h
 | some b =>
  rw [hip] at h;have hxv : (b = true ∧ xv = .pointer none) ∨ (b = false ∧ ∃ a, xv = .pointer (some a)) := by
   unfold isNilP at hip;split at hip <;> cases hip
   ·cases hx with | d _ _ hx => cases hx with | nilP => exact .inl ⟨rfl, rfl⟩
   ·cases hx with | ptr _ _ _ => exact .inr ⟨rfl, _, rfl⟩
   ·cases hx with | elp _ _ _ _ _ _ _ => exact .inr ⟨rfl, _, rfl⟩
  have he : (Op.equal t xv (.pointer none)).run P w = .ok b w := by
   rcases hxv with ⟨rfl, rfl⟩ | ⟨rfl, a, rfl⟩
   ·exact equalIn_nilP (d := 9999) hu none
   ·exact equalIn_nilP (d := 9999) hu (some a)
  have hg : (eqGuard op t xo yo xv (.pointer none)).run P w = .ok () w := run_eqGuard (by rcases hxv with ⟨_, rfl⟩ | ⟨_, a, rfl⟩ <;> rfl) (by rcases hxv with ⟨_, rfl⟩ | ⟨_, a, rfl⟩ <;> simp)
  rw [Sem.run_bind, hg, Result.andThen_ok]
  cases op <;> simp only [eqNil] at h <;> cases h
  ·refine ⟨.bool b, ?_, .d _ _ (.bool _)⟩;rcases hxv with ⟨_, rfl⟩ | ⟨_, a, rfl⟩ <;> simp only [binOp, Sem.run_bind, he, Result.andThen_ok, Sem.run_pure]
  ·refine ⟨.bool (!b), ?_, .d _ _ (.bool _)⟩;rcases hxv with ⟨_, rfl⟩ | ⟨_, a, rfl⟩ <;> simp only [binOp, Sem.run_bind, he, Result.andThen_ok, Sem.run_pure]
theorem nilS_run {op : BinOp} {t e : TypeId} {xo yo : Operand} {x : LV} {xv : Value} {lv : LV} (hu : P.underlying t = some (.slice e)) (hx : LVRel w G x xv) (h : eqNil op (isNilS x) = .ok lv) :
  ∃ a, (do eqGuard op t xo yo xv (.slice none 0 0); binOp op t xv (.slice none 0 0) : Sem Value).run P w = .ok a w ∧ LVRel w G lv a := by
 cases hip : isNilS x with
 | none => rw [hip] at h; cases op <;> cases h
 | some b =>
  rw [hip] at h;have hrep : ∀ y ys v, Rep w G.St (.sl (y :: ys)) v → ∃ a l c, v = .slice (some a) l c := by
   intro y ys v hv
   cases hv with | sl _ _ _ _ _ _ _ _ _ _ _ _ _ => exact ⟨_, _, _, rfl⟩
  have hxv : b = false ∧ ∃ a l c, xv = .slice (some a) l c := by
   unfold isNilS at hip;split at hip <;> cases hip
   ·cases hx with | d _ _ hx => exact ⟨rfl, hrep _ _ _ hx⟩
   ·cases hx with | lit _ _ hx _ _ => exact ⟨rfl, hrep _ _ _ hx⟩
  obtain ⟨rfl, a, l, c, rfl⟩ := hxv;have he : (Op.equal t (.slice (some a) l c) (.slice none 0 0)).run P w = .ok false w := equalIn_nilS (d := 9999) hu (some a) l c;have hg : (eqGuard op t xo yo (.slice (some a) l c) (.slice none 0 0)).run P w = .ok () w := run_eqGuard rfl (by simp)
  rw [Sem.run_bind, hg, Result.andThen_ok]
  cases op <;> simp only [eqNil] at h <;> cases h
  ·exact ⟨.bool false, by simp only [binOp, Sem.run_bind, he, Result.andThen_ok, Sem.run_pure], .d _ _ (.bool _)⟩
  ·exact ⟨.bool true, by simp only [binOp, Sem.run_bind, he, Result.andThen_ok, Sem.run_pure]; rfl, .d _ _ (.bool _)⟩
theorem binS_ok {op : BinOp} {t : TypeId} {xo yo : Operand} {x y : LV} {xv yv : Value} {lv : LV} (hx : LVRel w G x xv) (hy : LVRel w G y yv) (h : binS P op t x y = .ok lv) :
  ∃ a, (do eqGuard op t xo yo xv yv; binOp op t xv yv : Sem Value).run P w = .ok a w ∧ LVRel w G lv a := by
 unfold binS at h;split at h
 ·rename_i k a k' b
  cases hx with | d _ _ hx => cases hx with | int _ _ =>
  cases hy with | d _ _ hy => cases hy with | int _ _ =>
  rw [Sem.run_bind, run_eqGuard rfl (by simp), Result.andThen_ok]
  split at h
  ·split at h
   ·cases h
   rename_i hb
   cases h
   exact ⟨_, by simp only [binOp, Op.shift]; rw [if_neg hb]; rfl, .d _ _ (.int _ _)⟩
  ·split at h
   ·cases h
   rename_i hb
   cases h
   exact ⟨_, by simp only [binOp, Op.shift]; rw [if_neg hb]; rfl, .d _ _ (.int _ _)⟩
  ·split at h
   case isFalse => cases h
   rename_i hk;subst hk;exact intBin_ok h
 ·rename_i a b
  cases hx with | d _ _ hx => cases hx with | str a _ =>
  cases hy with | d _ _ hy => cases hy with | str b _ =>
  rw [Sem.run_bind, run_eqGuard rfl (by simp), Result.andThen_ok]
  have : binOp op t (.string a) (.string b) = Op.stringOp op a b := by
   cases op <;> first | rfl | (simp [strBin] at h)
  rw [this];exact run_stringOp h
 ·rename_i a b
  cases hx with | d _ _ hx => cases hx with | bool _ =>
  cases hy with | d _ _ hy => cases hy with | bool _ =>
  rw [Sem.run_bind, run_eqGuard rfl (by simp), Result.andThen_ok]
  have he : ∀ hu : P.underlying t = some .bool, (Op.equal t (.bool a) (.bool b)).run P w = .ok (a == b) w := by
   intro hu;exact equalIn_bool (d := 9999) hu a b
  split at h
  ·rename_i hu
   cases h
   exact ⟨.bool (a == b), by simp only [binOp, Sem.run_bind, he hu, Result.andThen_ok, Sem.run_pure], .d _ _ (.bool _)⟩
  ·rename_i hu
   cases h
   exact ⟨.bool (!(a == b)), by simp only [binOp, Sem.run_bind, he hu, Result.andThen_ok, Sem.run_pure], .d _ _ (.bool _)⟩
  ·cases h
 ·cases h
theorem bin_sim (hr : Rel w G S) {op : BinOp} {t : TypeId} {xo yo : Operand} {x y : LV} {xv yv : Value} (hx : LVRel w G x xv) (hy : LVRel w G y yv)
  (hn : ∀ c, yo = .const c → yv = c) :
  Sim P w G S (do eqGuard op t xo yo xv yv; binOp op t xv yv) (T.ofRes (binT P op t (nilConst yo) x y)) (fun w' G' lv v => LVRel w' G' lv v) := by
 refine Sim.pure' hr fun lv S' hq => ?_;obtain ⟨hS, h⟩ := ofRes_ok hq;clear hq;subst hS;refine ⟨rfl, ?_⟩;unfold binT at h;split at h
 ·rename_i hyn;split at h
  case h_2 => cases h
  rename_i e hu;have hyo : yo = .const (.pointer none) := by
   unfold nilConst at hyn;split at hyn <;> first | rfl | cases hyn
  obtain rfl := hn _ hyo;exact nilP_run hu hx h
 ·rename_i hyn;split at h
  case h_2 => cases h
  rename_i e hu;have hyo : yo = .const (.slice none 0 0) := by
   unfold nilConst at hyn;split at hyn <;> first | rfl | cases hyn
  obtain rfl := hn _ hyo;exact nilS_run hu hx h
 ·exact binS_ok hx hy h
theorem un_sim (hr : Rel w G S) {op : UnOp} {x : LV} {xv : Value} (hx : LVRel w G x xv) : Sim P w G S (Op.unary op xv) (T.ofRes (unT op x)) (fun w' G' lv v => LVRel w' G' lv v) := by
 refine Sim.pure' hr fun lv S' hq => ?_;obtain ⟨hS, h⟩ := ofRes_ok hq;clear hq;subst hS;refine ⟨rfl, ?_⟩;unfold unT at h;split at h
 ·cases h; cases hx with | d _ _ hx => cases hx with | bool _ => exact ⟨_, rfl, .d _ _ (.bool _)⟩
 ·cases h; cases hx with | d _ _ hx => cases hx with | int _ _ => exact ⟨_, rfl, .d _ _ (.int _ _)⟩
 ·cases h; cases hx with | d _ _ hx => cases hx with | int _ _ => exact ⟨_, rfl, .d _ _ (.int _ _)⟩
 ·cases h
end Go.VM
end
section
namespace Go.VM
open Go.RowKit
variable {w w' w1 w2 : World} {G G' G1 G2 : Gh} {S S' S1 S2 : St} {P : Program}
def nowSt (G : Gh) (b : Nat) : Prop := G.St b ∨ G.own b ≠ none
theorem Rep.now {x : D} {v : Value} (h : Rep w G.St x v) : Rep w (nowSt G) x v := h.mono (fun _ h => .inl h) (fun _ _ _ _ h => h)
theorem peek1_rel {lv : LV} {v : Value} {x : D} (hr : Rel w G S) (hv : LVRel w G lv v) (h : (peek1 lv).run S = .ok (x, S')) : S' = S ∧ Rep w (nowSt G) x v := by
 cases lv with
 | d y => cases h; cases hv with | d _ _ hv => exact ⟨rfl, hv.now⟩
 | lit xs => cases h; cases hv with | lit _ _ hv _ _ => exact ⟨rfl, hv.now⟩
 | ar l sz lo n =>
  simp only [peek1] at h;obtain ⟨sz', xs, fz, hl, h⟩ := arrT_run h;have ha := hr.live hl
  cases hv with
  | ar _ _ _ _ cap a hd hs hb hc haddr =>
  have hsz : sz = sz' := hs.symm.trans ha.esz;subst hsz;by_cases hn : lo + n ≤ xs.length
  ·rw [if_pos hn] at h
   cases h
   refine ⟨rfl, ?_⟩
   let G' : Gh := { G with St := (nowSt G) }
   have ha' : ArrRel w G' l sz xs fz := by
    refine ⟨ha.dom, ha.esz, ha.hz, ha.ho, ha.len, fun hcp => ?_⟩;obtain ⟨c, e, f, h1, h2, h3, h4⟩ := ha.row hcp;refine ⟨c, e, f, h1, h2, fun i j x d e1 e2 => ?_, ?_⟩
    ·obtain ⟨v, e3, e4⟩ := h3 i j x d e1 e2;exact ⟨v, e3, e4.now⟩
    ·cases fz with
     | true => exact .inl (by simpa using h4)
     | false => exact h4
   refine ha'.data (fun hcp => ?_) (hr.wf.max l) hb hc hn haddr;obtain ⟨c, e, f, _, _, _, h4⟩ := ha.row hcp
   cases fz with
   | true => exact .inl (by simpa using h4)
   | false =>
    simp only [Bool.false_eq_true, if_false] at h4;exact .inr (fun e => by rw [show G.own (G'.addr l).1 = some l from h4.1] at e; cases e)
  ·rw [if_neg hn] at h; cases h
 | _ => cases h
theorem byte_of {x : D} {b : UInt8} (h : byteOf? x = some b) : ∃ n, x = .int .u8 n ∧ b = UInt8.ofNat n.toNat := by
 unfold byteOf? at h;split at h
 ·cases h; exact ⟨_, rfl, rfl⟩
 ·cases h
theorem bytes_of : ∀ {xs : List D} {bs : List UInt8}, bytesOf? xs = some bs → ∃ ns : List Int, xs = ns.map (D.int .u8) ∧ bs = ns.map (fun n => UInt8.ofNat n.toNat) := by
 intro xs
 induction xs with
 | nil => intro bs h; cases h; exact ⟨[], rfl, rfl⟩
 | cons x xs ih =>
  intro bs h;simp only [bytesOf?] at h
  cases h1 : byteOf? x with
  | none => simp [h1] at h
  | some b =>
   cases h2 : bytesOf? xs with
   | none => simp [h1, h2] at h
   | some bs' =>
    simp [h1, h2] at h;subst h;obtain ⟨n, rfl, rfl⟩ := byte_of h1;obtain ⟨ns, rfl, rfl⟩ := ih h2;exact ⟨n :: ns, rfl, rfl⟩
theorem push_list (ns : List Int) : ∀ s : ByteArray, (ns.foldl (fun r n => r.push (UInt8.ofNat n.toNat)) s).data.toList = s.data.toList ++ ns.map (fun n => UInt8.ofNat n.toNat) := by
 induction ns with
 | nil => intro s; simp
 | cons n ns ih => intro s; simp only [List.foldl_cons, ih, List.map_cons]; simp [ByteArray.push]
theorem bytes_string {St : Nat → Prop} {xs : List D} {v : Value} {bs : List UInt8} (hv : Rep w St (.sl xs) v) (hb : bytesOf? xs = some bs) :
  ∃ s : ByteArray, (Conv.bytesToString v).run P w = .ok (.string s) w ∧ s.data.toList = bs ∧ s.size ≤ 9223372036854775807 := by
 obtain ⟨ns, rfl, rfl⟩ := bytes_of hb;have fin : ∀ (a : Option Addr) (cap : Nat), (ns.map (D.int .u8)).length ≤ 9223372036854775807 → (∀ ad, a = some ad → (loadCells ad (ns.map (D.int .u8)).length).run P w = .ok (ns.map (Value.int .u8)).toArray w) → (a = none → ns = []) →
   ∃ s : ByteArray, (Conv.bytesToString (.slice a (ns.map (D.int .u8)).length cap)).run P w = .ok (.string s) w ∧ s.data.toList = ns.map (fun n => UInt8.ofNat n.toNat) ∧ s.size ≤ 9223372036854775807 := by
  intro a cap hm h1 h2
  cases a with
  | none =>
   obtain rfl := h2 rfl;exact ⟨.empty, rfl, rfl, by simp⟩
  | some ad =>
   refine ⟨_, run_bytesToString w ad _ cap ns (h1 ad rfl), by rw [push_list]; simp, ?_⟩
   rw [← str_size, push_list]; simpa using hm
 cases ns with
 | nil =>
  simp only [List.map_nil] at hv
  cases hv with
  | empty a cap hc => exact fin a cap (by simp) (fun ad _ => rfl) (fun _ => rfl)
  | sl _ b off cap sz hs hc hm hz ho f h1 h2 => exact fin _ cap (by simp) (fun ad _ => rfl) (fun _ => rfl)
 | cons n ns' =>
  generalize hxs : (n :: ns').map (D.int .u8) = xs at hv fin
  cases hv with
  | empty a cap hc => simp at hxs
  | sl _ b off cap sz hs hc hm hz ho f h1 h2 =>
   refine fin (some ⟨b, off, none⟩) cap (by omega) (fun ad had => ?_) (fun h => by cases h)
   cases had
   have hsz : sz = 1 := by
    have := hz (.int .u8 n) (by simp [← hxs])
    simpa [D.cells] using this.symm
   subst hsz;refine run_loadCells_at (by simp [← hxs]) (fun j v hj => ?_)
   have hj' : ((n :: ns').map (Value.int .u8))[j]? = some v := by simpa using hj
   rw [List.getElem?_map] at hj'
   cases hnj : (n :: ns')[j]? with
   | none => rw [hnj] at hj'; cases hj'
   | some m =>
    rw [hnj] at hj'; cases hj';have hx : xs[j]? = some (.int .u8 m) := by rw [← hxs, List.getElem?_map, hnj]; rfl
    have e1 := h1 j 0 _ (.int .u8 m) hx rfl;have e2 := h2 j 0 _ (.int .u8 m) hx rfl;rw [Nat.mul_one, Nat.add_zero] at e1;rw [e1];generalize f j 0 = y at e2
    cases e2; rfl
theorem freeze_at {b o : Nat} {c : Array Value} {e : TypeId} {f : Nat × Nat} (h : w.heap[b]? = some (.cells c e f)) :
  ∃ f', (w.freeze ⟨b, o, none⟩ 1).heap[b]? = some (.cells c e f') ∧ (f = (0, 0) → f' = (o, o + 1)) := by
 obtain ⟨lo, hi⟩ := f;refine ⟨if lo == hi then (o, o + 1) else (min lo o, max hi (o + 1)), ?_, ?_⟩
 ·simp [World.freeze, Array.getElem?_modify, h]
 ·intro hf; cases hf; rfl
theorem freeze_ne {b o k : Nat} (h : k ≠ b) : (w.freeze ⟨b, o, none⟩ 1).heap[k]? = w.heap[k]? := by
 simp [World.freeze, Array.getElem?_modify, Ne.symm h]
theorem freeze_size {b o : Nat} : (w.freeze ⟨b, o, none⟩ 1).heap.size = w.heap.size := by simp [World.freeze]
theorem mark_lt (hr : Rel w G S) {b o : Nat} (hb : G.Lt b) : Rel (w.freeze ⟨b, o, none⟩ 1) G S ∧ Ext w G (w.freeze ⟨b, o, none⟩ 1) G := by
 have hne : ∀ k l, G.own k = some l → k ≠ b := fun k l hk e => (hr.wf.own k l hk).2 (e ▸ hr.wf.lt b hb);have he : Ext w G (w.freeze ⟨b, o, none⟩ 1) G := by
  refine ⟨by rw [freeze_size]; exact Nat.le_refl _, rfl, rfl, rfl, fun k _ _ hk => freeze_ne (fun e => hk (e ▸ hb)), ?_, fun _ h => h, fun _ h => h, fun _ h => ⟨h, rfl, rfl, rfl⟩, fun _ _ h => h, fun _ _ h => .inl h, fun _ _ h => h⟩
  intro k hk c e f hh;by_cases hkb : k = b
  ·subst hkb;obtain ⟨f', h1, _⟩ := freeze_at (o := o) hh;exact ⟨f', h1⟩
  ·exact ⟨f, (freeze_ne hkb).trans hh⟩
 have hk : Keep w G (w.freeze ⟨b, o, none⟩ 1) G (fun _ => False) := fun k l hl _ => ⟨freeze_ne (hne k l hl), hl⟩;refine ⟨⟨⟨fun k l h => by rw [freeze_size]; exact hr.wf.own k l h, fun k h => by rw [freeze_size]; exact hr.wf.st k h, hr.wf.lt, hr.wf.max⟩, fun id => ?_⟩, he⟩
 exact (hr.obj id).keep hr.wf he hk (fun _ _ h => h)
theorem mark_own (hr : Rel w G S) {l : Loc} {sz : Nat} {xs : List D} (hl : Live S l sz xs false) {c : Array Value} {e : TypeId} (hh : w.heap[(G.addr l).1]? = some (.cells c e (0, 0))) (hown : G.own (G.addr l).1 = some l) :
  Rel (w.freeze ⟨(G.addr l).1, c.size, none⟩ 1) G (S.putArr l sz xs false) ∧ Ext w G (w.freeze ⟨(G.addr l).1, c.size, none⟩ 1) G := by
 have ha := hr.live hl;have hnl : ¬ G.Lt (G.addr l).1 := fun h => (hr.wf.own _ _ hown).2 (hr.wf.lt _ h);obtain ⟨f', h1, h2⟩ := freeze_at (o := c.size) hh;have hf' := h2 rfl;subst hf';have he : Ext w G (w.freeze ⟨(G.addr l).1, c.size, none⟩ 1) G := by
  refine ⟨by rw [freeze_size]; exact Nat.le_refl _, rfl, rfl, rfl, fun k _ ho _ => freeze_ne (fun e => by subst e; rw [hown] at ho; cases ho), ?_, fun _ h => h, fun _ h => h, fun _ h => ⟨h, rfl, rfl, rfl⟩, fun _ _ h => h, fun _ _ h => .inl h, fun _ _ h => h⟩
  intro k hk c e f hh;exact ⟨f, (freeze_ne (fun (q : k = (G.addr l).1) => hnl (q ▸ hk))).trans hh⟩
 have hk : Keep w G (w.freeze ⟨(G.addr l).1, c.size, none⟩ 1) G (fun k => k = l) := fun k m hm hne => ⟨freeze_ne (fun e => hne (by subst e; rw [hown] at hm; cases hm; rfl)), hm⟩
 have hwf : G.Wf (w.freeze ⟨(G.addr l).1, c.size, none⟩ 1) := ⟨fun k l h => by rw [freeze_size]; exact hr.wf.own k l h, fun k h => by rw [freeze_size]; exact hr.wf.st k h, hr.wf.lt, hr.wf.max⟩
 refine ⟨hr.putArr he hk hwf hl rfl ⟨ha.dom, ha.esz, ha.hz, ha.ho, ha.len, fun hcp => ?_⟩, he⟩;obtain ⟨c', e', f, g1, g2, g3, g4⟩ := ha.row hcp;rw [hh] at g1; cases g1;refine ⟨c, e, _, h1, g2, fun i j x d a b => ?_, ?_⟩
 ·obtain ⟨v, g5, g6⟩ := g3 i j x d a b;exact ⟨v, g5, g6.ext hr.wf he⟩
 ·simp only [Bool.false_eq_true, if_false];exact ⟨hown, fun k hk => by omega⟩
end Go.VM
end
section
namespace Go.VM
open Go.RowKit
variable {w w' w1 w2 : World} {G G' G1 G2 : Gh} {S S' S1 S2 : St} {P : Program}
theorem byTy {t : TypeId} (h : tyBy P t = true) : ∃ e, P.underlying t = some (.slice e) ∧ P.underlying e = some (.int .u8) := by
 unfold tyBy at h
 cases he : tyElem P t with
 | none => rw [he] at h; cases h
 | some p =>
  obtain ⟨e, n⟩ := p;rw [he] at h;obtain ⟨hu, _⟩ := elem_under he;exact ⟨e, hu, intTy (of_decide_eq_true (by simpa using h))⟩
theorem set_same {S : St} {id : Nat} {o : Obj} (h : S.obj id = o) : S.set id o = S := by
 have : (fun i => if i = id then o else S.obj i) = S.obj := by
  funext i;by_cases hi : i = id
  ·subst hi; rw [if_pos rfl]; exact h.symm
  ·rw [if_neg hi]
 show (⟨fun i => if i = id then o else S.obj i, S.next, S.clk, S.esc⟩ : St) = S;rw [this]
theorem convert_sim (hr : Rel w G S) {s d : TypeId} {x : LV} {xv : Value} (hx : LVRel w G x xv) :
  Sim P w G S (convert s d xv) (convertT P s d x) (fun w' G' lv v => LVRel w' G' lv v) := by
 intro lv S' h hf;unfold convertT at h;split at h
 case isFalse => cases h
 rename_i hus;obtain ⟨us, hus⟩ := Option.isSome_iff_exists.1 hus;have toStr : ∀ (hd : tyStr P d = true), (if tyBy P s then (peek1 x).bind fun y => match y with
    | .sl xs => match bytesOf? xs with
     | some b => T.ret (LV.d (.str b))
     | none => T.no
    | _ => T.no else T.no).run S = .ok (lv, S') → ∃ a w' G', (convert s d xv).run P w = .ok a w' ∧ LVRel w' G' lv a ∧ Rel w' G' S' ∧ Ext w G w' G' ∧ DomLe G G' S S' := by
  intro hd h;split at h
  case isFalse => cases h
  rename_i hby;obtain ⟨e, hu, he⟩ := byTy hby;obtain ⟨y, S1, h1, h2⟩ := T.bind_ok h;obtain ⟨rfl, hrep⟩ := peek1_rel hr hx h1;split at h2
  case h_2 => cases h2
  rename_i xs;split at h2
  case h_2 => cases h2
  rename_i b hb
  cases h2
  obtain ⟨st, h3, rfl, h5⟩ := bytes_string (P := P) hrep hb;have hsl : ∃ a l c, xv = .slice a l c := by
   cases hrep with
   | empty a c _ => exact ⟨_, _, _, rfl⟩
   | sl _ _ _ _ _ _ _ _ _ _ _ _ _ => exact ⟨_, _, _, rfl⟩
  obtain ⟨a, l, c, rfl⟩ := hsl;exact ⟨_, w, G, (run_convert_bytes_string w s d e a l c hu he (strTy hd)).trans h3, .d _ _ (.str st h5), hr, Ext.refl w G, DomLe.refl _ _ _⟩
 split at h
 ·-- numbers
  rename_i k0 n;split at h
  case h_2 => cases h
  rename_i k hk
  cases h
  cases hx with | d _ _ hx => cases hx with | int _ _ =>
  refine ⟨.int k (k.wrap n), w, G, ?_, .d _ _ (.int _ _), hr, Ext.refl w G, DomLe.refl _ _ _⟩;simp [convert, run_underlying hus, run_underlying (intTy hk), Conv.intToInt]
 ·-- a text
  rename_i b;split at h
  ·rename_i hd
   cases h
   refine ⟨xv, w, G, ?_, hx, hr, Ext.refl w G, DomLe.refl _ _ _⟩
   cases hx with | d _ _ hx => cases hx with | str st _ =>
   simp [convert, run_underlying hus, run_underlying (strTy hd)]
  ·split at h
   case isFalse => cases h
   rename_i hcond;obtain ⟨hby, hlen⟩ := hcond;obtain ⟨e, hu, he⟩ := byTy hby;obtain ⟨rfl, rfl⟩ : LV.ar (.arr S.next) 1 0 b.length = lv ∧ S.alloc (.arr 1 (b.map fun c => .int .u8 c.toNat) false) = S' := by cases h; exact ⟨rfl, rfl⟩
   cases hx with | d _ _ hx => cases hx with | str st hst =>
   have hfr : ¬ G.dom (.arr S.next) := hf (.arr S.next) ⟨Nat.le_refl _, by simp [St.alloc]⟩
   rw [str_size] at hlen;have hcap := grownCap_ge w st.size 0 e;have hcapmax : grownCap w st.size 0 e ≤ 9223372036854775807 := grownCap_le_maxLen w st.size 0 e (by simp only [maxLen]; omega)
   have hcs : (Lib.bytesCells w e st).size = grownCap w st.size 0 e := by simp [Lib.bytesCells]; omega
   obtain ⟨G', r1, r2, r3, r4, r5, r6⟩ := new_arr' (cap := grownCap w st.size 0 e) (sz := 1) (xs := st.data.toList.map fun c => D.int .u8 c.toNat) (c := Lib.bytesCells w e st) (e := e) (w0 := w.drew) hr hfr hcapmax
    (fun x hx => by obtain ⟨c, _, rfl⟩ := List.mem_map.1 hx; rfl) (fun x hx => by obtain ⟨c, _, rfl⟩ := List.mem_map.1 hx; intro d hd; simp [D.cells] at hd; subst hd; rfl) (by simp; omega) (by omega)
    (by
     intro i j x d h1 h2;rw [List.getElem?_map] at h1
     cases hc : st.data.toList[i]? with
     | none => rw [hc] at h1; cases h1
     | some c =>
      rw [hc] at h1; cases h1
      cases j with
      | succ j => simp [D.cells] at h2
      | zero =>
       simp [D.cells] at h2; subst h2;refine ⟨.int .u8 c.toNat, ?_, .int _ _⟩;have hlt : i < st.data.size := by have := (List.getElem?_eq_some_iff.1 hc).1; simpa using this
       have hc' : st.data[i]? = some c := by simpa using hc
       simp only [Lib.bytesCells, Nat.zero_add, Nat.mul_one, Nat.add_zero];rw [Array.getElem?_append_left (by simpa using hlt), Array.getElem?_map, hc']; rfl)
    ⟨rfl, rfl, rfl, rfl⟩
   have hlive : Live (S.alloc (.arr 1 (st.data.toList.map fun c => .int .u8 c.toNat) false)) (.arr S.next) 1 (st.data.toList.map fun c => .int .u8 c.toNat) false := by simp [Live, St.alloc]
   have hh : (w.drew.alloc (.cells (Lib.bytesCells w e st) e)).heap[(G'.addr (.arr S.next)).1]? = some (.cells (Lib.bytesCells w e st) e (0, 0)) := by
    rw [r5]; exact heap_alloc_at w.drew _
   obtain ⟨q1, q2⟩ := mark_own r1 hlive hh (by rw [r5]; exact r6)
   rw [r5] at q1 q2;have hsame : (S.alloc (.arr 1 (st.data.toList.map fun c => .int .u8 c.toNat) false)).putArr (.arr S.next) 1 (st.data.toList.map fun c => .int .u8 c.toNat) false = S.alloc (.arr 1 (st.data.toList.map fun c => .int .u8 c.toNat) false) :=
    set_same (by simp [St.alloc])
   rw [hsame] at q1;have hll : (st.data.toList.map fun c => D.int .u8 c.toNat).length = st.data.toList.length := by simp
   rw [hll] at r4;refine ⟨_, _, G', Lib.run_convert_string_bytes w s d e st hus hu he, ?_, q1, r2.trans q2, r3⟩;have := r4.ext r1.wf q2;rw [str_size] at this ⊢;exact this
 ·-- the rest
  split at h
  ·exact toStr (by assumption) h
  ·rename_i hnd;split at h
   case h_2 => cases h
   rename_i y ys _ _;split at h
   case isFalse => cases h
   rename_i hcond;obtain ⟨rfl, hby⟩ := hcond
   cases h
   obtain ⟨e, hu, he⟩ := byTy hby;rw [hu] at hus; cases hus
   cases hx with
   | lit _ a hrep hlt hn =>
   cases hrep with
   | sl _ b off cap sz hs hc hm hz ho f h1 h2 =>
   obtain ⟨m1, m2⟩ := hlt _ rfl
   cases hh : w.heap[b]? with
   | none => exact absurd (hr.wf.st b hs) (by simp at hh; omega)
   | some o =>
    cases o with
    | cells c e' f' =>
     obtain ⟨k1, k2⟩ := mark_lt (o := c.size) hr m2;refine ⟨.slice (some ⟨b, off, none⟩) (y :: ys).length (y :: ys).length, _, G, ?_, LVRel.ext hr.wf k2 (.lit _ _ (.sl _ b off _ sz hs hc hm hz ho f h1 h2) hlt hn), k1, k2, DomLe.refl _ _ _⟩;simp [convert, run_underlying hu, run_underlying he, markStringish, World.shape?, hh]
    | _ =>
     refine ⟨.slice (some ⟨b, off, none⟩) (y :: ys).length (y :: ys).length, w, G, ?_, .lit _ _ (.sl _ b off _ sz hs hc hm hz ho f h1 h2) hlt hn, hr, Ext.refl w G, DomLe.refl _ _ _⟩;simp [convert, run_underlying hu, run_underlying he, markStringish, World.shape?, hh]
end Go.VM
end
section
namespace Go.VM
open Go.RowKit
variable {w w' w1 w2 : World} {G G' G1 G2 : Gh} {S S' S1 S2 : St} {P : Program}
theorem allSome_mapM {α β : Type} (g : α → Option β) : ∀ (l : List α) {r : List β}, allSome (l.map g) = some r → l.mapM g = some r := by
 intro l
 induction l with
 | nil => intro r h; cases h; rfl
 | cons a l ih =>
  intro r h;simp only [List.map_cons, allSome] at h
  cases h1 : g a with
  | none => simp [h1] at h
  | some b =>
   cases h2 : allSome (l.map g) with
   | none => simp [h1, h2] at h
   | some bs =>
    simp [h1, h2] at h;subst h;simp [List.mapM_cons, h1, ih h2]
def CellsRel (w : World) (G : Gh) (cs : List LV) (vs : Array Value) : Prop :=
 cs.length = vs.size ∧ ∀ (i : Nat) (c : LV) (v : Value), cs[i]? = some c → vs[i]? = some v → LVRel w G c v ∧ v.oneCell' = true
theorem fill_rel {fs : List (Nat × Nat)} : ∀ (ps : List (Nat × LV)) (vps : List (Nat × Value)) (cs out : List LV) (vs : Array Value), CellsRel w G cs vs → ps.length = vps.length →
  (∀ (i : Nat) (p : Nat × LV) (q : Nat × Value), ps[i]? = some p → vps[i]? = some q → p.1 = q.1 ∧ LVRel w G p.2 q.2) → fillT fs cs ps = some out →
  ∃ vs', Instr.fill (fs.toArray[·]?) vs vps = some vs' ∧ CellsRel w G out vs' := by
 intro ps
 induction ps with
 | nil =>
  intro vps cs out vs h hl _ hf
  cases vps with
  | nil => cases hf; exact ⟨vs, rfl, h⟩
  | cons _ _ => cases hl
 | cons p ps ih =>
  intro vps cs out vs h hl hp hf
  cases vps with
  | nil => cases hl
  | cons q vps =>
   obtain ⟨e1, e2⟩ := hp 0 p q rfl rfl;obtain ⟨i, lv⟩ := p;obtain ⟨i', v⟩ := q;obtain rfl : i = i' := e1;simp only [fillT] at hf
   cases hfi : fs[i]? with
   | none => rw [hfi] at hf; cases hf
   | some on =>
    obtain ⟨o, n⟩ := on;rw [hfi] at hf;simp only at hf;split at hf
    case isFalse => cases hf
    rename_i hc;obtain ⟨hc0, hc1, hc2⟩ := hc;have hok : lv.okc := by
     cases lv <;> first | trivial | cases hc0
    obtain ⟨hlen, hcells⟩ : _ ∧ ∀ (i : Nat) (c : LV) (x : Value), lv.cells[i]? = some c → v.cells[i]? = some x → LVRel w G c x ∧ x.oneCell' = true := cells_rel e2 hok;replace hlen : lv.cells.length = v.cells.size := hlen;replace hc1 : lv.cells.length = n := hc1;have hstep := fill_step (place := (fs.toArray[·]?)) (cells := vs) (i := i) (off := o) (sz := n) (v := v) (rest := vps) (by simpa using hfi) (by omega) (by have := h.1; omega)
    have hnew : CellsRel w G (cs.take o ++ lv.cells ++ cs.drop (o + n)) (seg vs o v.cells.toList) := by
     refine ⟨?_, ?_⟩
     ·rw [seg_size]; have := h.1; simp; omega
     ·intro k c x a b;rw [seg_get] at b;have hcl : (cs.take o).length = o := by simp; omega
      split at b
      ·rename_i hk;obtain ⟨k1, k2, k3⟩ := hk;rw [List.append_assoc, List.getElem?_append_right (by omega), hcl, List.getElem?_append_left (by simp at k2; omega)] at a
       exact hcells _ _ _ a (by simpa using b)
      ·rename_i hk;have hlt : k < vs.size := (Array.getElem?_eq_some_iff.1 b).1;by_cases hko : k < o
       ·rw [List.append_assoc, List.getElem?_append_left (by omega), List.getElem?_take, if_pos hko] at a
        exact h.2 _ _ _ a b
       ·have hk2 : o + n ≤ k := by
         by_cases h2 : o + n ≤ k
         ·exact h2
         ·exact absurd ⟨by omega, by simp; omega, hlt⟩ hk
        rw [List.getElem?_append_right (by simp; omega), List.getElem?_drop] at a
        have : o + n + (k - (cs.take o ++ lv.cells).length) = k := by simp; omega
        rw [this] at a;exact h.2 _ _ _ a b
    obtain ⟨vs', r1, r2⟩ := ih vps _ out _ hnew (by simpa using hl) (fun k p q a b => hp (k + 1) p q (by simpa using a) (by simpa using b)) hf
    exact ⟨vs', hstep.trans r1, r2⟩
theorem build_sim (hr : Rel w G S) {t : TypeId} {ps : List (Nat × LV)} {vps : Array (Nat × Value)} (hl : ps.length = vps.size)
  (hp : ∀ (i : Nat) (p : Nat × LV) (q : Nat × Value), ps[i]? = some p → vps[i]? = some q → p.1 = q.1 ∧ LVRel w G p.2 q.2) :
  Sim P w G S (Instr.build t vps) (buildT P t ps) (fun w' G' lv v => LVRel w' G' lv v) := by
 refine Sim.pure' hr fun lv S' h => ?_;unfold buildT at h
 cases hz : zeroCells P t with
 | none => rw [hz] at h; cases h
 | some z =>
  cases hfs : tyFields P t with
  | none => rw [hz, hfs] at h; cases h
  | some fs =>
   rw [hz, hfs] at h;simp only at h
   cases hf : fillT fs z ps with
   | none => rw [hf] at h; cases h
   | some cs =>
    rw [hf] at h
    cases h
    obtain ⟨i, zv, hi, hzv, rfl, hzc⟩ := zero_cells hz;have h0 : CellsRel w G (zv.cells.toList.map ofConst) zv.cells := by
     refine ⟨by simp, fun k c v a b => ?_⟩
     obtain ⟨k1, rfl⟩ := hzc k c v a b;exact const_rel k1 w G
    obtain ⟨vs', r1, r2⟩ := fill_rel ps vps.toList _ _ _ h0 (by simpa using hl) (fun k p q a b => hp k p q a (by simpa using b)) hf
    refine ⟨rfl, .agg vs', run_build w t vps vs' ?_, .agg _ _ r2.1 (fun k c v a b => (r2.2 k c v a b).1) (fun k c v a b => (r2.2 k c v a b).2)⟩;unfold tyFields at hfs
    cases hu : P.underlying t with
    | none => rw [hu] at hfs; cases hfs
    | some d =>
     rw [hu] at hfs
     cases d with
     | struct flds =>
      simp only at hfs;have := allSome_mapM (fun f => (P.info? f.type).map fun i => (f.offset, i.size)) flds.toList hfs;simp [Program.built, hi, hu, hzv, this];simpa using r1
     | _ => cases hfs
end Go.VM
end
section
namespace Go.VM
open Go.RowKit
variable {w w' w1 w2 : World} {G G' G1 G2 : Gh} {S S' S1 S2 : St} {P : Program}
theorem extract_sim (hr : Rel w G S) {i : Nat} {x : LV} {xv : Value} (hx : LVRel w G x xv) : Sim P w G S (Instr.extract xv i) (extractT i x) (fun w' G' lv v => LVRel w' G' lv v) := by
 refine Sim.pure' hr fun lv S' h => ?_;unfold extractT at h;split at h
 case h_2 => cases h
 rename_i vs
 cases hx with
 | tup _ cs hl hh =>
 split at h
 case h_2 => cases h
 rename_i v hv
 cases h
 have hlt : i < cs.size := by have := (List.getElem?_eq_some_iff.1 hv).1; omega
 have hc := Array.getElem?_eq_getElem hlt;exact ⟨rfl, cs[i], by simp [Instr.extract, hc], hh i _ _ hv hc⟩
theorem minmax_sim (hr : Rel w G S) {ts : Array TypeId} {ty : TypeId} {xs : List LV} {vs : Array Value} (hl : xs.length = vs.size) (hx : ∀ (i : Nat) (c : LV) (v : Value), xs[i]? = some c → vs[i]? = some v → LVRel w G c v) :
  Sim P w G S (Builtin.max_ ts ty vs) (minmaxT (fun a b => if b > a then b else a) xs) (fun w' G' lv v => LVRel w' G' lv v) ∧
  Sim P w G S (Builtin.min_ ts ty vs) (minmaxT (fun a b => if b < a then b else a) xs) (fun w' G' lv v => LVRel w' G' lv v) := by
 have key : ∀ (k : IntKind) (a b : Int), xs = [.d (.int k a), .d (.int k b)] → vs.toList = [.int k a, .int k b] := by
  intro k a b hxs;subst hxs;obtain ⟨l⟩ := vs;simp at hl
  match l, hl with
  | [v1, v2], _ =>
   have h1 := hx 0 _ v1 rfl rfl;have h2 := hx 1 _ v2 rfl rfl
   cases h1 with | d _ _ h1 =>
   cases h2 with | d _ _ h2 =>
   cases h1; cases h2; rfl
 constructor
 all_goals
  refine Sim.pure' hr fun lv S' h => ?_;unfold minmaxT at h;split at h
  case h_2 => cases h
  rename_i k a k' b;split at h
  case isFalse => cases h
  rename_i hk;subst hk
  cases h
  have := key k a b rfl
  first
   | exact ⟨rfl, .int k (if b > a then b else a), by simp [Builtin.max_, this, Builtin.max2], .d _ _ (.int _ _)⟩
   | exact ⟨rfl, .int k (if b < a then b else a), by simp [Builtin.min_, this, Builtin.min2], .d _ _ (.int _ _)⟩
theorem Ext.setObj {b : Nat} {o : Go.Obj} {l : Loc} (hwf : G.Wf w) (hown : G.own b = some l) {o' : Go.Obj} (hb : w.heap[b]? = some o) :
  Ext w G { w with heap := w.heap.setIfInBounds b o' } G ∧ Keep w G { w with heap := w.heap.setIfInBounds b o' } G (fun k => k = l) ∧ G.Wf { w with heap := w.heap.setIfInBounds b o' } := by
 obtain ⟨h1, h2⟩ := MapKept.heap_set (o' := o') hb;refine ⟨⟨by simp, rfl, rfl, rfl, fun k _ ho _ => h2 k (fun e => by subst e; rw [hown] at ho; cases ho), ?_, fun _ h => h, fun _ h => h, fun _ h => ⟨h, rfl, rfl, rfl⟩, fun _ _ h => h, fun _ _ h => .inl h, fun _ _ h => h⟩, ?_, ?_⟩
 ·intro k hk c e f hh;exact ⟨f, (h2 k (fun q => (hwf.own b l hown).2 (q ▸ hwf.lt k hk))).trans hh⟩
 ·intro k m hm hne;exact ⟨h2 k (fun e => hne (by subst e; rw [hown] at hm; cases hm; rfl)), hm⟩
 ·exact ⟨fun k l h => by simpa using hwf.own k l h, fun k h => by simpa using hwf.st k h, hwf.lt, hwf.max⟩
theorem Rel.putObj {id : Nat} (hr : Rel w G S) (he : Ext w G w' G') (hk : Keep w G w' G' (fun k => k = .arr id)) (hwf : G'.Wf w') {o : Obj} (hn : ObjRel w' G' id o) : Rel w' G' (S.set id o) := by
 refine ⟨hwf, fun j => ?_⟩;simp only [set_obj];split
 ·rename_i h; subst h; exact hn
 ·rename_i h;exact (hr.obj j).keep hr.wf he hk (fun l hl hx => h (by subst hx; exact hl.symm))
theorem makeMap_sim (hr : Rel w G S) {t : TypeId} : Sim P w G S (Instr.makeMap t none) (makeMapT P t) (fun w' G' lv v => LVRel w' G' lv v) := by
 intro lv S' h hf;unfold makeMapT at h;split at h
 case h_2 => cases h
 rename_i ks _;obtain ⟨rfl, rfl⟩ : LV.mp S.next = lv ∧ S.alloc (.mp ks []) = S' := by cases h; exact ⟨rfl, rfl⟩
 have hfr : ¬ G.dom (.arr S.next) := hf (.arr S.next) ⟨Nat.le_refl _, by simp [St.alloc]⟩
 obtain ⟨e1, e2, e3⟩ := gnew_ext (cap := 0) (sz := 0) hr.wf hfr (by omega) (.map #[] 0)
 refine ⟨.map (some w.heap.size), w.alloc (.map #[] 0), _, ?_, ?_, hr.new e1 e2 e3 ?_, e1, ?_⟩
 ·simp [Instr.makeMap, -World.alloc_eq]
 ·have := LVRel.mp (w := w.alloc (.map #[] 0)) (G := gnew G (.arr S.next) w.heap.size 0 0) S.next (.inl rfl);simpa [gnew] using this
 ·exact ⟨fun p hp => by simp at hp, .inl rfl, by simp [gnew], #[], 0, by simpa [gnew] using heap_alloc_at w _, rfl, fun i p q a => by simp at a, List.nodup_nil, fun x hx => by cases hx⟩
 ·intro k hk;rcases hk with rfl | hk
  ·exact .inr ⟨Nat.le_refl _, by simp [St.alloc]⟩
  ·exact .inl hk
def keyDesc : Option IntKind → TypeDesc
 | some k => .int k
 | none => .string
theorem keyTy {t : TypeId} {ks : Option IntKind} (h : tyKey P t = some ks) : P.underlying t = some (keyDesc ks) := by
 unfold tyKey at h;split at h
 ·cases h; assumption
 ·cases h; assumption
 ·cases h
theorem str_beq (a b : ByteArray) : (a == b) = decide (a.data.toList = b.data.toList) := by
 rw [Bool.eq_iff_iff, MapKept.bytes_beq];constructor
 ·intro h; subst h; simp
 ·intro h; have := of_decide_eq_true h; exact ByteArray.ext (Array.toList_inj.1 this)
theorem same_now {St : Nat → Prop} {ks : Option IntKind} {a b : D} {x y : Value} (ha : Rep w St a x) (hb : Rep w St b y) (h1 : a.isKey ks = true) (h2 : b.isKey ks = true) :
  Instr.sameNow (keyDesc ks) x y = some (a.same b) ∧ (a.same b = true → x = y) := by
 cases ha <;> simp [D.isKey] at h1
 ·cases hb <;> simp [D.isKey] at h2
  ·subst h1; cases h2;simp [keyDesc, Instr.sameNow, D.same];rw [Bool.eq_iff_iff]; simp
  ·subst h1; cases h2
 ·cases hb <;> simp [D.isKey] at h2
  ·subst h1; cases h2
  ·subst h1;rename_i s1 _ s2 _;refine ⟨by simp [keyDesc, Instr.sameNow, D.same, str_beq], fun h => ?_⟩
   simp only [D.same, decide_eq_true_eq] at h;congr 1;exact ByteArray.ext (Array.toList_inj.1 h)
end Go.VM
end
