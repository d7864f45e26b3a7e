/- The machine of values over the program: its settings, that they are right, and what a law's call comes to. No condition. -/
import Derived.Test.YtmahmajoelmmeaaGreatCz
namespace Go.VM
open Go.Proofs Go.RowKit
noncomputable def cf : Cfg := ⟨Tryz.prog, fun f => if shared f then .shr else if lends f then .lnd else if reads f then .rdo else if borrows f then .bor else if makes f then .mak else .val, fun f => bif Nat.beq f 122 then some cloneX else none, fun f => bif Nat.beq f 40 then some (sortFileF 41) else bif Nat.beq f 79 then some sortStrF else none,
 fun f => bif Nat.beq f 44 then some layAlt else bif Nat.beq f 12 then some doAlt else none⟩
theorem cf_P : cf.P = Tryz.prog := rfl
theorem cf_val {f : FuncId} (h : shared f = false) (h2 : lends f = false) (h3 : reads f = false) (h4 : borrows f = false) (h5 : makes f = false) : cf.mode f = .val := by
 show (if shared f = true then Mode.shr else if lends f = true then .lnd else if reads f = true then .rdo else if borrows f = true then .bor else if makes f = true then .mak else .val) = .val;rw [h, h2, h3, h4, h5]; rfl
theorem cf_shr {f : FuncId} (h : shared f = true) : cf.mode f = .shr := by
 show (if shared f = true then Mode.shr else if lends f = true then .lnd else if reads f = true then .rdo else if borrows f = true then .bor else if makes f = true then .mak else .val) = .shr;rw [h]; rfl
theorem cf_lnd {f : FuncId} (h : shared f = false) (h2 : lends f = true) : cf.mode f = .lnd := by
 show (if shared f = true then Mode.shr else if lends f = true then .lnd else if reads f = true then .rdo else if borrows f = true then .bor else if makes f = true then .mak else .val) = .lnd;rw [h, h2]; rfl
theorem cf_yid : Tryz.prog.funcs[YID]? = none := Array.getElem?_eq_none (Nat.le_of_ble_eq_true (by kernel_rfl))
theorem D1c {f : FuncId} {args : Array Operand} {ts : Array TypeId} {e : Env} {S : St} {K : LV → St → List Nat → List Nat → Prop} (h : shared f = false) (h2 : lends f = false) (h3 : reads f = false) (h4 : borrows f = false) (h5 : makes f = false) : D1 cf (.call ⟨.value (.func f), args, ts⟩) e S K ↔
  TL (T.mapL toD (args.toList.map (Operand.lv e))) S (hold (fun ds S' r w => VQ cf f ds (hold (fun v => dataV v = true ∧ K v S' r w) .mk)) .mk) := D1_val (cf_val h h2 h3 h4 h5)
theorem P1c {f : FuncId} {args : List LV} {S : St} {Q : LV → St → Prop} (h : shared f = false) (h2 : lends f = false) (h3 : reads f = false) (h4 : borrows f = false) (h5 : makes f = false) : PC cf f args S Q ↔ TQ (T.mapL toD args) S (hold (fun ds S' => VQ cf f ds (hold (fun v => dataV v = true ∧ Q v S') .mk)) .mk) := C_val (cf_val h h2 h3 h4 h5)
theorem P1s {f : FuncId} {args : List LV} {S : St} {Q : LV → St → Prop} (h : shared f = true) : PC cf f args S Q ↔ SQ cf f args S Q := PC_shr (cf_shr h)
theorem D1s {f : FuncId} {args : Array Operand} {ts : Array TypeId} {e : Env} {S : St} {K : LV → St → List Nat → List Nat → Prop} (h : shared f = true) : D1 cf (.call ⟨.value (.func f), args, ts⟩) e S K ↔
  TL (T.mapL prep (args.toList.map (Operand.lv e))) S (hold (fun ls S' r w => ShD cf f ls S' (hold (fun v S'' r' w' => K v S'' (r ++ r') (w ++ w')) .mk)) .mk) := D1_sh (cf_shr h)
theorem P1n {f : FuncId} {args : List LV} {S : St} {Q : LV → St → Prop} (h : shared f = false) (h2 : lends f = true) : PC cf f args S Q ↔ TQ (T.mapL lend args) S (hold (fun ls S' => SQ cf f ls S' Q) .mk) := C_lnd (cf_lnd h h2)
theorem D1n {f : FuncId} {args : Array Operand} {ts : Array TypeId} {e : Env} {S : St} {K : LV → St → List Nat → List Nat → Prop} (h : shared f = false) (h2 : lends f = true) : D1 cf (.call ⟨.value (.func f), args, ts⟩) e S K ↔
  TL (T.mapL prep (args.toList.map (Operand.lv e))) S (hold (fun ls S' r w => ShD cf f ls S' (hold (fun v S'' r' w' => K v S'' (r ++ r') (w ++ w')) .mk)) .mk) := D1_ln (cf_lnd h h2)
theorem cf_rdo {f : FuncId} (h : shared f = false) (h2 : lends f = false) (h3 : reads f = true) : cf.mode f = .rdo := by
 show (if shared f = true then Mode.shr else if lends f = true then .lnd else if reads f = true then .rdo else if borrows f = true then .bor else if makes f = true then .mak else .val) = .rdo;rw [h, h2, h3]; rfl
theorem P1r {f : FuncId} {args : List LV} {S : St} {Q : LV → St → Prop} (h : shared f = false) (h2 : lends f = false) (h3 : reads f = true) : PC cf f args S Q ↔ TQ (T.mapL lend args) S (hold (fun ls S' => SQ cf f ls S' Q) .mk) := C_rdo (cf_rdo h h2 h3)
theorem D1r {f : FuncId} {args : Array Operand} {ts : Array TypeId} {e : Env} {S : St} {K : LV → St → List Nat → List Nat → Prop} (h : shared f = false) (h2 : lends f = false) (h3 : reads f = true) : D1 cf (.call ⟨.value (.func f), args, ts⟩) e S K ↔
  TL (T.mapL prep (args.toList.map (Operand.lv e))) S (hold (fun ls S' r w => RoD cf f ls S' (hold (fun v S'' r' w' => K v S'' (r ++ r') (w ++ w')) .mk)) .mk) := D1_ro (cf_rdo h h2 h3)
theorem cf_bor {f : FuncId} (h : shared f = false) (h2 : lends f = false) (h3 : reads f = false) (h4 : borrows f = true) : cf.mode f = .bor := by
 show (if shared f = true then Mode.shr else if lends f = true then .lnd else if reads f = true then .rdo else if borrows f = true then .bor else if makes f = true then .mak else .val) = .bor;rw [h, h2, h3, h4]; rfl
theorem cf_mak {f : FuncId} (h : shared f = false) (h2 : lends f = false) (h3 : reads f = false) (h4 : borrows f = false) (h5 : makes f = true) : cf.mode f = .mak := by
 show (if shared f = true then Mode.shr else if lends f = true then .lnd else if reads f = true then .rdo else if borrows f = true then .bor else if makes f = true then .mak else .val) = .mak;rw [h, h2, h3, h4, h5]; rfl
theorem P1b {f : FuncId} {args : List LV} {S : St} {Q : LV → St → Prop} (h : shared f = false) (h2 : lends f = false) (h3 : reads f = false) (h4 : borrows f = true) : PC cf f args S Q ↔ TQ (T.mapL peek args) S (hold (fun ds S' => VQ cf f ds (hold (fun v => flatV v = true ∧ Q v S') .mk)) .mk) := C_bor (cf_bor h h2 h3 h4)
theorem D1b {f : FuncId} {args : Array Operand} {ts : Array TypeId} {e : Env} {S : St} {K : LV → St → List Nat → List Nat → Prop} (h : shared f = false) (h2 : lends f = false) (h3 : reads f = false) (h4 : borrows f = true) : D1 cf (.call ⟨.value (.func f), args, ts⟩) e S K ↔
  TL (T.mapL peek (args.toList.map (Operand.lv e))) S (hold (fun ds S' r w => VQ cf f ds (hold (fun v => flatV v = true ∧ K v S' r w) .mk)) .mk) := D1_bor (cf_bor h h2 h3 h4)
theorem D1m {f : FuncId} {args : Array Operand} {ts : Array TypeId} {e : Env} {S : St} {K : LV → St → List Nat → List Nat → Prop} (h : shared f = false) (h2 : lends f = false) (h3 : reads f = false) (h4 : borrows f = false) (h5 : makes f = true) : D1 cf (.call ⟨.value (.func f), args, ts⟩) e S K ↔
  TL (T.mapL toD (args.toList.map (Operand.lv e))) S (hold (fun ds S' r w => MQ cf f ds (hold (fun sz xs n => K (.ar (.arr S'.next) sz 0 n) (S'.alloc (.arr sz xs false)) r (w ++ [S'.next])) .mk)) .mk) := D1_mak (cf_mak h h2 h3 h4 h5)
attribute [simp] cf_P D1c D1s D1n D1r D1b D1m P1c P1s P1n P1r P1b
theorem good : cf.Good Tryz.prog where
 prog := rfl
 mixed := mixed
 yid := ⟨yid_val, yid_none⟩
 enters := all_enter
 ext g x h := by
  change (bif Nat.beq g _ then _ else none) = some x at h
  cases h1 : Nat.beq g 122 with
  | true =>
   rw [h1] at h
   cases h
   rw [Nat.eq_of_beq_eq_true h1];exact clone_says
  | false => rw [h1] at h; cases h
 far := fars_ok
 alt g q h fn c hf hb := by
  change (bif Nat.beq g _ then _ else bif Nat.beq g _ then _ else none) = some q at h
  cases h1 : Nat.beq g 44 with
  | true =>
   rw [h1] at h
   cases h
   have hg := Nat.eq_of_beq_eq_true h1;subst hg;rw [Tryz.func44] at hf
   cases hf
   cases hb
   exact lay_ok
  | false =>
   rw [h1] at h
   cases h2 : Nat.beq g 12 with
   | true =>
    rw [h2] at h
    cases h
    have hg := Nat.eq_of_beq_eq_true h2;subst hg;rw [Tryz.func12] at hf
    cases hf
    cases hb
    exact do_ok
   | false => rw [h2] at h; cases h
theorem cf_clone {xs : List D} {Q : LV → Prop} (hs : xs = [] ∨ (sized 1 xs ∧ xs.length ≤ 1000000)) (h : Q (.d (.sl xs))) : VQ cf 122 [.sl xs] Q := by
 refine ⟨0, ?_⟩;show (cloneX [.sl xs]).holds Q;simp only [cloneX, if_pos hs];exact h
theorem cf_far40 {S : St} {Q : LV → St → Prop} {args : List LV} (h : (sortFileF 41 args S).holds fun r => Q r.1 r.2) : SQ cf 40 args S Q := S_far Tryz.func40 rfl h
theorem calls_true {f : FuncId} {ds : List D} {vs : List Value} {w : World} (h : VQ cf f ds fun v => v = .d (.bool true)) (hd : DArgs w (fun b => b < w.heap.size) ds vs) :
  Calls Tryz.prog f vs.toArray w fun e w' => e = .returned (.bool true) ∧ Below w.heap.size w w' := by
 obtain ⟨n, hn⟩ := h;obtain ⟨h1, h2⟩ := v_sound good (ev_sound good n) f ds vs w (fun b => b < w.heap.size) (fun _ h => h) hd
 cases hr : callV cf n f ds with
 | no => rw [hr] at hn; exact hn.elim
 | vac => exact absurd hr h1
 | ok r =>
  rw [hr] at hn;have hr' : r = .d (.bool true) := hn;subst hr';refine Calls.mono (h2 _ hr rfl).2 fun e w' he => ?_
  cases e with
  | returned v =>
   obtain ⟨St', hg, hv⟩ := he
   cases hv with | d _ _ hv =>
   cases hv
   exact ⟨rfl, hg.os, hg.tape, hg.out, hg.size, hg.old⟩
  | _ => exact he.elim
end Go.VM
