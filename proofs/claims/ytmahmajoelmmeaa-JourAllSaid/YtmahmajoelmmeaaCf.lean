/- The machine of values over the program: its settings, that they are right, and what a law's call comes to. No condition. -/
import Derived.Test.YtmahmajoelmmeaaTy
import Derived.Below
import Derived.ProofKit
namespace Go.VM
open Go.Proofs Go.RowKit
/-- the functions that share their caller's store -/
def shrs : List Nat := [25, 39, 41, 42, 43, 44, 46, 47, 48, 55, 78, 79, 81, 82, 104, 49, 50, 51, 52, 53, 83, 84, 85, 54, 77, 86]
def shared (f : Nat) : Bool := shrs.elem f
/-- the same, but slices that are handed in are written no more -/
def lnds : List Nat := [67, 60, 87, 105, 88, 56, 94, 92, 61, 89, 58, 95, 68, 97, 62, 99, 100, 63, 101, 66, 64]
def lends : Nat → Bool := fun f => lnds.elem f
noncomputable def cf : Cfg := ⟨Try.prog, fun f => if shared f then .shr else if lends f then .lnd else .val, fun _ => none⟩
theorem cf_P : cf.P = Try.prog := rfl
theorem cf_val {f : FuncId} (h : shared f = false) (h2 : lends f = false) : cf.mode f = .val := by simp [cf, h, h2]
theorem cf_shr {f : FuncId} (h : shared f = true) : cf.mode f = .shr := by simp [cf, h]
theorem cf_lnd {f : FuncId} (h : shared f = false) (h2 : lends f = true) : cf.mode f = .lnd := by simp [cf, h, h2]
theorem cf_yid : Try.prog.funcs[YID]? = none := Array.getElem?_eq_none (Nat.le_of_ble_eq_true (by kernel_rfl))
theorem D1c {f : FuncId} {args : Array Operand} {ts : Array TypeId} {e : Env} {S : St} {K : LV → St → List Nat → List Nat → Prop} (h : shared f = false) (h2 : lends f = false) : D1 cf (.call ⟨.value (.func f), args, ts⟩) e S K ↔
    TL (T.mapL toD (args.toList.map (Operand.lv e))) S (hold (fun ds S' r w => VQ cf f ds (hold (fun v => dataV v = true ∧ K v S' r w) .mk)) .mk) := D1_val (cf_val h h2)
theorem P1c {f : FuncId} {args : List LV} {S : St} {Q : LV → St → Prop} (h : shared f = false) (h2 : lends f = false) : PC cf f args S Q ↔ TQ (T.mapL toD args) S (hold (fun ds S' => VQ cf f ds (hold (fun v => dataV v = true ∧ Q v S') .mk)) .mk) := C_val (cf_val h h2)
theorem P1s {f : FuncId} {args : List LV} {S : St} {Q : LV → St → Prop} (h : shared f = true) : PC cf f args S Q ↔ SQ cf f args S Q := PC_shr (cf_shr h)
theorem D1s {f : FuncId} {args : Array Operand} {ts : Array TypeId} {e : Env} {S : St} {K : LV → St → List Nat → List Nat → Prop} (h : shared f = true) : D1 cf (.call ⟨.value (.func f), args, ts⟩) e S K ↔
    TL (T.mapL prep (args.toList.map (Operand.lv e))) S (hold (fun ls S' r w => ShD cf f ls S' (hold (fun v S'' r' w' => K v S'' (r ++ r') (w ++ w')) .mk)) .mk) := D1_sh (cf_shr h)
theorem P1n {f : FuncId} {args : List LV} {S : St} {Q : LV → St → Prop} (h : shared f = false) (h2 : lends f = true) : PC cf f args S Q ↔ TQ (T.mapL lend args) S (hold (fun ls S' => SQ cf f ls S' Q) .mk) := C_lnd (cf_lnd h h2)
theorem D1n {f : FuncId} {args : Array Operand} {ts : Array TypeId} {e : Env} {S : St} {K : LV → St → List Nat → List Nat → Prop} (h : shared f = false) (h2 : lends f = true) : D1 cf (.call ⟨.value (.func f), args, ts⟩) e S K ↔
    TL (T.mapL prep (args.toList.map (Operand.lv e))) S (hold (fun ls S' r w => ShD cf f ls S' (hold (fun v S'' r' w' => K v S'' (r ++ r') (w ++ w')) .mk)) .mk) := D1_ln (cf_lnd h h2)
attribute [simp] cf_P D1c D1s D1n P1c P1s P1n lends lnds closeV toD toD1 dataV data1 shared shrs allocT buildT fillT dOf? D.isKey makeMapT
theorem enters_of {P : Program} {g : FuncId} {fn : Func} {c : Code} (h : P.funcs[g]? = some fn) (hb : fn.body = some c) (hn : (fn.name == "runtime.NumGoroutine") = false) : Enters P g := by
  intro args w
  have h1 : fn.name ≠ "runtime.NumGoroutine" := by simpa using hn
  simp [callFunc, h, h1, hb]
theorem names : (Try.prog.funcs.all fun f => !(f.name == "runtime.NumGoroutine")) = true := by kernel_rfl
theorem mixed : Try.prog.follows .mixedOrders = true := by kernel_rfl
theorem good : cf.Good Try.prog where
  prog := rfl
  mixed := mixed
  yid := ⟨cf_val (by decide) (by decide), cf_yid⟩
  enters g fn c h hb := by
    refine enters_of h hb ?_
    have := names
    rw [Array.all_eq_true] at this
    obtain ⟨hg, hx⟩ := Array.getElem?_eq_some_iff.1 h
    have := this g hg
    rw [hx] at this
    simpa using this
  ext g x h := by cases h
theorem calls_true {f : FuncId} {ds : List D} {vs : List Value} {w : World} (h : VQ cf f ds fun v => v = .d (.bool true)) (hd : DArgs w (fun b => b < w.heap.size) ds vs) :
    Calls Try.prog f vs.toArray w fun e w' => e = .returned (.bool true) ∧ Below w.heap.size w w' := by
  obtain ⟨n, hn⟩ := h
  obtain ⟨h1, h2⟩ := v_sound good (ev_sound good n) f ds vs w (fun b => b < w.heap.size) (fun _ h => h) hd
  cases hr : callV cf n f ds with
  | no => rw [hr] at hn; exact hn.elim
  | vac => exact absurd hr h1
  | ok r =>
    rw [hr] at hn
    have hr' : r = .d (.bool true) := hn
    subst hr'
    refine Calls.mono (h2 _ hr rfl).2 fun e w' he => ?_
    cases e with
    | returned v =>
      obtain ⟨St', hg, hv⟩ := he
      cases hv with | d _ _ hv =>
      cases hv
      exact ⟨rfl, hg.os, hg.tape, hg.out, hg.size, hg.old⟩
    | _ => exact he.elim
theorem rep_bytes {w : World} {x : Addr} {len cap : Nat} {zs : List Int} (hl : len ≤ cap) (hm : cap ≤ maxLen) (hz : len ≤ zs.length) (hc : ∀ i, i < zs.length → w.cell? (x.add i) = some (.int .u8 (zs.getD i 0))) (hw : ∀ n ∈ zs, (Lit.int .u8 n).wf = true) :
    Rep w (fun b => b < w.heap.size) (.sl (byD ((zs.take len).map fun n => UInt8.ofNat n.toNat))) (.slice (some x) len cap) := by
  by_cases h0 : len = 0
  · subst h0
    exact .empty _ _ hm
  · have hc0 := hc 0 (by omega)
    obtain ⟨b, off, spot⟩ := x
    have hspot : spot = none := by simpa [Addr.add] using World.cell?_spot hc0
    subst hspot
    have hb : b < w.heap.size := by
      rw [Addr.add_mid] at hc0
      obtain ⟨c, e, f, hh, _⟩ := cell_of_some hc0
      exact lt_size hh
    have hlen : (byD ((zs.take len).map fun n => UInt8.ofNat n.toNat)).length = len := by simp [byD]; omega
    have key : ∀ i, i < len → (D.int .u8 ((UInt8.ofNat (zs.getD i 0).toNat).toNat : Int)) = .int .u8 (zs.getD i 0) := by
      intro i hi
      have hmem : zs.getD i 0 ∈ zs := by
        have : i < zs.length := by omega
        simp [this]
      have hwf := hw _ hmem
      generalize zs.getD i 0 = n at hwf
      have : 0 ≤ n ∧ n ≤ 255 := by simpa [Lit.wf, IntKind.min, IntKind.max, IntKind.bits, IntKind.signed] using hwf
      congr 1
      simp
      omega
    have := Rep.sl (w := w) (St := fun b => b < w.heap.size) (byD ((zs.take len).map fun n => UInt8.ofNat n.toNat)) b off cap 1 hb (by omega) hm
      (fun x hx => byD_sized _ x hx) (fun x hx d hd => by
        obtain ⟨c, _, rfl⟩ := List.mem_map.1 hx
        simp [D.cells] at hd; subst hd; rfl)
      (fun i _ => .int .u8 (zs.getD i 0)) (fun i j x d h1 h2 => by
        have hi : i < len := by have := (List.getElem?_eq_some_iff.1 h1).1; omega
        rw [byD_get] at h1
        split at h1
        case isFalse => cases h1
        cases h1
        cases j with
        | succ j => simp [D.cells] at h2
        | zero =>
          have := hc i (by omega)
          rw [Addr.add_mid] at this
          simpa using this) (fun i j x d h1 h2 => by
        have hi : i < len := by have := (List.getElem?_eq_some_iff.1 h1).1; omega
        rw [byD_get] at h1
        split at h1
        case isFalse => cases h1
        cases h1
        cases j with
        | succ j => simp [D.cells] at h2
        | zero =>
          simp only [D.cells, List.getElem?_cons_zero, Option.some.injEq] at h2
          subst h2
          have e : nth ((zs.take len).map fun n => UInt8.ofNat n.toNat) i = UInt8.ofNat (zs.getD i 0).toNat := by
            have hz' : i < zs.length := by omega
            simp [nth, hi, hz']
          rw [e, key i hi]
          exact .int _ _)
    rw [hlen] at this
    exact this
end Go.VM
