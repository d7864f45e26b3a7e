/- For every input the law DevPlays answers true, and what came in reads as it did. No condition. -/
import Derived.Test.YtmahmajoelmmeaaRows
import Derived.Test.YtmahmajoelmmeaaEp
import Derived.WalkKit
import Derived.ProofKit
import Derived.OpenShut
import Derived.ShutString
import Derived.ChangeOld
import Derived.Below
import Derived.SizedLaws
namespace Go.Proofs.Ytmahmajoelmmeaa.devPlays
open Go.ChangeShapes Go.WideShapes Go.ChangeAt Go.RowKit
open Go.VM
theorem own : ownKnob Try.prog.godebug = none := by kernel_rfl
theorem laidOut : laidOutB Try.prog = true := by kernel_rfl
theorem op3 : Opens Try.prog 3 (fun n : Int => [D.int .i64 n]) (fun n => (Lit.int .i64 n).wf = true) := opens_int Try.underlying3
theorem op5 : Opens Try.prog 5 (fun c : UInt8 => [D.int .u8 c.toNat]) (fun _ => True) := (opens_int Try.underlying5).map (fun n : Int => UInt8.ofNat n.toNat) fun n hn => ⟨by
  have : 0 ≤ n ∧ n ≤ 255 := by simpa [Lit.wf, IntKind.min, IntKind.max, IntKind.bits, IntKind.signed] using hn
  have e : ((UInt8.ofNat n.toNat).toNat : Int) = n := by simp; omega
  rw [e], trivial⟩
theorem op22 : Opens Try.prog 22 (fun l : List UInt8 => [D.sl (byD l)]) (fun l => (∀ a ∈ l, (fun _ => True) a) ∧ l.length * 1 ≤ lim) := opens_slice (es := 1) (bs := 1) Try.underlying22 (by kernel_rfl) (by kernel_rfl) (by decide) op5 (fun c : UInt8 => D.int .u8 c.toNat) (fun _ => rfl) (fun _ => rfl)
theorem op4 : Opens Try.prog 4 (fun b : Bool => [D.bool b]) (fun _ => True) := opens_bool Try.underlying4
theorem op56 : Opens Try.prog 56 (fun l : List Bool => [D.sl (boD l)]) (fun l => (∀ a ∈ l, (fun _ => True) a) ∧ l.length * 1 ≤ lim) := opens_slice (es := 1) (bs := 1) Try.underlying56 (by kernel_rfl) (by kernel_rfl) (by decide) op4 (fun b : Bool => D.bool b) (fun _ => rfl) (fun _ => rfl)
theorem op65 : Opens Try.prog 65 (fun x : Cr => (crD x).cells) (fun x => (Lit.int .i64 x.pos).wf = true ∧ ((∀ a ∈ x.keep, True) ∧ x.keep.length * 1 ≤ lim) ∧ True) := (opens_struct2 Try.underlying65 op3 (n1 := 1) (fun _ => rfl) op56 (n2 := 1) (fun _ => rfl) (by decide) (by decide) (by kernel_rfl) (by rfl) (by rfl) (by kernel_rfl) (by kernel_rfl)).map (fun p : Int × (List Bool) × Unit => ⟨p.1, p.2.1⟩) fun _ h => by exact ⟨rfl, h⟩
theorem op75 : Opens Try.prog 75 (fun x : Act1 => (act1D x).cells) (fun x => (Lit.int .i64 x.kind).wf = true ∧ (Lit.int .i64 x.pos).wf = true ∧ ((∀ a ∈ x.b, True) ∧ x.b.length * 1 ≤ lim) ∧ ((Lit.int .i64 x.crash.pos).wf = true ∧ ((∀ a ∈ x.crash.keep, True) ∧ x.crash.keep.length * 1 ≤ lim) ∧ True) ∧ True) := (opens_struct4 Try.underlying75 op3 (n1 := 1) (fun _ => rfl) op3 (n2 := 1) (fun _ => rfl) op22 (n3 := 1) (fun _ => rfl) op65 (n4 := 2) (fun _ => rfl) (by decide) (by decide) (by decide) (by decide) (by kernel_rfl) (by rfl) (by rfl) (by rfl) (by rfl) (by kernel_rfl) (by kernel_rfl) (by kernel_rfl) (by kernel_rfl)).map (fun p : Int × Int × (List UInt8) × Cr × Unit => ⟨p.1, p.2.1, p.2.2.1, p.2.2.2.1⟩) fun _ h => by exact ⟨rfl, h⟩
theorem op71 : Opens Try.prog 71 (fun l : List Act1 => [D.sl (rowD act1D l)]) (fun l => (∀ a ∈ l, (fun x => (Lit.int .i64 x.kind).wf = true ∧ (Lit.int .i64 x.pos).wf = true ∧ ((∀ a ∈ x.b, True) ∧ x.b.length * 1 ≤ lim) ∧ ((Lit.int .i64 x.crash.pos).wf = true ∧ ((∀ a ∈ x.crash.keep, True) ∧ x.crash.keep.length * 1 ≤ lim) ∧ True) ∧ True) a) ∧ l.length * 72 ≤ lim) := opens_slice (es := 5) (bs := 72) Try.underlying71 (by kernel_rfl) (by kernel_rfl) (by decide) op75 act1D (fun _ => rfl) (fun _ => rfl)
set_option maxRecDepth 100000 in
theorem lifted (os : Os) (started : os.Started) (H : Type) (enc : TypeId × Value → H) :
    ReturnsInHanded {} Try.checked os 11 .any (Rows.devPlaysSpec.pre6 enc Try.prog Try.f11 Rows.devPlaysRow.domain false) (Rows.devPlaysSpec.post enc Try.prog Try.f11 false true false false) := by
  refine returnsInHanded_of_change_sized (C := Try.checked) own started (by kernel_rfl) Try.func11
    (ChangeSpec.witness6 (enc := enc) (C := Try.checked) false ⟨#[], #[.int .i64 0, .slice none 0 0], []⟩ 8 (by kernel_rfl) (by kernel_rfl) (by kernel_rfl) (by kernel_rfl)) ?_
  intro W base args ds gs before hval0 hW hcnd hsz _
  have hval : ∀ (j : Nat) t v, Try.f11.params[j]? = some t → args[j]? = some v → Value.okWide Try.prog W .any base t v := hval0
  have hW2 := hW
  obtain ⟨p, q, hA0, hV, rfl, hfz, hnd⟩ := hW
  have hA : DataW.TrodAll enc Try.prog W 0 (fun _ => true) true Try.f11.params.toList args.toList ds p := hA0
  rw [Try.params11] at hA hval hsz
  obtain ⟨v0, vs0, d0, ds0, p0, q0, hargs, rfl, rfl, h0, r0⟩ := trodAll_cons hA
  obtain ⟨v1, vs1, d1, ds1, p1, q1, rfl, rfl, rfl, h1, r1⟩ := trodAll_cons r0
  obtain ⟨rfl, rfl, rfl⟩ := trodAll_nil r1
  obtain rfl : args = #[v0, v1] := by cases args; simp_all
  obtain ⟨rfl, rfl⟩ := trodVars_none hV
  have lt0 : ∀ x ∈ p0, x.block < W.heap.size := by obtain ⟨m, hm⟩ := h0; exact DataW.trod_lt m _ _ _ hm
  have z0 : ∀ n ∈ d0.weights Try.prog 3, n ≤ lim := fun n hn => of_decide_eq_true (List.all_eq_true.1 hsz n (DataW.weights_mem_each (j := 0) rfl rfl n hn))
  obtain ⟨a0, k0, x0⟩ := arg_one op3 (fun n : Int => D.int .i64 n) (fun _ => rfl) (by kernel_rfl) (hval 0 3 v0 rfl rfl) h0 z0
  have lt1 : ∀ x ∈ p1, x.block < W.heap.size := by obtain ⟨m, hm⟩ := h1; exact DataW.trod_lt m _ _ _ hm
  have z1 : ∀ n ∈ d1.weights Try.prog 71, n ≤ lim := fun n hn => of_decide_eq_true (List.all_eq_true.1 hsz n (DataW.weights_mem_each (j := 1) rfl rfl n hn))
  obtain ⟨a1, k1, x1⟩ := arg_one op71 (fun l : List Act1 => D.sl (rowD act1D l)) (fun _ => rfl) (by kernel_rfl) (hval 1 71 v1 rfl rfl) h1 z1
  clear hA0 hval0
  refine (calls_true (law_DevPlays k0 k1) (dargs_cons x0 (dargs_cons x1 dargs_nil))).mono fun e W2 ⟨he, bel⟩ => ?_
  subst he
  exact ⟨_, rfl, _, _, _, [], _, [], hW2, trodAll_mk1 (shut_bool Try.underlying4 _), (trodAll_cons_mk (Below.trod laidOut (by kernel_rfl) (of_decide_eq_true (by kernel_rfl)) h0 bel lt0) (trodAll_cons_mk (Below.trod laidOut (by kernel_rfl) (of_decide_eq_true (by kernel_rfl)) h1 bel lt1) trodAll_mk0)), rfl, bel.frame _, fun h => by cases h⟩
theorem over : Rows.devPlaysRow.holds Try.pinned (OpenSpec.ofChange Rows.devPlaysSpec) :=
  OpenClaim.holds_of_wide 11 Try.f11 rfl rfl rfl rfl rfl rfl rfl ⟨rfl, rfl, rfl, rfl, rfl⟩ rfl rfl rfl rfl rfl (by kernel_rfl) Try.func11 (by kernel_rfl)
    (of_decide_eq_true (by kernel_rfl)) (by unfold Func.isWrapper; first | (rw [if_pos (by decide +kernel)]; kernel_rfl) | (rw [if_neg (by decide +kernel)]; exact ⟨rfl, rfl⟩))
    (fun os started H enc _ => lifted os started H enc)
theorem proved : Rows.DevPlaysSaid := over
#print axioms proved
end Go.Proofs.Ytmahmajoelmmeaa.devPlays
