/- For every input the law JourAll answers true, and what came in reads as it did. No condition. -/
import Derived.Test.YtmahmajoelmmeaaRows
import Derived.Test.YtmahmajoelmmeaaJl
import Derived.WalkKit
import Derived.ProofKit
import Derived.OpenShut
import Derived.ShutString
import Derived.ChangeOld
import Derived.Below
import Derived.SizedLaws
namespace Go.Proofs.Ytmahmajoelmmeaa.jourAll
open Go.ChangeShapes Go.WideShapes Go.ChangeAt Go.RowKit
open Go.VM
theorem own : ownKnob Try.prog.godebug = none := by kernel_rfl
theorem laidOut : laidOutB Try.prog = true := by kernel_rfl
theorem op3 : Opens Try.prog 3 (fun n : Int => [D.int .i64 n]) (fun n => (Lit.int .i64 n).wf = true) := opens_int Try.underlying3
theorem op5 : Opens Try.prog 5 (fun c : UInt8 => [D.int .u8 c.toNat]) (fun _ => True) := (opens_int Try.underlying5).map (fun n : Int => UInt8.ofNat n.toNat) fun n hn => ⟨by
  have : 0 ≤ n ∧ n ≤ 255 := by simpa [Lit.wf, IntKind.min, IntKind.max, IntKind.bits, IntKind.signed] using hn
  have e : ((UInt8.ofNat n.toNat).toNat : Int) = n := by simp; omega
  rw [e], trivial⟩
theorem op22 : Opens Try.prog 22 (fun l : List UInt8 => [D.sl (byD l)]) (fun l => (∀ a ∈ l, (fun _ => True) a) ∧ l.length * 1 ≤ lim) := opens_slice (es := 1) (bs := 1) Try.underlying22 (by kernel_rfl) (by kernel_rfl) (by decide) op5 (fun c : UInt8 => D.int .u8 c.toNat) (fun _ => rfl) (fun _ => rfl)
theorem op84 : Opens Try.prog 84 (fun x : Wr => (wrD x).cells) (fun x => (Lit.int .i64 x.pos).wf = true ∧ ((∀ a ∈ x.data, True) ∧ x.data.length * 1 ≤ lim) ∧ True) := (opens_struct2 Try.underlying84 op3 (n1 := 1) (fun _ => rfl) op22 (n2 := 1) (fun _ => rfl) (by decide) (by decide) (by kernel_rfl) (by rfl) (by rfl) (by kernel_rfl) (by kernel_rfl)).map (fun p : Int × (List UInt8) × Unit => ⟨p.1, p.2.1⟩) fun _ h => by exact ⟨rfl, h⟩
theorem op82 : Opens Try.prog 82 (fun l : List Wr => [D.sl (rowD wrD l)]) (fun l => (∀ a ∈ l, (fun x => (Lit.int .i64 x.pos).wf = true ∧ ((∀ a ∈ x.data, True) ∧ x.data.length * 1 ≤ lim) ∧ True) a) ∧ l.length * 32 ≤ lim) := opens_slice (es := 2) (bs := 32) Try.underlying82 (by kernel_rfl) (by kernel_rfl) (by decide) op84 wrD (fun _ => rfl) (fun _ => rfl)
theorem op4 : Opens Try.prog 4 (fun b : Bool => [D.bool b]) (fun _ => True) := opens_bool Try.underlying4
theorem op56 : Opens Try.prog 56 (fun l : List Bool => [D.sl (boD l)]) (fun l => (∀ a ∈ l, (fun _ => True) a) ∧ l.length * 1 ≤ lim) := opens_slice (es := 1) (bs := 1) Try.underlying56 (by kernel_rfl) (by kernel_rfl) (by decide) op4 (fun b : Bool => D.bool b) (fun _ => rfl) (fun _ => rfl)
theorem op65 : Opens Try.prog 65 (fun x : Cr => (crD x).cells) (fun x => (Lit.int .i64 x.pos).wf = true ∧ ((∀ a ∈ x.keep, True) ∧ x.keep.length * 1 ≤ lim) ∧ True) := (opens_struct2 Try.underlying65 op3 (n1 := 1) (fun _ => rfl) op56 (n2 := 1) (fun _ => rfl) (by decide) (by decide) (by kernel_rfl) (by rfl) (by rfl) (by kernel_rfl) (by kernel_rfl)).map (fun p : Int × (List Bool) × Unit => ⟨p.1, p.2.1⟩) fun _ h => by exact ⟨rfl, h⟩
set_option maxRecDepth 100000 in
theorem lifted (os : Os) (started : os.Started) (H : Type) (enc : TypeId × Value → H) :
    ReturnsInHanded {} Try.checked os 17 .any (Rows.jourAllSpec.pre6 enc Try.prog Try.f17 Rows.jourAllRow.domain false) (Rows.jourAllSpec.post enc Try.prog Try.f17 false true false false) := by
  refine returnsInHanded_of_change_sized (C := Try.checked) own started (by kernel_rfl) Try.func17
    (ChangeSpec.witness6 (enc := enc) (C := Try.checked) false ⟨#[], #[.slice none 0 0, .agg #[.int .i64 0, .slice none 0 0], .agg #[.int .i64 0, .slice none 0 0]], []⟩ 8 (by kernel_rfl) (by kernel_rfl) (by kernel_rfl) (by kernel_rfl)) ?_
  intro W base args ds gs before hval0 hW hcnd hsz _
  have hval : ∀ (j : Nat) t v, Try.f17.params[j]? = some t → args[j]? = some v → Value.okWide Try.prog W .any base t v := hval0
  have hW2 := hW
  obtain ⟨p, q, hA0, hV, rfl, hfz, hnd⟩ := hW
  have hA : DataW.TrodAll enc Try.prog W 0 (fun _ => true) true Try.f17.params.toList args.toList ds p := hA0
  rw [Try.params17] at hA hval hsz
  obtain ⟨v0, vs0, d0, ds0, p0, q0, hargs, rfl, rfl, h0, r0⟩ := trodAll_cons hA
  obtain ⟨v1, vs1, d1, ds1, p1, q1, rfl, rfl, rfl, h1, r1⟩ := trodAll_cons r0
  obtain ⟨v2, vs2, d2, ds2, p2, q2, rfl, rfl, rfl, h2, r2⟩ := trodAll_cons r1
  obtain ⟨rfl, rfl, rfl⟩ := trodAll_nil r2
  obtain rfl : args = #[v0, v1, v2] := by cases args; simp_all
  obtain ⟨rfl, rfl⟩ := trodVars_none hV
  have lt0 : ∀ x ∈ p0, x.block < W.heap.size := by obtain ⟨m, hm⟩ := h0; exact DataW.trod_lt m _ _ _ hm
  have z0 : ∀ n ∈ d0.weights Try.prog 82, n ≤ lim := fun n hn => of_decide_eq_true (List.all_eq_true.1 hsz n (DataW.weights_mem_each (j := 0) rfl rfl n hn))
  obtain ⟨a0, k0, x0⟩ := arg_one op82 (fun l : List Wr => D.sl (rowD wrD l)) (fun _ => rfl) (by kernel_rfl) (hval 0 82 v0 rfl rfl) h0 z0
  have lt1 : ∀ x ∈ p1, x.block < W.heap.size := by obtain ⟨m, hm⟩ := h1; exact DataW.trod_lt m _ _ _ hm
  have z1 : ∀ n ∈ d1.weights Try.prog 65, n ≤ lim := fun n hn => of_decide_eq_true (List.all_eq_true.1 hsz n (DataW.weights_mem_each (j := 1) rfl rfl n hn))
  obtain ⟨a1, k1, x1⟩ := arg_row op65 (by kernel_rfl) (hval 1 65 v1 rfl rfl) h1 z1
  have lt2 : ∀ x ∈ p2, x.block < W.heap.size := by obtain ⟨m, hm⟩ := h2; exact DataW.trod_lt m _ _ _ hm
  have z2 : ∀ n ∈ d2.weights Try.prog 65, n ≤ lim := fun n hn => of_decide_eq_true (List.all_eq_true.1 hsz n (DataW.weights_mem_each (j := 2) rfl rfl n hn))
  obtain ⟨a2, k2, x2⟩ := arg_row op65 (by kernel_rfl) (hval 2 65 v2 rfl rfl) h2 z2
  clear hA0 hval0
  refine (calls_true (law_JourAll k0 k1 k2) (dargs_cons x0 (dargs_cons x1 (dargs_cons x2 dargs_nil)))).mono fun e W2 ⟨he, bel⟩ => ?_
  subst he
  exact ⟨_, rfl, _, _, _, [], _, [], hW2, trodAll_mk1 (shut_bool Try.underlying4 _), (trodAll_cons_mk (Below.trod laidOut (by kernel_rfl) (of_decide_eq_true (by kernel_rfl)) h0 bel lt0) (trodAll_cons_mk (Below.trod laidOut (by kernel_rfl) (of_decide_eq_true (by kernel_rfl)) h1 bel lt1) (trodAll_cons_mk (Below.trod laidOut (by kernel_rfl) (of_decide_eq_true (by kernel_rfl)) h2 bel lt2) trodAll_mk0))), rfl, bel.frame _, fun h => by cases h⟩
theorem over : Rows.jourAllRow.holds Try.pinned (OpenSpec.ofChange Rows.jourAllSpec) :=
  OpenClaim.holds_of_wide 17 Try.f17 rfl rfl rfl rfl rfl rfl rfl ⟨rfl, rfl, rfl, rfl, rfl⟩ rfl rfl rfl rfl rfl (by kernel_rfl) Try.func17 (by kernel_rfl)
    (of_decide_eq_true (by kernel_rfl)) (by unfold Func.isWrapper; first | (rw [if_pos (by decide +kernel)]; kernel_rfl) | (rw [if_neg (by decide +kernel)]; exact ⟨rfl, rfl⟩))
    (fun os started H enc _ => lifted os started H enc)
theorem proved : Rows.JourAllSaid := over
#print axioms proved
end Go.Proofs.Ytmahmajoelmmeaa.jourAll
