/- For every input the law FsPlays answers true, and what came in reads as it did. No condition. -/
import Derived.Test.YtmahmajoelmmeaaGreatRows
import Derived.Test.YtmahmajoelmmeaaGreatPc
import Derived.WalkKit
import Derived.ProofKit
import Derived.OpenShut
import Derived.ShutString
import Derived.ChangeOld
import Derived.Below
import Derived.SizedLaws
namespace Go.Proofs.YtmahmajoelmmeaaGreat.fsPlays
open Go.ChangeShapes Go.WideShapes Go.ChangeAt Go.RowKit
open Go.VM
theorem own : ownKnob Tryz.prog.godebug = none := by kernel_rfl
theorem laidOut : laidOutB Tryz.prog = true := by kernel_rfl
theorem op3 : Opens Tryz.prog 3 (fun n : Int => [D.int .i64 n]) (fun n => (Lit.int .i64 n).wf = true) := opens_int Tryz.underlying3
theorem op4 : Opens Tryz.prog 4 (fun b : Bool => [D.bool b]) (fun _ => True) := opens_bool Tryz.underlying4
theorem op9 : Opens Tryz.prog 9 (fun s : List UInt8 => [D.str s]) (fun s => s.length ≤ lim) := opens_str Tryz.underlying9
theorem op5 : Opens Tryz.prog 5 (fun c : UInt8 => [D.int .u8 c.toNat]) (fun _ => True) := (opens_int Tryz.underlying5).map (fun n : Int => UInt8.ofNat n.toNat) fun n hn => ⟨by
 have : 0 ≤ n ∧ n ≤ 255 := by simpa [Lit.wf, IntKind.min, IntKind.max, IntKind.bits, IntKind.signed] using hn
 have e : ((UInt8.ofNat n.toNat).toNat : Int) = n := by simp; omega
 rw [e], trivial⟩
theorem op40 : Opens Tryz.prog 40 (fun l : List UInt8 => [D.sl (byD l)]) (fun l => (∀ a ∈ l, (fun _ => True) a) ∧ l.length * 1 ≤ lim) := opens_slice (es := 1) (bs := 1) Tryz.underlying40 (by kernel_rfl) (by kernel_rfl) (by decide) op5 (fun c : UInt8 => D.int .u8 c.toNat) (fun _ => rfl) (fun _ => rfl)
theorem op42 : Opens Tryz.prog 42 (fun x : Fi => (fiD x).cells) (fun x => x.name.length ≤ lim ∧ ((∀ c ∈ x.data, True) ∧ x.data.length * 1 ≤ lim) ∧ True) := (opens_struct2 Tryz.underlying42 op9 (n1 := 1) (fun _ => rfl) op40 (n2 := 1) (fun _ => rfl) (by decide) (by decide) (by kernel_rfl) (by rfl) (by rfl) (by kernel_rfl) (by kernel_rfl)).map (fun p : (List UInt8) × (List UInt8) × Unit => ⟨p.1, p.2.1⟩) fun _ h => by exact ⟨rfl, h⟩
theorem op44 : Opens Tryz.prog 44 (fun x : FOp => (fopD x).cells) (okOp) := (opens_struct2 Tryz.underlying44 op4 (n1 := 1) (fun _ => rfl) op42 (n2 := 2) (fun _ => rfl) (by decide) (by decide) (by kernel_rfl) (by rfl) (by rfl) (by kernel_rfl) (by kernel_rfl)).map (fun p : Bool × Fi × Unit => ⟨p.1, p.2.1.name, p.2.1.data⟩) fun _ h => by exact ⟨rfl, h⟩
theorem op22 : Opens Tryz.prog 22 (fun l : List FOp => [D.sl (rowD fopD l)]) (fun l => (∀ a ∈ l, (okOp) a) ∧ l.length * 48 ≤ lim) := opens_slice (es := 3) (bs := 48) Tryz.underlying22 (by kernel_rfl) (by kernel_rfl) (by decide) op44 fopD (fun _ => rfl) (fun _ => rfl)
theorem op51 : Opens Tryz.prog 51 (fun l : List Bool => [D.sl (boD l)]) (fun l => (∀ a ∈ l, (fun _ => True) a) ∧ l.length * 1 ≤ lim) := opens_slice (es := 1) (bs := 1) Tryz.underlying51 (by kernel_rfl) (by kernel_rfl) (by decide) op4 (fun b : Bool => D.bool b) (fun _ => rfl) (fun _ => rfl)
theorem op53 : Opens Tryz.prog 53 (fun x : Cr => (crD x).cells) (fun x => (Lit.int .i64 x.pos).wf = true ∧ ((∀ a ∈ x.keep, True) ∧ x.keep.length * 1 ≤ lim) ∧ True) := (opens_struct2 Tryz.underlying53 op3 (n1 := 1) (fun _ => rfl) op51 (n2 := 1) (fun _ => rfl) (by decide) (by decide) (by kernel_rfl) (by rfl) (by rfl) (by kernel_rfl) (by kernel_rfl)).map (fun p : Int × (List Bool) × Unit => ⟨p.1, p.2.1⟩) fun _ h => by exact ⟨rfl, h⟩
theorem op62 : Opens Tryz.prog 62 (fun x : Act5 => (act5D x).cells) (fun x => (Lit.int .i64 x.kind).wf = true ∧ ((∀ o ∈ x.ops, okOp o) ∧ x.ops.length * 48 ≤ lim) ∧ ((Lit.int .i64 x.crash.pos).wf = true ∧ ((∀ a ∈ x.crash.keep, True) ∧ x.crash.keep.length * 1 ≤ lim) ∧ True) ∧ x.name.length ≤ lim ∧ True) := (opens_struct4 Tryz.underlying62 op3 (n1 := 1) (fun _ => rfl) op22 (n2 := 1) (fun _ => rfl) op53 (n3 := 2) (fun _ => rfl) op9 (n4 := 1) (fun _ => rfl) (by decide) (by decide) (by decide) (by decide) (by kernel_rfl) (by rfl) (by rfl) (by rfl) (by rfl) (by kernel_rfl) (by kernel_rfl) (by kernel_rfl) (by kernel_rfl)).map (fun p : Int × (List FOp) × Cr × (List UInt8) × Unit => ⟨p.1, p.2.1, p.2.2.1, p.2.2.2.1⟩) fun _ h => by exact ⟨rfl, h⟩
theorem op60 : Opens Tryz.prog 60 (fun l : List Act5 => [D.sl (rowD act5D l)]) (fun l => (∀ a ∈ l, (fun x => (Lit.int .i64 x.kind).wf = true ∧ ((∀ o ∈ x.ops, okOp o) ∧ x.ops.length * 48 ≤ lim) ∧ ((Lit.int .i64 x.crash.pos).wf = true ∧ ((∀ a ∈ x.crash.keep, True) ∧ x.crash.keep.length * 1 ≤ lim) ∧ True) ∧ x.name.length ≤ lim ∧ True) a) ∧ l.length * 80 ≤ lim) := opens_slice (es := 5) (bs := 80) Tryz.underlying60 (by kernel_rfl) (by kernel_rfl) (by decide) op62 act5D (fun _ => rfl) (fun _ => rfl)
set_option maxRecDepth 100000 in
theorem lifted (os : Os) (started : os.Started) (H : Type) (enc : TypeId × Value → H) :
  ReturnsInHanded {} Tryz.checked os 8 .any (Rows.fsPlaysSpec.pre6 enc Tryz.prog Tryz.f8 Rows.fsPlaysRow.domain false) (Rows.fsPlaysSpec.post enc Tryz.prog Tryz.f8 false true false false) := by
 refine returnsInHanded_of_change_sized (C := Tryz.checked) own started (by kernel_rfl) Tryz.func8
  (ChangeSpec.witness6 (enc := enc) (C := Tryz.checked) false ⟨#[], #[.int .i64 0, .slice none 0 0], []⟩ 8 (by kernel_rfl) (by kernel_rfl) (by kernel_rfl) (by kernel_rfl)) ?_
 intro W base args ds gs before hval0 hW hcnd hsz _;have hval : ∀ (j : Nat) t v, Tryz.f8.params[j]? = some t → args[j]? = some v → Value.okWide Tryz.prog W .any base t v := hval0;have hW2 := hW;obtain ⟨p, q, hA0, hV, rfl, hfz, hnd⟩ := hW;have hA : DataW.TrodAll enc Tryz.prog W 0 (fun _ => true) true Tryz.f8.params.toList args.toList ds p := hA0;rw [Tryz.params8] at hA hval hsz;obtain ⟨v0, vs0, d0, ds0, p0, q0, hargs, rfl, rfl, h0, r0⟩ := trodAll_cons hA;obtain ⟨v1, vs1, d1, ds1, p1, q1, rfl, rfl, rfl, h1, r1⟩ := trodAll_cons r0;obtain ⟨rfl, rfl, rfl⟩ := trodAll_nil r1;obtain rfl : args = #[v0, v1] := by cases args; simp_all
 obtain ⟨rfl, rfl⟩ := trodVars_none hV;have lt0 : ∀ x ∈ p0, x.block < W.heap.size := by obtain ⟨m, hm⟩ := h0; exact DataW.trod_lt m _ _ _ hm
 have z0 : ∀ n ∈ d0.weights Tryz.prog 3, n ≤ lim := fun n hn => of_decide_eq_true (List.all_eq_true.1 hsz n (DataW.weights_mem_each (j := 0) rfl rfl n hn));obtain ⟨a0, k0, x0⟩ := arg_one op3 (fun n : Int => D.int .i64 n) (fun _ => rfl) (by kernel_rfl) (hval 0 3 v0 rfl rfl) h0 z0
 have lt1 : ∀ x ∈ p1, x.block < W.heap.size := by obtain ⟨m, hm⟩ := h1; exact DataW.trod_lt m _ _ _ hm
 have z1 : ∀ n ∈ d1.weights Tryz.prog 60, n ≤ lim := fun n hn => of_decide_eq_true (List.all_eq_true.1 hsz n (DataW.weights_mem_each (j := 1) rfl rfl n hn));obtain ⟨a1, k1, x1⟩ := arg_one op60 (fun l : List Act5 => D.sl (rowD act5D l)) (fun _ => rfl) (by kernel_rfl) (hval 1 60 v1 rfl rfl) h1 z1
 clear hA0 hval0;refine (calls_true (law_FsPlays k0 k1) (dargs_cons x0 (dargs_cons x1 dargs_nil))).mono fun e W2 ⟨he, bel⟩ => ?_;subst he;exact ⟨_, rfl, _, _, _, [], _, [], hW2, trodAll_mk1 (shut_bool Tryz.underlying4 _), (trodAll_cons_mk (Below.trod laidOut (by kernel_rfl) (of_decide_eq_true (by kernel_rfl)) h0 bel lt0) (trodAll_cons_mk (Below.trod laidOut (by kernel_rfl) (of_decide_eq_true (by kernel_rfl)) h1 bel lt1) trodAll_mk0)), rfl, bel.frame _, fun h => by cases h⟩
theorem over : Rows.fsPlaysRow.holds Tryz.pinned (OpenSpec.ofChange Rows.fsPlaysSpec) :=
 OpenClaim.holds_of_wide 8 Tryz.f8 rfl rfl rfl rfl rfl rfl rfl ⟨rfl, rfl, rfl, rfl, rfl⟩ rfl rfl rfl rfl rfl (by kernel_rfl) Tryz.func8 (by kernel_rfl)
  (of_decide_eq_true (by kernel_rfl)) (by unfold Func.isWrapper; first | (rw [if_pos (by decide +kernel)]; kernel_rfl) | (rw [if_neg (by decide +kernel)]; exact ⟨rfl, rfl⟩))
  (fun os started H enc _ => lifted os started H enc)
theorem proved : Rows.FsPlaysSaid := over
#print axioms proved
end Go.Proofs.YtmahmajoelmmeaaGreat.fsPlays
