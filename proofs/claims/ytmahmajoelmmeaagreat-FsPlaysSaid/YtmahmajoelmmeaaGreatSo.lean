/- Chapter 5: how the library sorts the program's files and names. No condition. -/
import Derived.Test.YtmahmajoelmmeaaGreatVmD
import Derived.Test.YtmahmajoelmmeaaGreatShelf
import Derived.Test.YtmahmajoelmmeaaGreatChecked
import Derived.Shelf.SlicesG.Cmp
import Derived.ProofKit
import Derived.Laws.Cover1
namespace Go.VM
open Go.Proofs Go.RowKit Go.Shelf Go.Lib Go.Sort
theorem cmp_isNaN (s : List UInt8) (w : World) : Calls Tryz.prog 119 #[encStr s] w fun e w' => e = .returned (.bool false) ∧ w' = w := by
 go_enter Tryz.func119, Tryz.ntmps119
 go_wp2
 go_ret
 exact ⟨by simp, rfl⟩
def cmpS (x y : List UInt8) : Int := if x < y then -1 else if y < x then 1 else 0
set_option maxHeartbeats 1000000 in
theorem cmp_Compare (x y : List UInt8) (w : World) : Calls Tryz.prog 77 #[encStr x, encStr y] w fun e w' => e = .returned (.int .i64 (cmpS x y)) ∧ w' = w := by
 go_enter Tryz.func77, Tryz.ntmps77
 go_wp2_with (go_at_call 119; refine (cmp_isNaN _ _).mono ?_; rintro e w' ⟨rfl, hw⟩; rw [hw])
 ·go_ret
  rename_i h;rw [bytesLess_eq, decide_eq_true_eq] at h;exact ⟨by simp [cmpS, h], rfl⟩
 ·go_ret
  rename_i h _ _ k;rw [bytesLess_eq, decide_eq_false_iff_not] at h;have hne : x ≠ y := by intro e; subst e; simp at k
  have hlt : y < x := by
   refine Classical.byContradiction fun hn => hne ?_;exact List.le_antisymm (show x ≤ y from hn) (show y ≤ x from h)
  exact ⟨by simp [cmpS, h, hlt], rfl⟩
 ·go_ret
  rename_i h k;have he : x = y := by simpa using k
  subst he;exact ⟨by simp [cmpS, List.lt_irrefl], rfl⟩
set_option maxHeartbeats 1000000 in
theorem fs_order (x y : FV) (W : World) : Calls Tryz.prog 41 #[.agg (encFV x).toArray, .agg (encFV y).toArray] W fun e w' => e = .returned (.int .i64 (cmpS x.n y.n)) ∧ ∃ q os', w' = grow (W.drewN q) os' := by
 have hcon := fun W' => cmp_Compare x.n y.n W';obtain ⟨a1, n1, b1, ⟨p1, hp1⟩, ⟨q1, hq1⟩⟩ := x;obtain ⟨a2, n2, b2, ⟨p2, hp2⟩, ⟨q2, hq2⟩⟩ := y;simp only [encFV] at hcon ⊢;generalize cmpS n1 n2 = r at hcon ⊢
 go_enter Tryz.func41, Tryz.ntmps41
 go_wp2_with (go_at_call 77; refine (hcon _).mono ?_; rintro e w' ⟨rfl, rfl⟩)
 go_ret
 exact ⟨rfl, 0, _, by rw [alloc_eq_grow, alloc_eq_grow, grow_grow]; rfl⟩
theorem cmpS_lt (x y : List UInt8) : decide (cmpS x y < 0) = decide (x < y) := by
 unfold cmpS;by_cases h : x < y
 ·simp [h]
 ·by_cases k : y < x <;> simp [h, k]
theorem name_SWO : SWO (ltOf fun x y : FV => cmpS x.n y.n) where
 irrefl x := by simp [ltOf, cmpS_lt, List.lt_irrefl]
 trans x y z h k := by
  simp only [ltOf, cmpS_lt, decide_eq_true_eq] at *;exact List.lt_trans h k
 ntrans x y z h k := by
  simp only [ltOf, cmpS_lt, decide_eq_false_iff_not] at *;exact fun hn => (List.not_lt.2 (List.le_trans (List.not_lt.1 k) (List.not_lt.1 h))) hn
theorem far_file : FarSays Tryz.prog 40 (sortFileF 41) := by
 have hE : ∀ f, (f = 40 ∨ f = 41) → Enters Tryz.prog f := by
  intro f hf args w;rcases hf with rfl | rfl
  ·exact Tryz.sortFile.f6.enters rfl args w
  ·exact enters_of Tryz.func41 (by kernel_rfl) rfl args w
 refine sortFile_says (hE _ (.inl rfl)) (fun blk off cap d w hH hblk hsz => ?_) (fun p cap w => AnyF.slices_SortFunc_none Tryz.sortFile p cap _ w);have h := AnyQ.slices_SortFunc Tryz.sortFile 5 Tryz.isAgg78 Tryz.sizeOf78 encFV (fun _ => rfl) (fun x v hv => by
  simp only [encFV, List.mem_cons, List.not_mem_nil, or_false] at hv;rcases hv with rfl | rfl | rfl | rfl | rfl
  ·rfl
  ·rfl
  ·rfl
  ·exact x.p.2
  ·exact x.q.2) (fun x y => cmpS x.n y.n) name_SWO 41 #[] blk off cap d w (hE _ (.inr rfl)) (fun _ _ _ _ x y => fs_order x y _) hH hblk hsz
 refine Calls.mono h fun e w' he => ?_;obtain ⟨h1, d', n, os, h2, h3, h4⟩ := he;refine ⟨h1, d', n, os, h2, ?_, h4⟩;have : (ltOf fun x y : FV => cmpS x.n y.n) = fun x y => decide (x.n < y.n) := by
  funext x y;simp [ltOf, cmpS_lt]
 rw [← this]; exact h3
theorem far_str : FarSays Tryz.prog 79 sortStrF :=
 sortStr_says (fun args w => Tryz.sortStr.f54.enters rfl args w) (fun blk off cap ss w hH hblk hsz => AnyG.slices_Sort_string Tryz.sortStr blk off cap ss w hH hblk hsz) (fun p cap w => AnyG.slices_Sort_string_none Tryz.sortStr p cap w)
end Go.VM
