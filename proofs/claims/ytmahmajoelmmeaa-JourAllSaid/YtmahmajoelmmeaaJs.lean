/- Chapter 2: the reference opens, and commits. No condition. -/
import Derived.Test.YtmahmajoelmmeaaJr
namespace Go.VM
open Go.Proofs
set_option maxRecDepth 4000
attribute [-simp] Int.not_lt Int.not_le Nat.not_lt Nat.not_le
theorem refMark_eq {b : List UInt8} : refMark b = if (marked b).2 then (marked b).1 else -1 := rfl
set_option maxHeartbeats 1000000 in
theorem ref2_Open {S : St} {id n : Nat} {d : Dk} {Q : LV → St → Prop} (hI : IsR S id d) (hw : Ok d (n + 200))
    (h : ∀ S', IsR S' id d.openD.2 → Mod S S' id → Q (.d (.int .i64 d.openD.1)) S') : SQ cf 63 [.ptr id 0] S Q := by
  refine S_intro Try.func63 rfl rfl (Nat.le_of_ble_eq_true rfl) ?_
  have hI0 := hI
  obtain ⟨hid, c0, c1, c3, i1, i2, i3⟩ := hI
  have hI := hI0
  simp [i1]
  cases hd : d.down with
  | true =>
    rw [Dk.openD, if_pos hd] at h
    simp
    exact h _ hI (Mod.refl _ _)
  | false =>
    rw [Dk.openD, if_neg (by rw [hd]; decide)] at h
    simp
    refine X_drawM [0, 1, 3, 7, 15, 31, 63, 15, 143, 447, 959, 2047, 4095] (by decide +kernel) (by decide +kernel) ?_
    simp
    refine shR_Many (hI.of rfl (by simp; omega)) hw.wf.many fun S1 hI1 ho1 hn1 hc1 he1 => ?_
    simp at hn1 hc1 he1
    have hid1 := hI1.1
    simp [hn1, hc1]
    refine f_intro (fun j1 => ?_) (fun j1 => ?_)
    · rw [if_pos (.inl j1)] at h
      simp [j1, hn1, hc1]
      refine h _ (hI1.of rfl (by simp; omega)) ?_
      exact (Mod.refl S id).of (fun j hj hne => ho1 j hne) (by simp) (by simp) he1
    · have hbig : (157 : Int) < d.lasts.length := by unfold Dk.many at j1; omega
      have hlen : ∀ i : Int, 0 ≤ i → i < 157 → (d.read i).length = 64 := fun i a b => hw.wf.read a (by omega)
      have hmany : 0 < d.many := by unfold Dk.many at j1 ⊢; omega
      simp [j1, hn1, hc1]
      refine shR_Read (hI1.of rfl (by simp; omega)) hw.wf fun S2 hI2 ho2 hn2 hc2 he2 => ?_
      simp at hn2 hc2 he2
      simp [j1, hn1, hc1, hn2, hc2]
      refine ref2_sector (b := [97, 112, 115, 116]) ?_
      simp [j1, hn1, hc1, hn2, hc2]
      refine ⟨by decide +kernel, ?_⟩
      have hI3 : IsR ⟨S2.obj, S.next + 1300, S.clk + 1300, S2.esc⟩ id d := hI2.of rfl (by show id < S.next + 1300; omega)
      have hM3 : Mod S ⟨S2.obj, S.next + 1300, S.clk + 1300, S2.esc⟩ id := (Mod.refl S id).of (fun j hj hne => (ho2 j hne).trans (ho1 j hne)) (by show S.next ≤ S.next + 1300; omega) (by show S.clk ≤ S.clk + 1300; omega) (he2.trans he1)
      generalize (⟨S2.obj, S.next + 1300, S.clk + 1300, S2.esc⟩ : St) = S3 at hI3 hM3
      refine f_intro (fun j2 => ?_) (fun j2 => ?_)
      · rw [if_neg (by simp [j1, j2])] at h
        simp
        have hl1 := hlen 1 (by decide) (by decide)
        refine ref_ReadN hI3 hw.wf (fun hr => by rw [hr] at hl1; cases hl1) (fun _ => ?_)
        have hid3 := hI3.1
        have q3 : ¬ id = S3.next := by omega
        have hl1' : 64 ≤ (d.read 1).length := by omega
        have ht1 : (d.read 1).take 64 = d.read 1 := List.take_of_length_le (by omega)
        have hI4 : IsR (S3.alloc (.arr 1 (byD (d.read 1)) true)) id d := hI3.of (by simp [q3]) (by simp; omega)
        have hM4 : Mod S (S3.alloc (.arr 1 (byD (d.read 1)) true)) id := hM3.alloc
        simp [hl1, ht1]
        refine ref2_marked hl1 ?_
        generalize (S3.alloc (.arr 1 (byD (d.read 1)) true)) = S4 at hI4 hM4
        simp
        cases hm2 : (marked (d.read 1)).2 with
        | false =>
          rw [if_pos hm2] at h
          have e : refMark (d.read 1) = -1 := by unfold refMark; rw [hm2]; rfl
          rw [e]
          have e2 : IntKind.i64.wrap 13 = 13 := wrap_i64 (by decide) (by decide)
          simp [e2]
          exact h _ hI4 hM4
        | true =>
          rw [if_neg (by rw [hm2]; decide)] at h
          obtain ⟨m1, m2⟩ := marked_le hm2
          have e : refMark (d.read 1) = (marked (d.read 1)).1 := by unfold refMark; rw [hm2]; rfl
          obtain ⟨N, hN⟩ : ∃ N : Nat, (marked (d.read 1)).1 = N := ⟨(marked (d.read 1)).1.toNat, by omega⟩
          rw [e, hN]
          rw [hN] at h m2
          refine f_intro (fun j3 => ?_) (fun j3 => ?_)
          · have hN0 : N = 0 := by omega
            rw [if_pos (by omega)] at h
            subst hN0
            have e2 : IntKind.i64.wrap 0 = 0 := wrap_i64 (by decide) (by decide)
            simp [e2]
            exact h _ hI4 hM4
          · rw [if_neg (by omega), Int.toNat_natCast] at h
            simp [j3]
            refine ref2_logged hI4 hw hmany (by omega) (fun h0 S5 v hI5 hk5 hv => ?_) (fun h0 S5 hI5 hk5 => ?_)
            · rw [if_pos h0] at h
              have hwl : Ok d (n + (logW d N N).length + 3) := hw.less (by rw [logW_length]; omega)
              have hln : (logW d N N).length ≤ 1000000 := by rw [logW_length]; omega
              have hM5 := hM4.trans (hk5.mod id)
              simp
              refine LitSl.lend hv.lit fun S6 s1 s2 s3 => ?_
              simp
              refine ref2_applied (hI5.of (s3 id hI5.noarr) (by rw [s2]; exact hI5.1)) hwl hln fun S7 hI7 hM7 => ?_
              simp
              exact h _ hI7 ((hM4.trans ((s1 hk5).mod id)).trans hM7)
            · rw [if_neg (by rw [h0]; decide)] at h
              simp
              exact h _ hI5 (hM4.trans (hk5.mod id))
      · rw [if_pos (.inr j2)] at h
        simp
        exact h _ hI3 hM3
end Go.VM
