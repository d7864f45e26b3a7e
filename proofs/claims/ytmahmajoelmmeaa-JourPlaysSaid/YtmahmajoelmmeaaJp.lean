/- Law JourPlays. No condition. -/
import Derived.Test.YtmahmajoelmmeaaJu
namespace Go.VM
open Go.Proofs
set_option maxRecDepth 4000
attribute [-simp] Int.not_lt Int.not_le Nat.not_lt Nat.not_le
/-- what is done to a disk -/
structure Act2 where
  kind : Int
  w : List Wr
  crash : Cr
  deriving Inhabited, DecidableEq
def act2D (x : Act2) : D := .agg [.int .i64 x.kind, .sl (rowD wrD x.w), .int .i64 x.crash.pos, .sl (boD x.crash.keep)]
theorem act2D_cells (x : Act2) : (act2D x).cells = [.int .i64 x.kind, .sl (rowD wrD x.w), .int .i64 x.crash.pos, .sl (boD x.crash.keep)] := rfl
theorem act2D_sized {l : List Act2} : sized 4 (rowD act2D l) ↔ True := iff_true_intro (rowD_sized fun _ => rfl)
attribute [simp] act2D_cells act2D_sized
theorem sh_Commit {S : St} {id n : Nat} {d : Dk} {l : List Wr} {K : LV → St → List Nat → List Nat → Prop} (hI : IsD S id d) (hw : Ok d (n + 320)) (hl : l.length ≤ 1000000) (hK : ∀ S2, IsD S2 id (d.commit l).2 → (∀ j, j ≠ id → S2.obj j = S.obj j) → S2.next = S.next → S2.clk = S.clk + 1 → S2.esc = S.esc → K (.d (.int .i64 (d.commit l).1)) S2 [id] [id]) :
    ShD cf 58 [.ptr id 0, .d (.sl (rowD wrD l))] S K := ShD_D (d' := (d.commit l).2) (x := .int .i64 (d.commit l).1) hI rfl (by simp) (fun S0 h0 => jour_Commit h0 hw hl fun S' h1 _ => ⟨h1, rfl⟩) hK
theorem shR_Commit {S : St} {id n : Nat} {d : Dk} {l : List Wr} {K : LV → St → List Nat → List Nat → Prop} (hI : IsR S id d) (hw : Ok d (n + 320)) (hl : l.length ≤ 1000000) (hK : ∀ S2, IsR S2 id (d.commit l).2 → (∀ j, j ≠ id → S2.obj j = S.obj j) → S2.next = S.next → S2.clk = S.clk + 1 → S2.esc = S.esc → K (.d (.int .i64 (d.commit l).1)) S2 [id] [id]) :
    ShD cf 66 [.ptr id 0, .d (.sl (rowD wrD l))] S K := ShD_R (d' := (d.commit l).2) (x := .int .i64 (d.commit l).1) hI rfl (by simp) (fun S0 h0 => ref2_Commit h0 hw hl fun S' h1 _ => ⟨rfl, h1⟩) hK
set_option maxHeartbeats 4000000 in
theorem law_JourPlays {more : Int} {l : List Act2} (_ : (Lit.int .i64 more).wf = true) (_ : (∀ x ∈ l, (Lit.int .i64 x.kind).wf = true ∧ ((∀ a ∈ x.w, ((Lit.int .i64 a.pos).wf = true ∧ ((∀ c ∈ a.data, True) ∧ a.data.length * 1 ≤ lim) ∧ True)) ∧ x.w.length * 32 ≤ lim) ∧ ((Lit.int .i64 x.crash.pos).wf = true ∧ ((∀ a ∈ x.crash.keep, True) ∧ x.crash.keep.length * 1 ≤ lim) ∧ True) ∧ True) ∧ l.length * 64 ≤ lim) :
    VQ cf 18 [.int .i64 more, .sl (rowD act2D l)] fun v => v = .d (.bool true) := by
  refine V_intro rfl (S_intro Try.func18 rfl rfl (Nat.le_of_ble_eq_true rfl) ?_)
  simp
  refine f_intro (fun k1 => ?_) (fun k1 => ?_)
  · simp [k1]
  simp [k1]
  refine f_intro (fun k2 => ?_) (fun k2 => ?_)
  · simp [k1, k2]
  simp [k1, k2]
  intro _
  refine f_intro (fun k3 => ?_) (fun k3 => ?_)
  · simp [k3]
  have w0 : IntKind.i64.wrap (160 + more) = 160 + more := wrap_i64 (by omega) (by omega)
  simp [k3, w0]
  refine dev_New (fun n1 n2 S1 a ha hI hK => ?_) (fun hn => absurd ⟨by omega, by omega⟩ hn)
  simp [w0]
  refine ref_New (fun n1 n2 S2 c hc hR hK2 => ?_) (fun h => absurd ⟨n1, n2⟩ h)
  have hI2 := hI.kept hK2
  have hne : a ≠ c := by have := hI.1; omega
  have hne' : c ≠ a := fun e => hne e.symm
  have o0 : Ok (Dk.new (160 + more).toNat) 60000 := new_ok (by omega) (by decide)
  generalize Dk.new (160 + more).toNat = d0 at hI2 hR o0
  simp
  refine X_loop (fun (k : Nat) e S => k ≤ l.length ∧ e 1 = .d (.sl (rowD act2D l)) ∧ e 6 = .ptr a 0 ∧ e 7 = .ptr c 0 ∧ e 8 = .d (.int .i64 k) ∧
    ∃ d, IsD S a d ∧ IsR S c d ∧ Ok d (60000 - 3200 * k)) (fun k => l.length - k) 0 ?_ ?_
  · simp
    exact ⟨d0, hI2, hR, o0⟩
  · intro k e S hJ
    obtain ⟨g1, g2, g3, g4, g5, d, hID, hRD, hok⟩ := hJ
    simp [g2, g5]
    intro _
    refine f_intro (fun j1 => ?_) (fun j1 => ?_)
    · have hk16 : k < 16 := by omega
      simp [g2, g5, j1]
      generalize nth l k = x
      intro hwl
      have hida := hID.1
      have hidc := hRD.1
      have q1' : ¬ a = S.next := by omega
      have q2' : ¬ c = S.next := by omega
      have q3 : ¬ S.next = a := by omega
      have q4 : ¬ S.next = c := by omega
      have e1 : Ok d (60000 - 3200 * (k + 1)) := hok.less (by omega)
      have hIa : IsD (S.alloc (.cells [.d (.int .i64 x.kind), .d (.sl (rowD wrD x.w)), .d (.int .i64 x.crash.pos), .d (.sl (boD x.crash.keep))])) a d := hID.of (by simp [q1']) (by simp; omega)
      have hRa : IsR (S.alloc (.cells [.d (.int .i64 x.kind), .d (.sl (rowD wrD x.w)), .d (.int .i64 x.crash.pos), .d (.sl (boD x.crash.keep))])) c d := hRD.of (by simp [q2']) (by simp; omega)
      have oa : (S.alloc (.cells [.d (.int .i64 x.kind), .d (.sl (rowD wrD x.w)), .d (.int .i64 x.crash.pos), .d (.sl (boD x.crash.keep))])).obj S.next = .cells [.d (.int .i64 x.kind), .d (.sl (rowD wrD x.w)), .d (.int .i64 x.crash.pos), .d (.sl (boD x.crash.keep))] := by simp
      have na : S.next < (S.alloc (.cells [.d (.int .i64 x.kind), .d (.sl (rowD wrD x.w)), .d (.int .i64 x.crash.pos), .d (.sl (boD x.crash.keep))])).next := by simp
      refine f_intro (fun j2 => ?_) (fun j2 => ?_)
      · simp [j2]
      simp [j2, boD]
      intro hkl
      refine f_intro (fun j3 => ?_) (fun j3 => ?_)
      · simp [j3]
      simp [j3, -X_block]
      unfold boD at hIa hRa oa na
      generalize S.alloc (.cells [.d (.int .i64 x.kind), .d (.sl (rowD wrD x.w)), .d (.int .i64 x.crash.pos), .d (.sl (rowD bo x.crash.keep))]) = Sa at hIa hRa oa na
      have b3 : Ok d ((60000 - 3200 * (k + 1)) + 3000) := hok.less (by omega)
      have b4 : Ok d ((60000 - 3200 * (k + 1)) + 320) := hok.less (by omega)
      have b5 : Ok d ((60000 - 3200 * (k + 1)) + 200) := hok.less (by omega)
      have b6 : Ok d ((60000 - 3200 * (k + 1)) + 1) := hok.less (by omega)
      refine PX_mono (Q := fun y e' S' => y = .normal ∧ e' 1 = .d (.sl (rowD act2D l)) ∧ e' 6 = .ptr a 0 ∧ e' 7 = .ptr c 0 ∧ e' 8 = .d (.int .i64 k) ∧ e' 10 = .d (.bool true) ∧ ∃ d', IsD S' a d' ∧ IsR S' c d' ∧ Ok d' (60000 - 3200 * (k + 1))) ?_ ?_
      · simp [oa]
        refine f_intro (fun m1 => ?_) (fun m1 => ?_)
        · simp [m1, oa, g3, g4]
          refine X_drawM [0, 0, 2, 7, 0, 0, 32, 127, 255, 511] (by decide +kernel) (by decide +kernel) ?_
          have la := hIa.1
          have lc := hRa.1
          simp [oa, g3, g4]
          refine sh_Commit (hIa.of rfl (by simp; omega)) b4 (by omega) fun S5 hI5 ho5 hn5 hc5 he5 => ?_
          have o5 := ho5 S.next q3
          simp at o5 hn5 hc5
          rw [oa] at o5
          simp [hn5, hc5, g3, g4, o5]
          have hR5 : IsR S5 c d := hRa.of (ho5 c hne') (by omega)
          refine shR_Commit (hR5.of rfl (by simp; omega)) b4 (by omega) fun S6 hR6 ho6 hn6 hc6 he6 => ?_
          simp at hn6 hc6
          have hI6 : IsD S6 a (d.commit x.w).2 := hI5.of (ho6 a hne) (by omega)
          simp [hn6, hc6, hn5, hc5, g2, g3, g4, g5]
          exact ⟨by simp [hne, hne', q1', q2', q3, q4], _, hI6.of rfl (by show a < Sa.next + 1000; omega), hR6.of rfl (by show c < Sa.next + 1000; omega), b4.commit⟩
        simp [m1, oa]
        refine f_intro (fun m2 => ?_) (fun m2 => ?_)
        · simp [m2, oa, g3, g4]
          have hkc : x.crash.keep.length ≤ 1000000 := by omega
          refine dev_Arm (d := d) (c := x.crash) hIa hkc (.inr (.inr (by unfold boD; rfl))) fun S5 hI5 hM5 => ?_
          have o5 := hM5.1 S.next na q3
          rw [oa] at o5
          simp [g3, g4, o5]
          refine ref_Arm (d := d) (c := x.crash) (hRa.mod hM5 hne') hkc (.inr (by unfold boD; rfl)) fun S6 hR6 hM6 => ?_
          simp [g2, g3, g4, g5]
          exact ⟨_, hI5.mod hM6 hne, hR6, e1.wf.arm, hkc⟩
        simp [m2, oa]
        refine f_intro (fun m3 => ?_) (fun m3 => ?_)
        · simp [m3, oa, g3, g4]
          refine dev_Restart (d := d) hIa fun S5 hI5 hM5 => ?_
          simp [g3, g4]
          refine ref_Restart (d := d) (hRa.mod hM5 hne') fun S6 hR6 hM6 => ?_
          simp [g2, g3, g4, g5]
          exact ⟨_, hI5.mod hM6 hne, hR6, e1.wf.restart (by omega), e1.keep⟩
        simp [m3, oa]
        refine f_intro (fun m4 => ?_) (fun m4 => ?_)
        · simp [m4, oa, g3, g4]
          refine jour_Open hIa b5 fun S5 hI5 hM5 => ?_
          simp [g3, g4]
          refine ref2_Open (hRa.mod hM5 hne') b5 fun S6 hR6 hM6 => ?_
          simp [g2, g3, g4, g5]
          exact ⟨_, hI5.mod hM6 hne, hR6, b5.openD⟩
        simp [m4, oa]
        refine f_intro (fun m5 => ?_) (fun m5 => ?_)
        · simp [m5, oa, g3, g4]
          refine jour_Format hIa b3 fun S5 hI5 hM5 => ?_
          simp [g3, g4]
          refine ref2_Format (hRa.mod hM5 hne') b3 fun S6 hR6 hM6 => ?_
          simp [g2, g3, g4, g5]
          exact ⟨_, hI5.mod hM6 hne, hR6, b3.format⟩
        simp [m5, oa]
        refine f_intro (fun m6 => ?_) (fun m6 => ?_)
        · simp [m6, oa]
          intro _
          refine f_intro (fun m7 => ?_) (fun m7 => ?_)
          · have la := hIa.1
            have lc := hRa.1
            simp [m6, m7, oa, g3, g4]
            refine X_drawM [0, 0, 2, 6, 14, 30, 0, 64, 192, 448, 960, 1984, 4095, 0, 0, 16384, 49152, 114688, 245760, 0, 524288, 1572864, 3670016, 7864320, 16261119, 33554431, 67108863, 134217727] (by decide +kernel) (by decide +kernel) ?_
            simp [oa, g3, g4, m7]
            refine law2_sector ?_
            simp [oa, g3, g4, m7]
            refine sh_Write (hIa.of rfl (by simp; omega)) b6.wf b6.keep fun S5 hI5 ho5 hn5 hc5 he5 => ?_
            have o5 := ho5 S.next q3
            simp at o5 hn5 hc5
            rw [oa] at o5
            simp [hn5, hc5, g3, g4, o5, m7]
            have hR5 : IsR S5 c d := hRa.of (ho5 c hne') (by omega)
            refine law2_sector ?_
            simp [hn5, hc5, g3, g4, o5, m7]
            refine shR_Write (hR5.of rfl (by simp; omega)) b6.wf fun S6 hR6 ho6 hn6 hc6 he6 => ?_
            simp at hn6 hc6
            have hI6 := hI5.of (S' := S6) (ho6 a hne) (by omega)
            simp [hn6, hc6, hn5, hc5, g2, g3, g4, g5]
            exact ⟨by simp [hne, hne', q1', q2', q3, q4], _, hI6.of rfl (by show a < Sa.next + 2800; omega), hR6.of rfl (by show c < Sa.next + 2800; omega), b6.write⟩
          · simp [m6, m7, g3, g4]
            refine dev_Flush hIa b6.wf b6.keep fun S5 hI5 hM5 => ?_
            simp [g3, g4]
            refine ref_Flush (hRa.mod hM5 hne') b6.wf fun S6 hR6 hM6 => ?_
            simp [g2, g3, g4, g5]
            exact ⟨_, hI5.mod hM6 hne, hR6, b6.flush⟩
        · simp [m6, g3, g4]
          refine dev_Flush hIa b6.wf b6.keep fun S5 hI5 hM5 => ?_
          simp [g3, g4]
          refine ref_Flush (hRa.mod hM5 hne') b6.wf fun S6 hR6 hM6 => ?_
          simp [g2, g3, g4, g5]
          exact ⟨_, hI5.mod hM6 hne, hR6, b6.flush⟩
      · rintro y e' S3 ⟨rfl, h1, h2, h3, h4, h5, d', hI3, hR3, hok3⟩
        simp [h2, h3, h5]
        refine law2_same hI3 hR3 hok3 hne fun S4 hI4 hR4 => ?_
        simp [h1, h2, h3, h4]
        exact ⟨k + 1, ⟨by omega, wrap_i64 (by omega) (by omega), d', hI4, hR4, hok3⟩, by omega⟩
    · simp
      refine law2_known ?_
      simp
end Go.VM
