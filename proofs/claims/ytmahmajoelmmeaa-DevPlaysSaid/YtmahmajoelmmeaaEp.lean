/- Law DevPlays. No condition. -/
import Derived.Test.YtmahmajoelmmeaaEr
import Derived.Test.YtmahmajoelmmeaaDf
namespace Go.VM
open Go.Proofs
set_option maxRecDepth 4000
attribute [-simp] Int.not_lt Int.not_le Nat.not_lt Nat.not_le
/-- what is done to a disk -/
structure Act1 where
  kind : Int
  pos : Int
  b : List UInt8
  crash : Cr
  deriving Inhabited, DecidableEq
def act1D (x : Act1) : D := .agg [.int .i64 x.kind, .int .i64 x.pos, .sl (byD x.b), .int .i64 x.crash.pos, .sl (boD x.crash.keep)]
theorem act1D_cells (x : Act1) : (act1D x).cells = [.int .i64 x.kind, .int .i64 x.pos, .sl (byD x.b), .int .i64 x.crash.pos, .sl (boD x.crash.keep)] := rfl
theorem act1D_sized {l : List Act1} : sized 5 (rowD act1D l) ↔ True := iff_true_intro (rowD_sized fun _ => rfl)
attribute [simp] act1D_cells act1D_sized
theorem slc_len {S : St} {id : Nat} {c0 : LV} {cs : List LV} {l : List (List UInt8)} {Q : LV → St → Prop} (h : SlC 1 c0 (rowD sb l)) (ho : S.obj id = .cells (c0 :: cs)) (hq : Q (.d (.int .i64 l.length)) S) : TQ (lenT Try.prog 55 (fetch id 0 c0)) S Q := by
  rcases h with ⟨rfl, h⟩ | ⟨v, rfl⟩
  · have q : l.length = 0 := by rw [← rowD_length (enc := sb), h]; rfl
    rw [q] at hq
    simpa using hq
  · simp [ho]
    exact fun _ => hq
theorem law1_same {S : St} {a c n : Nat} {d : Dk} {Q : LV → St → Prop} (hI : IsD S a d) (hR : IsR S c d) (hw : WfD d n) (hne : a ≠ c) (h : ∀ S', IsD S' a d → IsR S' c d → Q (.d (.bool true)) S') : SQ cf 54 [.ptr a 0, .ptr c 0] S Q := by
  refine S_intro Try.func54 rfl rfl (Nat.le_of_ble_eq_true rfl) ?_
  have hm := hw.many
  simp
  refine X_loop (fun (k : Nat) e S' => k ≤ d.lasts.length + 2 ∧ e 0 = .ptr a 0 ∧ e 1 = .ptr c 0 ∧ e 5 = .d (.int .i64 ((k : Int) - 1)) ∧ IsD S' a d ∧ IsR S' c d) (fun k => d.lasts.length + 2 - k) 0 ?_ ?_
  · simp
    exact ⟨hI, hR⟩
  · intro k e S' hJ
    obtain ⟨g1, g2, g3, g4, g5, g6⟩ := hJ
    have hR0 := g6
    obtain ⟨hidc, c0, c1, c4, i1, i2, i3, i4⟩ := g6
    simp [g3, g4, i1]
    refine slc_len i2 i1 ?_
    simp
    refine f_intro (fun j1 => ?_) (fun j1 => ?_)
    · simp [j1]
      refine X_draw (by decide) ?_
      simp [g2, g3, g4]
      have hida := g5.1
      refine sh_Read (n := n) (g5.of rfl (by simp; omega)) hw fun S6 hI6 ho6 hn6 hc6 he6 => ?_
      simp [hn6, hc6, g2, g3, g4]
      have hR6 : IsR S6 c d := hR0.of (ho6 c (Ne.symm hne)) (by rw [hn6]; simp; omega)
      refine shR_Read (n := n) (hR6.of rfl (by simp [hn6]; omega)) hw fun S7 hR7 ho7 hn7 hc7 he7 => ?_
      simp [hn7, hc7, hn6, hc6, g2, g3, g4]
      have hd7 : IsD S7 a d := hI6.of (ho7 a hne) (by rw [hn7]; simp [hn6]; omega)
      refine ⟨.inr hne, k + 1, ⟨by omega, by rw [wrap_i64 (by omega) (by omega)]; omega, hd7.of rfl (by simp; omega), hR7.of rfl (by simp; omega)⟩, by omega⟩
    · simp [j1]
      refine X_drawM [0, 1, 0, 4, 12, 28, 63, 127, 255, 511, 255, 1279, 3327, 7423, 16383, 32767, 65535, 131071, 262143, 131071, 655359, 1703935, 3801087, 7995391, 16777215, 33554431, 67108863] (by decide +kernel) (by decide +kernel) ?_
      have hida := g5.1
      simp [g2, g3, g4]
      refine sh_Down (g5.of rfl (by simp; omega)) fun S6 hI6 ho6 hn6 hc6 he6 => ?_
      have e6 : S6.obj c = .cells [c0, c1, .d (.int .i64 d.ops), .d (.int .i64 d.pos), c4, .d (.bool d.armed), .d (.bool d.down)] := by rw [ho6 c (Ne.symm hne)]; exact i1
      simp [hn6, hc6, g2, g3, g4, e6]
      refine sh_Ops (hI6.of rfl (by simp [hn6]; omega)) fun S7 hI7 ho7 hn7 hc7 he7 => ?_
      have e7 : S7.obj c = .cells [c0, c1, .d (.int .i64 d.ops), .d (.int .i64 d.pos), c4, .d (.bool d.armed), .d (.bool d.down)] := by rw [ho7 c (Ne.symm hne)]; exact e6
      simp [hn7, hc7, hn6, hc6, g2, g3, g4, e7]
      refine sh_Size (hI7.of rfl (by simp [hn7, hn6]; omega)) hm fun S8 hI8 ho8 hn8 hc8 he8 => ?_
      have e8 : S8.obj c = .cells [c0, c1, .d (.int .i64 d.ops), .d (.int .i64 d.pos), c4, .d (.bool d.armed), .d (.bool d.down)] := by rw [ho8 c (Ne.symm hne)]; exact e7
      have fin : ∀ S9 : St, S9.obj = S8.obj → a < S9.next → c < S9.next → Q (.d (.bool true)) S9 := fun S9 q1 q2 q3 => h S9 (hI8.of (by rw [q1]) q2) (hR0.of (by rw [q1, e8, i1]) q3)
      rcases i2 with ⟨rfl, i2⟩ | ⟨v, rfl⟩
      · have hz : d.lasts.length = 0 := by rw [← rowD_length (enc := sb), i2]; rfl
        simp [hn8, hc8, hn7, hc7, hn6, hc6, g2, g3, g4, e8, hz, hne, Ne.symm hne]
        exact ⟨by decide +kernel, fin _ rfl (by simp; omega) (by simp; omega)⟩
      · simp [hn8, hc8, hn7, hc7, hn6, hc6, g2, g3, g4, e8, hne, Ne.symm hne]
        exact fun _ => ⟨by decide +kernel, fin _ rfl (by simp; omega) (by simp; omega)⟩
set_option maxHeartbeats 2000000 in
theorem law_DevPlays {n : Int} {l : List Act1} (_ : (Lit.int .i64 n).wf = true) (_ : (∀ x ∈ l, (Lit.int .i64 x.kind).wf = true ∧ (Lit.int .i64 x.pos).wf = true ∧ ((∀ a ∈ x.b, True) ∧ x.b.length * 1 ≤ lim) ∧ ((Lit.int .i64 x.crash.pos).wf = true ∧ ((∀ a ∈ x.crash.keep, True) ∧ x.crash.keep.length * 1 ≤ lim) ∧ True) ∧ True) ∧ l.length * 72 ≤ lim) :
    VQ cf 11 [.int .i64 n, .sl (rowD act1D l)] fun v => v = .d (.bool true) := by
  refine V_intro rfl (S_intro Try.func11 rfl rfl (Nat.le_of_ble_eq_true rfl) ?_)
  simp
  refine f_intro (fun k1 => ?_) (fun k1 => ?_)
  · simp [k1]
  · simp [k1]
    intro hl
    refine f_intro (fun k2 => ?_) (fun k2 => ?_)
    · simp [k2]
    · simp [k2]
      refine dev_New (fun n1 n2 S1 a ha hI hK => ?_) (fun hn => ?_)
      · simp
        refine ref_New (fun n1 n2 S2 c hc hR hK2 => ?_) (fun h => absurd ⟨n1, n2⟩ h)
        have hI2 : IsD S2 a (Dk.new n.toNat) := hI.kept hK2
        have hne : a ≠ c := by have := hI.1; omega
        simp
        refine X_loop (fun (k : Nat) e S => k ≤ l.length ∧ e 1 = .d (.sl (rowD act1D l)) ∧ e 5 = .ptr a 0 ∧ e 6 = .ptr c 0 ∧ e 7 = .d (.int .i64 k) ∧
          ∃ d, IsD S a d ∧ IsR S c d ∧ WfD d (1000 - k) ∧ d.keep.length ≤ 1000000) (fun k => l.length - k) 0 ?_ ?_
        · simp
          exact ⟨Dk.new n.toNat, hI2, hR, new_wf (by omega) (by omega), Nat.zero_le _⟩
        · intro k e S hJ
          obtain ⟨g1, g2, g3, g4, g5, d, hID, hRD, hwf, hkp⟩ := hJ
          simp [g2, g5, hl]
          refine f_intro (fun j1 => ?_) (fun j1 => ?_)
          · simp [g2, g5, j1]
            generalize nth l k = x
            intro hbl
            have hida := hID.1
            have hidc := hRD.1
            have q1 : ∀ m, ¬ a = S.next + m := fun m => by omega
            have q2 : ∀ m, ¬ c = S.next + m := fun m => by omega
            have q1' : ¬ a = S.next := by omega
            have q2' : ¬ c = S.next := by omega
            have q3 : ¬ S.next = a := by omega
            have q4 : ¬ S.next = c := by omega
            have tail : ∀ (d' : Dk) (S9 : St), IsD S9 a d' → IsR S9 c d' → WfD d' (1000 - (k + 1)) → d'.keep.length ≤ 1000000 →
                (k + 1 ≤ l.length ∧ IntKind.i64.wrap ((k : Int) + 1) = ((k + 1 : Nat) : Int) ∧ ∃ d, IsD S9 a d ∧ IsR S9 c d ∧ WfD d (1000 - (k + 1)) ∧ d.keep.length ≤ 1000000) ∧ l.length - (k + 1) < l.length - k := fun d' S9 r1 r2 r3 r4 => ⟨⟨by omega, wrap_i64 (by omega) (by omega), d', r1, r2, r3, r4⟩, by omega⟩
            have e0 : WfD d ((1000 - (k + 1)) + 1) := hwf.less (by omega)
            have e1 : WfD d (1000 - (k + 1)) := hwf.less (by omega)
            have hIa : IsD (S.alloc (.cells [.d (.int .i64 x.kind), .d (.int .i64 x.pos), .d (.sl (byD x.b)), .d (.int .i64 x.crash.pos), .d (.sl (boD x.crash.keep))])) a d := hID.of (by simp [q1']) (by simp; omega)
            have hRa : IsR (S.alloc (.cells [.d (.int .i64 x.kind), .d (.int .i64 x.pos), .d (.sl (byD x.b)), .d (.int .i64 x.crash.pos), .d (.sl (boD x.crash.keep))])) c d := hRD.of (by simp [q2']) (by simp; omega)
            refine f_intro (fun j2 => ?_) (fun j2 => ?_)
            · simp [j2]
            · simp [boD, j2]
              intro hkl
              refine f_intro (fun j3 => ?_) (fun j3 => ?_)
              · simp [j3]
              · simp [j3]
                refine f_intro (fun m1 => ?_) (fun m1 => ?_)
                · rw [m1] at hIa hRa
                  simp [m1, g3, g4]
                  refine X_drawM [0, 0, 2, 0, 8, 31, 0, 0, 128, 0, 512, 2047, 4095, 8191] (by decide +kernel) (by decide +kernel) ?_
                  simp [g3, g4]
                  refine sh_Write (d := d) (n := 1000 - (k + 1)) (hIa.of rfl (by simp; omega)) e0 hkp fun S5 hI5 ho5 hn5 hc5 he5 => ?_
                  have o5 := ho5 S.next q3
                  simp at o5
                  simp [hn5, hc5, g3, g4, o5]
                  have hR5 : IsR S5 c d := hRa.of (ho5 c (Ne.symm hne)) (by rw [hn5]; simp; omega)
                  refine shR_Write (d := d) (n := 1000 - (k + 1)) (hR5.of rfl (by simp [hn5]; omega)) e0 fun S6 hR6 ho6 hn6 hc6 he6 => ?_
                  have hI6 : IsD S6 a (d.write x.pos x.b).2 := hI5.of (ho6 a hne) (by rw [hn6]; simp [hn5]; omega)
                  simp [hn6, hc6, hn5, hc5, g3, g4, hne, Ne.symm hne, q1, q2, q1', q2', q3, q4]
                  refine law1_same (d := (d.write x.pos x.b).2) (n := 1000 - (k + 1)) (hI6.of rfl (by simp; omega)) (hR6.of rfl (by simp; omega)) (WfD.write e0) hne fun S9 r1 r2 => ?_
                  simp [g2, g3, g4, g5]
                  exact ⟨k + 1, tail _ _ r1 r2 (WfD.write e0) (by rw [write_keep]; exact hkp)⟩
                · simp [m1]
                  refine f_intro (fun m2 => ?_) (fun m2 => ?_)
                  · rw [m2] at hIa hRa
                    simp [m2, g3, g4]
                    refine dev_Flush (d := d) (n := 1000 - (k + 1)) hIa e0 hkp fun S5 hI5 hM5 => ?_
                    simp [g3, g4]
                    refine ref_Flush (d := d) (n := 1000 - (k + 1)) (hRa.mod hM5 (Ne.symm hne)) e0 fun S6 hR6 hM6 => ?_
                    simp [g3, g4]
                    refine law1_same (d := d.flush.2) (n := 1000 - (k + 1)) (hI5.mod hM6 hne) hR6 (WfD.flush e0) hne fun S9 r1 r2 => ?_
                    simp [g2, g3, g4, g5]
                    exact ⟨k + 1, tail _ _ r1 r2 (WfD.flush e0) (by rw [flush_keep]; exact hkp)⟩
                  · simp [m2]
                    refine f_intro (fun m3 => ?_) (fun m3 => ?_)
                    · rw [m3] at hIa hRa
                      simp [m3, g3, g4]
                      have hkc : x.crash.keep.length ≤ 1000000 := by omega
                      refine dev_Arm (d := d) (c := x.crash) hIa hkc (.inr (.inr rfl)) fun S5 hI5 hM5 => ?_
                      have o5 := hM5.1 S.next (by simp) q3
                      simp at o5
                      simp [g3, g4, o5]
                      refine ref_Arm (d := d) (c := x.crash) (hRa.mod hM5 (Ne.symm hne)) hkc (.inr rfl) fun S6 hR6 hM6 => ?_
                      simp [g3, g4]
                      refine law1_same (d := d.arm x.crash) (n := 1000 - (k + 1)) (hI5.mod hM6 hne) hR6 e1.arm hne fun S9 r1 r2 => ?_
                      simp [g2, g3, g4, g5]
                      exact ⟨k + 1, tail _ _ r1 r2 e1.arm hkc⟩
                    · simp [m3]
                      refine f_intro (fun m4 => ?_) (fun m4 => ?_)
                      · rw [m4] at hIa hRa
                        simp [m4, g3, g4]
                        refine dev_Restart (d := d) hIa fun S5 hI5 hM5 => ?_
                        simp [g3, g4]
                        refine ref_Restart (d := d) (hRa.mod hM5 (Ne.symm hne)) fun S6 hR6 hM6 => ?_
                        simp [g3, g4]
                        refine law1_same (d := d.restart) (n := 1000 - (k + 1)) (hI5.mod hM6 hne) hR6 (e1.restart (by omega)) hne fun S9 r1 r2 => ?_
                        simp [g2, g3, g4, g5]
                        exact ⟨k + 1, tail _ _ r1 r2 (e1.restart (by omega)) hkp⟩
                      · simp [m4]
                        refine f_intro (fun m5 => ?_) (fun m5 => ?_)
                        · rw [m5] at hIa hRa
                          simp [m5, g3, g4]
                          refine X_drawM [0, 0, 2, 0, 8, 24, 63, 0, 0, 256, 0, 1024, 3199, 8191, 16383, 32767] (by decide +kernel) (by decide +kernel) ?_
                          simp [g3, g4]
                          refine law1_sector ?_
                          simp
                          refine sh_Write (d := d) (n := 1000 - (k + 1)) (hIa.of rfl (by simp; omega)) e0 hkp fun S5 hI5 ho5 hn5 hc5 he5 => ?_
                          have o5 := ho5 S.next q3
                          simp at o5
                          simp [hn5, hc5, g3, g4, o5]
                          have hR5 : IsR S5 c d := hRa.of (ho5 c (Ne.symm hne)) (by rw [hn5]; simp; omega)
                          refine law1_sector ?_
                          simp
                          refine shR_Write (d := d) (n := 1000 - (k + 1)) (hR5.of rfl (by simp [hn5]; omega)) e0 fun S6 hR6 ho6 hn6 hc6 he6 => ?_
                          have hI6 : IsD S6 a (d.write x.pos (sect x.b)).2 := hI5.of (ho6 a hne) (by rw [hn6]; simp [hn5]; omega)
                          simp [hn6, hc6, hn5, hc5, g3, g4, hne, Ne.symm hne, q1, q2, q1', q2', q3, q4]
                          refine law1_same (d := (d.write x.pos (sect x.b)).2) (n := 1000 - (k + 1)) (hI6.of rfl (by simp; omega)) (hR6.of rfl (by simp; omega)) (WfD.write e0) hne fun S9 r1 r2 => ?_
                          simp [g2, g3, g4, g5]
                          exact ⟨k + 1, tail _ _ r1 r2 (WfD.write e0) (by rw [write_keep]; exact hkp)⟩
                        · simp [m5, g3, g4]
                          refine law1_same (d := d) (n := 1000 - (k + 1)) hIa hRa e1 hne fun S9 r1 r2 => ?_
                          simp [g2, g3, g4, g5]
                          exact ⟨k + 1, tail _ _ r1 r2 e1 hkp⟩
          · simp
            refine law1_known ?_
            simp
      · simp
        refine ref_New (fun n1 n2 _ _ _ _ _ => absurd ⟨n1, n2⟩ hn) (fun _ => ?_)
        simp
        refine law1_known ?_
        simp
end Go.VM
