/- Chapter 2: two disks are one. No condition. -/
import Derived.Test.YtmahmajoelmmeaaJt
namespace Go.VM
open Go.Proofs
set_option maxRecDepth 4000
attribute [-simp] Int.not_lt Int.not_le Nat.not_lt Nat.not_le
theorem slc_len2 {S : St} {id : Nat} {c0 : LV} {cs : List LV} {l : List (List UInt8)} {Q : LV → St → Prop} (h : SlC 1 c0 (rowD sb l)) (ho : S.obj id = .cells (c0 :: cs)) (hq : Q (.d (.int .i64 l.length)) S) : TQ (lenT Try.prog 55 (fetch id 0 c0)) S Q := by
  rcases h with ⟨rfl, h⟩ | ⟨v, rfl⟩
  · have q : l.length = 0 := by rw [← rowD_length (enc := sb), h]; rfl
    rw [q] at hq
    simpa using hq
  · simp [ho]
    exact fun _ => hq
set_option maxHeartbeats 1000000 in
theorem law2_same {S : St} {a c n : Nat} {d : Dk} {Q : LV → St → Prop} (hI : IsD S a d) (hR : IsR S c d) (ho : Ok d n) (hne : a ≠ c) (h : ∀ S', IsD S' a d → IsR S' c d → Q (.d (.bool true)) S') : SQ cf 64 [.ptr a 0, .ptr c 0] S Q := by
  refine S_intro Try.func64 rfl rfl (Nat.le_of_ble_eq_true rfl) ?_
  have hw := ho.wf
  have hm := hw.many
  simp
  refine X_loop (fun (k : Nat) e S' => k ≤ d.lasts.length ∧ e 0 = .ptr a 0 ∧ e 1 = .ptr c 0 ∧ e 5 = .d (.int .i64 k) ∧ IsD S' a d ∧ IsR S' c d) (fun k => d.lasts.length - k) 0 ?_ ?_
  · simp
    exact ⟨hI, hR⟩
  · intro k e S' hJ
    obtain ⟨g1, g2, g3, g4, g5, g6⟩ := hJ
    have hR0 := g6
    have hida := g5.1
    obtain ⟨hidc, c0, c1, c4, i1, i2, i3, i4⟩ := g6
    simp [g3, g4, i1]
    refine slc_len2 i2 i1 ?_
    simp
    refine f_intro (fun j1 => ?_) (fun j1 => ?_)
    · simp [j1]
      refine X_drawM [0, 1, 3, 7, 15, 31, 63, 127, 127, 511, 1023, 127, 127, 7167, 15359, 32767, 65535] (by decide +kernel) (by decide +kernel) ?_
      have read : ∀ (b : Bool), True := fun _ => trivial
      simp [g2, g3, g4]
      refine f_intro (fun m1 => ?_) (fun m1 => ?_)
      · simp [m1, g2, g3, g4]
        refine sh_Read (n := n) (g5.of rfl (by simp; omega)) hw fun S6 hI6 ho6 hn6 hc6 he6 => ?_
        simp at hn6 hc6
        simp [m1, hn6, hc6, g2, g3, g4]
        have hR6 : IsR S6 c d := hR0.of (ho6 c (Ne.symm hne)) (by omega)
        refine shR_Read (n := n) (hR6.of rfl (by simp; omega)) hw fun S7 hR7 ho7 hn7 hc7 he7 => ?_
        simp at hn7 hc7
        simp [m1, hn7, hc7, hn6, hc6, g2, g3, g4]
        have hd7 : IsD S7 a d := hI6.of (ho7 a hne) (by omega)
        exact ⟨.inr hne, k + 1, ⟨by omega, wrap_i64 (by omega) (by omega), hd7.of rfl (by show a < S'.next + 1700; omega), hR7.of rfl (by show c < S'.next + 1700; omega)⟩, by omega⟩
      · simp [m1, g2, g3, g4]
        refine f_intro (fun m2 => ?_) (fun m2 => ?_)
        · simp [m1, m2, g2, g3, g4]
          refine sh_Read (n := n) (g5.of rfl (by simp; omega)) hw fun S6 hI6 ho6 hn6 hc6 he6 => ?_
          simp at hn6 hc6
          simp [m1, m2, hn6, hc6, g2, g3, g4]
          have hR6 : IsR S6 c d := hR0.of (ho6 c (Ne.symm hne)) (by omega)
          refine shR_Read (n := n) (hR6.of rfl (by simp; omega)) hw fun S7 hR7 ho7 hn7 hc7 he7 => ?_
          simp at hn7 hc7
          simp [m1, m2, hn7, hc7, hn6, hc6, g2, g3, g4]
          have hd7 : IsD S7 a d := hI6.of (ho7 a hne) (by omega)
          exact ⟨.inr hne, k + 1, ⟨by omega, wrap_i64 (by omega) (by omega), hd7.of rfl (by show a < S'.next + 1700; omega), hR7.of rfl (by show c < S'.next + 1700; omega)⟩, by omega⟩
        · simp [m1, m2, g2, g3, g4]
          exact ⟨k + 1, ⟨by omega, wrap_i64 (by omega) (by omega), g5.of rfl (by show a < S'.next + 1700; omega), hR0.of rfl (by show c < S'.next + 1700; omega)⟩, by omega⟩
    · simp [j1]
      refine X_drawM [0, 1, 0, 4, 12, 28, 63, 127, 255, 511, 255, 1279, 3327, 7423, 16383, 32767, 65535, 131071, 262143, 131071, 1048575, 2097151, 4194303, 8388607] (by decide +kernel) (by decide +kernel) ?_
      simp [g2, g3, g4]
      refine sh_Down (g5.of rfl (by simp; omega)) fun S6 hI6 ho6 hn6 hc6 he6 => ?_
      have e6 : S6.obj c = .cells [c0, c1, .d (.int .i64 d.ops), .d (.int .i64 d.pos), c4, .d (.bool d.armed), .d (.bool d.down)] := by rw [ho6 c (Ne.symm hne)]; exact i1
      simp at hn6 hc6
      simp [hn6, hc6, g2, g3, g4, e6]
      refine sh_Ops (hI6.of rfl (by simp; omega)) fun S7 hI7 ho7 hn7 hc7 he7 => ?_
      have e7 : S7.obj c = .cells [c0, c1, .d (.int .i64 d.ops), .d (.int .i64 d.pos), c4, .d (.bool d.armed), .d (.bool d.down)] := by rw [ho7 c (Ne.symm hne)]; exact e6
      simp at hn7 hc7
      simp [hn7, hc7, hn6, hc6, g2, g3, g4, e7]
      refine sh_Many (hI7.of rfl (by simp; omega)) hm fun S8 hI8 ho8 hn8 hc8 he8 => ?_
      have e8 : S8.obj c = .cells [c0, c1, .d (.int .i64 d.ops), .d (.int .i64 d.pos), c4, .d (.bool d.armed), .d (.bool d.down)] := by rw [ho8 c (Ne.symm hne)]; exact e7
      simp at hn8 hc8
      have hR8 : IsR S8 c d := hR0.of (by rw [e8, i1]) (by omega)
      simp [hn8, hc8, hn7, hc7, hn6, hc6, g2, g3, g4, e8]
      refine shR_Many (hR8.of rfl (by simp; omega)) hm fun S9 hR9 ho9 hn9 hc9 he9 => ?_
      simp at hn9 hc9
      have hI9 : IsD S9 a d := hI8.of (ho9 a hne) (by omega)
      simp [hn9, hc9, hn8, hc8, hn7, hc7, hn6, hc6, g2, g3, g4]
      have hne' : ¬ c = a := fun e => hne e.symm
      exact ⟨by simp [hne, hne']; decide +kernel, h _ (hI9.of rfl (by show a < S'.next + 2400; omega)) (hR9.of rfl (by show c < S'.next + 2400; omega))⟩
end Go.VM
