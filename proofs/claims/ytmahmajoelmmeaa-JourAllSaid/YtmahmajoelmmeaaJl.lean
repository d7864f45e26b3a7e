/- Law JourAll. No condition. -/
import Derived.Test.YtmahmajoelmmeaaJg
namespace Go.VM
open Go.Proofs
set_option maxRecDepth 4000
attribute [-simp] Int.not_lt Int.not_le Nat.not_lt Nat.not_le
theorem Rest.restart {c : Nat → List UInt8} {d : Dk} (h : Rest c d) : Rest c d.restart := ⟨⟨rfl, h.1.big, h.1.sign⟩, h.2.1, h.2.2⟩
theorem Rest.arm {c : Nat → List UInt8} {d : Dk} {a : Cr} (h : Rest c d) : Rest c (d.arm a) := ⟨⟨h.1.wait, h.1.big, h.1.sign⟩, h.2.1, h.2.2⟩
theorem Mid.restart {l : List Wr} {c : Nat → List UInt8} {d : Dk} (h : Mid l c d) : Mid l c d.restart := ⟨⟨rfl, h.1.big, h.1.sign⟩, h.2.1, h.2.2.1, h.2.2.2⟩
theorem Mid.arm {l : List Wr} {c : Nat → List UInt8} {d : Dk} {a : Cr} (h : Mid l c d) : Mid l c (d.arm a) := ⟨⟨h.1.wait, h.1.big, h.1.sign⟩, h.2.1, h.2.2.1, h.2.2.2⟩
def newC (l : List Wr) (c : Nat → List UInt8) (i : Nat) : List UInt8 := over l i (c i)
/-- how a disk may be left -/
def Som (l : List Wr) (c : Nat → List UInt8) (d : Dk) : Prop := Rest c d ∨ (Valid l d.lasts.length ∧ l ≠ [] ∧ Mid l c d) ∨ Rest (newC l c) d
theorem Som.restart {l : List Wr} {c : Nat → List UInt8} {d : Dk} (h : Som l c d) : Som l c d.restart := by
  rcases h with h | ⟨h1, h2, h⟩ | h
  · exact .inl h.restart
  · exact .inr (.inl ⟨h1, h2, h.restart⟩)
  · exact .inr (.inr h.restart)
theorem Som.arm {l : List Wr} {c : Nat → List UInt8} {d : Dk} {a : Cr} (h : Som l c d) : Som l c (d.arm a) := by
  rcases h with h | ⟨h1, h2, h⟩ | h
  · exact .inl h.arm
  · exact .inr (.inl ⟨h1, h2, h.arm⟩)
  · exact .inr (.inr h.arm)
theorem som_open {l : List Wr} {c : Nat → List UInt8} {d : Dk} (h : Som l c d) (hd : d.down = false) : d.openD.2.lasts.length = d.lasts.length ∧ Som l c d.openD.2 ∧ (Rest c d → Rest c d.openD.2) ∧ (Rest (newC l c) d → Rest (newC l c) d.openD.2) := by
  rcases h with h | ⟨h1, h2, h⟩ | h
  · rw [rest_open h hd]; exact ⟨rfl, .inl h, fun x => x, fun x => x⟩
  · rw [mid_open h1 h2 h hd]
    obtain ⟨a1, a2⟩ := mid_lands h1 h hd
    refine ⟨a1, ?_, fun hr => ?_, fun hr => ?_⟩
    · rcases a2 with ⟨_, _, a⟩ | ⟨_, a | a⟩
      · exact .inr (.inr a)
      · exact .inr (.inl ⟨by rw [a1]; exact h1, h2, a⟩)
      · exact .inr (.inr a)
    · have := rest_open hr hd
      rw [mid_open h1 h2 h hd] at this
      rw [this]; exact hr
    · have := rest_open hr hd
      rw [mid_open h1 h2 h hd] at this
      rw [this]; exact hr
  · rw [rest_open h hd]; exact ⟨rfl, .inr (.inr h), fun x => x, fun x => x⟩
theorem calm_lands {d : Dk} {l : List Wr} (h : Calm d) (hb : 157 < d.lasts.length) (hf : ∀ w ∈ l, Fits d w) : (d.lands l).1 = 0 := by
  rw [Dk.lands, calm_writes h hf]
  simp only [if_true]
  rw [calm_writes (last_calm h) (fits_mark (by rw [last_len]; exact hb) (sect_length _))]
theorem calm_open {l : List Wr} {c : Nat → List UInt8} {d : Dk} (h : Som l c d) (hd : Calm d) : d.openD.1 = 0 ∧ (Rest c d.openD.2 ∨ Rest (newC l c) d.openD.2) := by
  rcases h with h | ⟨h1, h2, h⟩ | h
  · rw [rest_open h hd.down]; exact ⟨rfl, .inl h⟩
  · rw [mid_open h1 h2 h hd.down]
    have hz := calm_lands hd h.1.big.1 (fun w hw => (fits_landing h1 w hw).1)
    obtain ⟨a1, a2⟩ := mid_lands h1 h hd.down
    refine ⟨hz, .inr ?_⟩
    rcases a2 with ⟨_, _, a⟩ | ⟨a, _⟩
    · exact a
    · rw [hz] at a; cases a
  · rw [rest_open h hd.down]; exact ⟨rfl, .inr h⟩
theorem wrong_len {d d' : Dk} {l : List Wr} (h : d'.lasts.length = d.lasts.length) : d'.wrong l = d.wrong l := by
  have hm := Dk.many_eq h
  have hb : bad d' l = bad d l := by funext k; unfold bad; rw [hm]
  unfold Dk.wrong
  rw [hb]
theorem rest_jread {c : Nat → List UInt8} {d : Dk} (h : Rest c d) {i : Nat} (hi : 157 + i < d.lasts.length) : d.jread i = c i := by
  have hm := many_of h.1.big.1
  rw [Dk.jread, if_neg (by omega), show (157 + (i : Int)) = ((157 + i : Nat) : Int) by omega, read_V h.1.wait hi]
  exact h.2.2 i hi
def crashed (d : Dk) (cr ag : Cr) (w : List Wr) : Int × Dk := (((d.restart.arm cr).commit w).1, (((((d.restart.arm cr).commit w).2.restart.arm ag).openD).2.restart))
/-- a commit that crashes anywhere, an opening that crashes anywhere -/
theorem all_abs {c : Nat → List UInt8} {d : Dk} {cr ag : Cr} {w : List Wr} {N : Nat} (hN : d.lasts.length = N) (hr : Rest c d) (hg : Good d fun i => c i.toNat) :
    ((crashed d cr ag w).1 = 6 ∨ (crashed d cr ag w).1 = (d.commit w).1) ∧ (crashed d cr ag w).2.openD.1 = 0 ∧ (crashed d cr ag w).2.openD.2.lasts.length = N ∧ (d.commit w).2.lasts.length = N ∧
    ((∀ i, 157 + i < N → (crashed d cr ag w).2.openD.2.jread i = (d.commit w).2.jread i) ∨ ((∀ i, 157 + i < N → (crashed d cr ag w).2.openD.2.jread i = c i) ∧ (crashed d cr ag w).1 ≠ 0)) := by
  subst hN
  have h3 : Rest c (d.restart.arm cr) := hr.restart.arm
  have hl3 : (d.restart.arm cr).lasts.length = d.lasts.length := rfl
  have hw3 := wrong_len (l := w) hl3
  obtain ⟨e, d4, hc⟩ : ∃ e d4, (d.restart.arm cr).commit w = (e, d4) := ⟨_, _, rfl⟩
  have hcr : crashed d cr ag w = (e, ((d4.restart.arm ag).openD).2.restart) := by unfold crashed; rw [hc]
  rw [hcr]
  by_cases hx : d.wrong w ≠ 0 ∨ w = []
  · -- nothing is done
    have hc2 : d.commit w = (d.wrong w, d) := by rw [Dk.commit, if_pos hx]
    have hc3 : (d.restart.arm cr).commit w = (d.wrong w, d.restart.arm cr) := by rw [Dk.commit, hw3, if_pos hx]
    rw [hc3] at hc
    cases hc
    have h5 : Rest c ((d.restart.arm cr).restart.arm ag) := h3.restart.arm
    rw [rest_open h5 rfl]
    simp only
    have h6 := h5.restart
    rw [rest_open h6 rfl, hc2]
    exact ⟨.inr rfl, rfl, rfl, rfl, .inl fun i hi => by rw [rest_jread h6 hi, rest_jread hr hi]⟩
  · have hw : d.wrong w = 0 := by
      by_cases e : d.wrong w = 0
      · exact e
      · exact absurd (.inl e) hx
    have hne : w ≠ [] := fun e => hx (.inr e)
    obtain ⟨c1, c2, c3⟩ := good_commit hg hw hne
    obtain ⟨r1, r2⟩ := rest_commit h3 rfl (by rw [hw3]; exact hw) hne
    rw [hc] at r1 r2
    simp only at r1 r2
    have hl4 : d4.lasts.length = d.lasts.length := r1
    have hval : Valid w d4.lasts.length := by rw [hl4]; exact valid_of hw hr.1.big.1
    have hsom : Som w c d4 := by
      rcases r2 with ⟨_, _, r⟩ | ⟨_, r | r | r⟩
      · exact .inr (.inr r)
      · exact .inl r
      · exact .inr (.inl ⟨hval, hne, r⟩)
      · exact .inr (.inr r)
    obtain ⟨o1, o2, o3, o4⟩ := som_open (hsom.restart.arm (a := ag)) rfl
    generalize hd5 : (d4.restart.arm ag).openD.2 = d5 at o1 o2 o3 o4
    have hl5 : d5.lasts.length = d.lasts.length := o1.trans hl4
    have hcalm : Calm d5.restart := ⟨rfl, rfl⟩
    obtain ⟨p1, p2⟩ := calm_open o2.restart hcalm
    have hl6 : d5.restart.openD.2.lasts.length = d.lasts.length := (som_open o2.restart rfl).1.trans hl5
    have hnew : ∀ d' : Dk, Rest (newC w c) d' → d'.lasts.length = d.lasts.length → ∀ i : Nat, 157 + i < d.lasts.length → d'.jread i = (d.commit w).2.jread i := by
      intro d' h1 h2 i hi
      have hm : i < (d.commit w).2.many := by rw [many_of (by rw [c3]; exact hr.1.big.1), c3]; omega
      rw [rest_jread h1 (by omega), good_read c2 (by omega) hm]
      show over w i (c i) = over w i (c (i : Int).toNat)
      rw [Int.toNat_natCast]
    refine ⟨?_, p1, hl6, c3, ?_⟩
    · rcases r2 with ⟨r, _⟩ | ⟨r, _⟩
      · exact .inr (r.trans c1.symm)
      · exact .inl r
    · rcases r2 with ⟨r, _, rr⟩ | ⟨r, _⟩
      · -- it was well
        have h5 := o4 rr.restart.arm
        have h6 := h5.restart
        have : Rest (newC w c) d5.restart.openD.2 := by rw [rest_open h6 rfl]; exact h6
        exact .inl (hnew _ this hl6)
      · rcases p2 with h | h
        · exact .inr ⟨fun i hi => rest_jread h (by omega), by show e ≠ 0; rw [r]; decide⟩
        · exact .inl (hnew _ h hl6)
def wholeW (l : List Wr) : List Wr := l.map fun w => ⟨w.pos, sect w.data⟩
theorem whole_next {l : List Wr} {k : Nat} (h : k < l.length) : rowD wrD (wholeW (l.take k)) ++ [D.agg [.int .i64 (nth l k).pos, .sl (byD (sect (nth l k).data))]] = rowD wrD (wholeW (l.take (k + 1))) := by
  rw [takeN h]; simp [wholeW, rowD]; rfl
theorem wholeW_length {l : List Wr} : (wholeW l).length = l.length := by simp [wholeW]
theorem law2_whole {l : List Wr} {Q : LV → Prop} (hl : l.length ≤ 1000000) (h : Q (.d (.sl (rowD wrD (wholeW l))))) : VQ cf 65 [.sl (rowD wrD l)] Q := by
  refine V_intro rfl (S_intro Try.func65 rfl rfl (Nat.le_of_ble_eq_true rfl) ?_)
  simp
  refine X_loop (fun (k : Nat) e S' => k ≤ l.length ∧ e 0 = .d (.sl (rowD wrD l)) ∧ e 4 = .d (.int .i64 k) ∧ Kept .empty S' ∧ NewSl .empty S' (e 3) 2 (rowD wrD (wholeW (l.take k)))) (fun k => l.length - k) 0 ?_ ?_
  · simp
    exact ⟨Kept.refl _, .inl ⟨rfl, rfl⟩⟩
  · intro k e S' hJ
    obtain ⟨g1, g2, g3, hK, g4⟩ := hJ
    simp [g2, g3]
    intro _
    refine f_intro (fun j1 => ?_) (fun j1 => ?_)
    · simp [g2, g3, j1]
      refine X_drawM [0, 0, 0, 6, 14, 30, 0, 0, 192, 448, 960, 1984, 4094, 8190, 16383, 32767] (by decide +kernel) (by decide +kernel) ?_
      simp [g2, g3, j1]
      refine law2_sector ?_
      simp [g2, g3, j1]
      obtain ⟨zs, hzs⟩ : ∃ zs, zs = rowD wrD (wholeW (l.take (k + 1))) := ⟨_, rfl⟩
      have hst := whole_next j1
      rw [← hzs] at hst
      have hfit : fits zs.length 32 := by rw [hzs, rowD_length, wholeW_length, List.length_take]; unfold fits; omega
      refine NewSl.growL (g4.shift rfl (by simp)) (Nat.zero_le _) hst hfit ?_
      intro i S3 r7 v7 s1 s2 s3 s4 s5 s6 s7 s8 s9 s10
      simp at s5 s6 s7 s8 s9 s10
      simp [g2, g3, j1]
      have hKs : Kept .empty (startD S'.next S'.clk 14 S') := hK.of (fun _ _ => rfl) (by simp) (by simp) rfl
      have hK3 := s4 hKs
      refine ⟨⟨by omega, by omega⟩, k + 1, ⟨by omega, wrap_i64 (by omega) (by omega), hK3.of (fun _ _ => rfl) (by show S3.next ≤ S'.next + 1600; omega) (by show S3.clk ≤ S'.clk + 1600; omega) rfl, ?_⟩, by omega⟩
      rw [← hzs]
      exact NewSl.shift (S := S3) (.inr ⟨i, s2, s3, rfl, s1⟩) rfl (by show S3.next ≤ S'.next + 1600; omega)
    · have hk : k = l.length := by omega
      subst hk
      rw [List.take_length] at g4
      simp
      rcases g4 with ⟨h1, h2⟩ | ⟨i, h1, h2, h3, h4⟩
      · rw [h1]; simp
        rw [h2] at h; exact h
      · rw [h3]; simp [h4]
        exact h
structure BX (S : St) (x y : Obj) : Prop where
  o0 : S.obj 0 = x
  o1 : S.obj 1 = y
  nx : 2 ≤ S.next
theorem BX.mod {S S' : St} {x y : Obj} {id : Nat} (h : BX S x y) (hM : Mod S S' id) (hid : 2 ≤ id) : BX S' x y :=
  ⟨by rw [hM.1 0 (by have := h.nx; omega) (by omega)]; exact h.o0, by rw [hM.1 1 (by have := h.nx; omega) (by omega)]; exact h.o1, Nat.le_trans h.nx hM.2.1⟩
def allB (f g : Nat → List UInt8) : Nat → Bool
  | 0 => true
  | k + 1 => allB f g k && decide (f k = g k)
theorem allB_true {f g : Nat → List UInt8} : ∀ {k : Nat}, (∀ i, i < k → f i = g i) → allB f g k = true := by
  intro k
  induction k with
  | zero => intro _; rfl
  | succ k ih =>
    intro h
    show (allB f g k && decide (f k = g k)) = true
    rw [ih fun i hi => h i (by omega), h k (by omega)]
    simp
theorem jour_ReadIn {S : St} {id n : Nat} {d : Dk} {i : Nat} {Q : LV → St → Prop} (hI : IsD S id d) (hw : Ok d n) (hi : 157 + i < d.lasts.length)
    (h : ∀ S', IsD S' id d → Kept S S' → Q (.d (.sl (byD (d.jread i)))) S') : SQ cf 60 [.ptr id 0, .d (.int .i64 i)] S Q := by
  refine jour_Read hI hw fun S' v h1 h2 h3 => ?_
  rcases h3 with rfl | ⟨_, h3⟩
  · exact h S' h1 h2
  · have hm : d.many = (d.lasts.length : Int) - 157 := many_of (by omega)
    rw [Dk.jread, if_neg (by omega)] at h3
    have := hw.wf.read (i := 157 + (i : Int)) (by omega) (by omega)
    rw [h3] at this; cases this
theorem jread_len {d : Dk} {n i : Nat} (hw : Ok d n) (hi : 157 + i < d.lasts.length) : (d.jread i).length = 64 := by
  have hm : d.many = (d.lasts.length : Int) - 157 := many_of (by omega)
  rw [Dk.jread, if_neg (by omega)]
  exact hw.wf.read (by omega) (by omega)
def oldL : List Wr := [⟨0, sect [111, 108, 100]⟩, ⟨5, sect [102, 105, 118, 101]⟩]
def oldC (i : Nat) : List UInt8 := over oldL i (sect [])
set_option maxHeartbeats 4000000 in
theorem law_JourAll {l : List Wr} {cr ag : Cr} (_ : (∀ x ∈ l, (Lit.int .i64 x.pos).wf = true ∧ ((∀ a ∈ x.data, True) ∧ x.data.length * 1 ≤ lim) ∧ True) ∧ l.length * 32 ≤ lim)
    (_ : (Lit.int .i64 cr.pos).wf = true ∧ ((∀ a ∈ cr.keep, True) ∧ cr.keep.length * 1 ≤ lim) ∧ True) (_ : (Lit.int .i64 ag.pos).wf = true ∧ ((∀ a ∈ ag.keep, True) ∧ ag.keep.length * 1 ≤ lim) ∧ True) :
    VQ cf 17 [.sl (rowD wrD l), crD cr, crD ag] fun v => v = .d (.bool true) := by
  refine V_intro rfl (S_intro Try.func17 rfl rfl (Nat.le_of_ble_eq_true rfl) ?_)
  unfold crD boD
  simp
  intro hl1
  refine f_intro (fun k1 => ?_) (fun k1 => ?_)
  · simp [k1]
  simp [k1]
  intro hl2
  refine f_intro (fun k2 => ?_) (fun k2 => ?_)
  · simp [k1, k2]
  simp [k1, k2]
  intro hl3
  refine f_intro (fun k3 => ?_) (fun k3 => ?_)
  · simp [k3]
  simp [k3]
  refine law2_whole (by omega) ?_
  simp
  refine dev_New (fun n1 n2 S1 a ha hI hK => ?_) (fun hn => absurd ⟨by decide, by decide⟩ hn)
  simp
  refine ref_New (fun n1 n2 S2 c hc hR hK2 => ?_) (fun h => absurd ⟨n1, n2⟩ h)
  have hI2 := hI.kept hK2
  have hne : a ≠ c := by have := hI.1; omega
  have hne' : c ≠ a := fun e => hne e.symm
  have e0 : (170 : Int).toNat = 170 := rfl
  rw [e0] at hI2 hR
  simp at ha
  have b0 := hK.1 0 (by simp)
  have b1 := hK.1 1 (by simp)
  have nx1 := hK.2.1
  simp at b0 b1 nx1
  rw [← hK2.1 0 (by omega)] at b0
  rw [← hK2.1 1 (by omega)] at b1
  clear hK hK2
  simp
  refine law2_sector (b := [111, 108, 100]) ?_
  simp
  refine law2_sector (b := [102, 105, 118, 101]) ?_
  have hc2 : 2 ≤ c := Nat.le_trans nx1 hc
  have B2 : BX S2 _ _ := ⟨b0, b1, by have := hR.1; omega⟩
  clear b0 b1 nx1 hc
  have o0 : Ok (Dk.new 170) 60000 := new_ok (by decide) (by decide)
  have hl0 : (Dk.new 170).lasts.length = 170 := by simp [Dk.new]
  obtain ⟨f1, f2, f3, f4⟩ := good_format (d := Dk.new 170) new_calm (fun w hw => by simp [Dk.new] at hw) (by rw [hl0]; decide)
  rw [hl0] at f3
  have o1 : Ok (Dk.new 170).format.2 50000 := o0.format.less (by decide)
  simp
  refine jour_Format hI2 (n := 50000) (o0.less (by decide)) fun S3 hI3 hM3 => ?_
  have hR3 := hR.mod hM3 hne'
  have B3 := B2.mod hM3 ha
  clear hI2 hR B2 hM3
  rw [f1]
  generalize hd1 : (Dk.new 170).format.2 = d1 at hI3 f2 f3 f4 o1
  have hmany1 : d1.many = 13 := by unfold Dk.many; rw [f3]; decide
  have hw1 : d1.wrong oldL = 0 := by
    unfold Dk.wrong
    simp [bad, hmany1, nth, poss, oldL]
    intro x hx
    have hx2 : x = 0 ∨ x = 1 := by omega
    rcases hx2 with rfl | rfl <;> simp [sect_length]
  obtain ⟨c1, c2, c3⟩ := good_commit f2 hw1 (by simp [oldL])
  have hr1 : Rest (fun _ => sect []) d1 := ⟨⟨f4, f2.big, by rw [← read_V f4 (by omega)]; exact f2.sign⟩, by rw [← read_V f4 (by omega)]; exact f2.mark, fun i hi => by
    rw [← read_V f4 hi, show ((157 + i : Nat) : Int) = 157 + (i : Int) by omega]
    exact f2.place i (by omega) (by omega)⟩
  have hr2 : Rest oldC (d1.commit oldL).2 := by
    rcases (rest_commit hr1 f2.calm.down hw1 (by simp [oldL])).2 with ⟨_, _, r⟩ | ⟨r, _⟩
    · exact r
    · rw [c1] at r; cases r
  have hg2 : Good (d1.commit oldL).2 (fun i => oldC i.toNat) := by
    refine ⟨c2.calm, c2.wait, c2.big, c2.sign, c2.mark, fun i h0 h1 => ?_⟩
    have := c2.place i h0 h1
    obtain ⟨m, rfl⟩ : ∃ m : Nat, i = m := ⟨i.toNat, by omega⟩
    exact this
  have o2 : Ok (d1.commit oldL).2 49000 := Ok.commit (n := 49000) (o1.less (by decide))
  simp
  refine jour_Commit (l := oldL) hI3 (n := 49000) (o1.less (by decide)) (by simp [oldL]) fun S4 hI4 hM4 => ?_
  have hR4 := hR3.mod hM4 hne'
  have B4 := B3.mod hM4 ha
  clear hI3 hR3 B3 hM4
  rw [c1]
  simp
  refine ref2_Format hR4 (n := 50000) (o0.less (by decide)) fun S5 hR5 hM5 => ?_
  have hI5 := hI4.mod hM5 hne
  have B5 := B4.mod hM5 hc2
  rw [hd1] at hR5
  rw [f1]
  clear hI4 hR4 B4 hM5
  simp
  refine ref2_Commit (l := oldL) hR5 (n := 49000) (o1.less (by decide)) (by simp [oldL]) fun S6 hR6 hM6 => ?_
  have hI6 := hI5.mod hM6 hne
  have B6 := B5.mod hM6 hc2
  rw [c1]
  have hN : (d1.commit oldL).2.lasts.length = 170 := c3.trans f3
  clear hI5 hR5 B5 hM6 c1 c2 c3 hr1 hw1 hmany1
  generalize (d1.commit oldL).2 = d2 at hI6 hR6 hr2 hg2 o2 hN
  clear hd1 f1 f2 f3 f4 o1 o0
  obtain ⟨a1, a2, a3, a4, a5⟩ := all_abs (cr := cr) (ag := ag) (w := wholeW l) hN hr2 hg2
  have hwl : (wholeW l).length ≤ 1000000 := by rw [wholeW_length]; omega
  have o3 : Ok d2.restart 48000 := ⟨o2.wf.restart (by decide), o2.keep⟩
  have o4 : Ok (d2.restart.arm cr) 48000 := ⟨o3.wf.arm, by show cr.keep.length ≤ _; omega⟩
  have o5 : Ok ((d2.restart.arm cr).commit (wholeW l)).2 47000 := Ok.commit (n := 47000) (o4.less (by decide))
  have o6 : Ok ((d2.restart.arm cr).commit (wholeW l)).2.restart 47000 := ⟨o5.wf.restart (by decide), o5.keep⟩
  have o7 : Ok (((d2.restart.arm cr).commit (wholeW l)).2.restart.arm ag) 47000 := ⟨o6.wf.arm, by show ag.keep.length ≤ _; omega⟩
  have o8 : Ok (((d2.restart.arm cr).commit (wholeW l)).2.restart.arm ag).openD.2 46000 := Ok.openD (n := 46000) (o7.less (by decide))
  have o9 : Ok (crashed d2 cr ag (wholeW l)).2 46000 := ⟨o8.wf.restart (by decide), o8.keep⟩
  have o10 : Ok (crashed d2 cr ag (wholeW l)).2.openD.2 45000 := Ok.openD (n := 45000) (o9.less (by decide))
  have ox : Ok (d2.commit (wholeW l)).2 45000 := Ok.commit (n := 45000) (o2.less (by decide))
  simp
  refine dev_Restart hI6 fun S7 hI7 hM7 => ?_
  have hR7 := hR6.mod hM7 hne'
  have B7 := B6.mod hM7 ha
  clear hI6 hR6 B6 hM7
  simp [B7.o0]
  refine dev_Arm (c := cr) hI7 (by omega) (.inr (.inr (by unfold boD; rfl))) fun S8 hI8 hM8 => ?_
  have hR8 := hR7.mod hM8 hne'
  have B8 := B7.mod hM8 ha
  clear hI7 hR7 B7 hM8
  simp
  refine jour_Commit (l := wholeW l) hI8 (n := 47000) (o4.less (by decide)) hwl fun S9 hI9 hM9 => ?_
  have hR9 := hR8.mod hM9 hne'
  have B9 := B8.mod hM9 ha
  clear hI8 hR8 B8 hM9
  simp
  refine ref2_Commit (l := wholeW l) hR9 (n := 45000) (o2.less (by decide)) hwl fun S10 hR10 hM10 => ?_
  have hI10 := hI9.mod hM10 hne
  have B10 := B9.mod hM10 hc2
  clear hI9 hR9 B9 hM10
  have ecr : ((d2.restart.arm cr).commit (wholeW l)).1 = (crashed d2 cr ag (wholeW l)).1 := rfl
  rw [ecr]
  simp
  refine f_intro (fun m1 => ?ye) (fun m1 => ?ne)
  case' ye =>
    simp [m1]
    rw [m1] at a5
  case' ne =>
    have m2 : (crashed d2 cr ag (wholeW l)).1 = (d2.commit (wholeW l)).1 := by
      rcases a1 with h | h
      · exact absurd h m1
      · exact h
    rw [m2] at m1 a5
    simp [m1, m2]
  case' ye => clear m1
  all_goals
    refine dev_Restart hI10 fun S11 hI11 hM11 => ?_
    have hR11 := hR10.mod hM11 hne'
    have B11 := B10.mod hM11 ha
    clear hI10 hR10 B10 hM11
    simp [B11.o1]
    refine dev_Arm (c := ag) hI11 (by omega) (.inr (.inr (by unfold boD; rfl))) fun S12 hI12 hM12 => ?_
    have hR12 := hR11.mod hM12 hne'
    have B12 := B11.mod hM12 ha
    clear hI11 hR11 B11 hM12
    simp
    refine jour_Open hI12 (n := 46000) (o7.less (by decide)) fun S13 hI13 hM13 => ?_
    have hR13 := hR12.mod hM13 hne'
    clear hI12 hR12 B12 hM13
    simp
    refine dev_Restart hI13 fun S14 hI14 hM14 => ?_
    have hR14 := hR13.mod hM14 hne'
    clear hI13 hR13 hM14
    simp
    refine jour_Open hI14 (n := 45000) (o9.less (by decide)) fun S15 hI15 hM15 => ?_
    have hR15 := hR14.mod hM15 hne'
    clear hI14 hR14 hM15
    have e2 : (((d2.restart.arm cr).commit (wholeW l)).2.restart.arm ag).openD.2.restart.openD.1 = 0 := a2
    have e3 : (((d2.restart.arm cr).commit (wholeW l)).2.restart.arm ag).openD.2.restart.openD.2 = (crashed d2 cr ag (wholeW l)).2.openD.2 := rfl
    rw [e2]
    rw [e3] at hI15
    generalize (crashed d2 cr ag (wholeW l)).2.openD.2 = d6 at hI15 a3 a5 o10
    generalize (d2.commit (wholeW l)).2 = dx at hR15 a4 a5 ox
    simp
    refine X_loop (fun (k : Nat) e S => k ≤ 13 ∧ e 8 = .ptr a 0 ∧ e 9 = .ptr c 0 ∧ e 10 = .lit (rowD wrD oldL) ∧ (∃ E : Int, e 11 = .d (.int .i64 E) ∧ (allB (fun i => d6.jread i) (fun i => dx.jread i) 13 = true ∨ (allB (fun i => d6.jread i) oldC 13 = true ∧ E ≠ 0))) ∧
      e 13 = .d (.bool (allB (fun i => d6.jread i) oldC k)) ∧ e 14 = .d (.bool (allB (fun i => d6.jread i) (fun i => dx.jread i) k)) ∧ e 15 = .d (.int .i64 k) ∧ IsD S a d6 ∧ IsR S c dx) (fun k => 13 - k) 0 ?_ ?_
    · simp
      refine ⟨rfl, ?_, rfl, rfl, hI15, hR15⟩
      rcases a5 with h | ⟨h, h0⟩
      · exact .inl (allB_true fun i hi => h i (by omega))
      · first
          | exact .inr (allB_true fun i hi => h i (by omega))
          | exact .inr ⟨allB_true fun i hi => h i (by omega), h0⟩
    · intro k e S16 hJ
      obtain ⟨g1, g2, g3, g4, ⟨E, g5, g6⟩, g7, g8, g9, hI16, hR16⟩ := hJ
      simp [g2, g9]
      refine jour_Many hI16 o10.wf.many ?_
      have hmany : d6.many = 13 := by unfold Dk.many; rw [a3]; decide
      rw [hmany]
      simp [g2, g9]
      refine f_intro (fun j1 => ?_) (fun j1 => ?_)
      · simp [j1, g2, g9]
        refine jour_ReadIn hI16 o10 (by omega) fun S17 hI17 hK17 => ?_
        have hR17 := hR16.kept hK17
        simp [g8]
        refine f_intro (fun j2 => ?_) (fun j2 => ?_)
        case' refine_2 =>
          have h14 : allB (fun i => d6.jread i) (fun i => dx.jread i) (k + 1) = false := by simp [allB, j2]
          have hIz := hI17
          have hRz := hR17
          simp [g8, j2]
        case' refine_1 =>
          simp [j2, g3, g9]
          refine ref2_Read (n := 45000) hR17 ox fun S18 v hR18 hK18 hv => ?_
          have hI18 := hI17.kept hK18
          have jl := jread_len ox (i := k) (by omega)
          rcases hv with ⟨rfl, hv⟩ | ⟨i18, q1, q2, rfl, q3⟩
          · have h2 := congrArg List.length hv
            rw [byD_length, jl] at h2
            cases h2
          have h14 : allB (fun i => d6.jread i) (fun i => dx.jread i) (k + 1) = decide (d6.jread k = dx.jread k) := by simp [allB, j2]
          have hIz := hI18
          have hRz := hR18
          simp [q3, g8, j2, jl]
        all_goals refine law2_sector (b := []) ?_
        all_goals simp
        all_goals refine X_loop (fun (m : Nat) e S => m ≤ 2 ∧ e 8 = .ptr a 0 ∧ e 9 = .ptr c 0 ∧ e 10 = .lit (rowD wrD oldL) ∧ e 11 = .d (.int .i64 E) ∧
            e 13 = .d (.bool (allB (fun i => d6.jread i) oldC k)) ∧ e 14 = .d (.bool (allB (fun i => d6.jread i) (fun i => dx.jread i) (k + 1))) ∧ e 15 = .d (.int .i64 k) ∧ e 16 = .d (.str (d6.jread k)) ∧ e 17 = .d (.sl (byD (over (oldL.take m) k (sect [])))) ∧ e 18 = .d (.int .i64 m) ∧ IsD S a d6 ∧ IsR S c dx) (fun m => 2 - m) 0 ?_ ?_
        all_goals first
          | (simp [h14, g2, g3, g4, g5, g7, g9]; exact ⟨rfl, hIz, hRz⟩)
          | skip
        all_goals
          intro m e2 S19 hJ2
          obtain ⟨p1, p2, p3, p4, p5, p6, p7, p8, p9, p10, p11, hI19, hR19⟩ := hJ2
          have hol : oldL.length = 2 := rfl
          have ht2 : List.take 2 oldL = oldL := rfl
          have g6' : allB (fun i => d6.jread i) (fun i => dx.jread i) 13 = true ∨ allB (fun i => d6.jread i) oldC 13 = true ∧ ¬ E = 0 := g6
          simp [p4, p11, hol]
          refine f_intro (fun j3 => ?_) (fun j3 => ?_)
          · have hmo : m < oldL.length := by rw [hol]; omega
            have hst : over (oldL.take (m + 1)) k (sect []) = if (nth oldL m).pos = k then (nth oldL m).data else over (oldL.take m) k (sect []) := by rw [takeN hmo, over_append, over_one]
            simp [p4, p8, p11, j3]
            refine ⟨hmo, ?_⟩
            refine f_intro (fun j4 => ?_) (fun j4 => ?_)
            · rw [if_pos j4] at hst
              simp [p4, p8, p11, j3, j4, hmo, p2, p3, p5, p6, p7, p9, p10]
              exact ⟨m + 1, ⟨by omega, by rw [hst], wrap_i64 (by omega) (by omega), hI19, hR19⟩, by omega⟩
            · rw [if_neg j4] at hst
              simp [p4, p8, p11, j3, j4, p2, p3, p5, p6, p7, p9, p10]
              exact ⟨m + 1, ⟨by omega, by rw [hst], wrap_i64 (by omega) (by omega), hI19, hR19⟩, by omega⟩
          · have hm : m = 2 := by omega
            subst hm
            simp [p6, j3]
            refine f_intro (fun j4 => ?_) (fun j4 => ?_)
            · simp [p6, p9, p10, p2, p3, p4, p5, p7, p8, p11, j4]
              exact ⟨k + 1, ⟨by omega, g6', by rw [ht2]; show _ = (allB _ _ k && _); rw [j4, Bool.true_and]; exact decide_eq_decide.mpr Iff.rfl, rfl, wrap_i64 (by omega) (by omega), hI19, hR19⟩, by omega⟩
            · simp [p6, p9, p10, p2, p3, p4, p5, p7, p8, p11, j4]
              exact ⟨k + 1, ⟨by omega, g6', by simp [allB, j4], rfl, wrap_i64 (by omega) (by omega), hI19, hR19⟩, by omega⟩
      · simp [j1, g5, g7, g8]
        have hk : k = 13 := by omega
        subst hk
        rcases g6 with h | ⟨h, h2⟩
        · simp [h]
          refine law2_known ?_
          simp
        · simp [h, h2]
          refine f_intro (fun j2 => ?_) (fun j2 => ?_)
          · simp [j2, h, h2, g5, g7]
            refine law2_known ?_
            simp
          · simp [j2]
            refine law2_known ?_
            simp
end Go.VM
