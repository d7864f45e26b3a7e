/- Chapter 1: a disk's methods where the order is open; the laws. No condition. -/
import Derived.Test.YtmahmajoelmmeaaDv
namespace Go.VM
open Go.Proofs
set_option maxRecDepth 4000
attribute [-simp] Int.not_lt Int.not_le Nat.not_lt Nat.not_le
theorem IsD.refs {S : St} {id : Nat} {d : Dk} (h : IsD S id d) : objRefs (S.obj id) = [] ∧ ∀ R, objTame R (S.obj id) = true := by
  obtain ⟨_, c0, c1, c3, h1, h2, h3, _, h5⟩ := h
  rw [h1]
  refine ⟨by simp [h2.tame.1, h3.tame.1, h5.1], fun R => by simp [h2.tame.2 R, h3.tame.2 R, h5.2 R]⟩
theorem IsD.stamp {S S' : St} {id k : Nat} {d : Dk} (h : IsD S id d) (ho : S'.obj id = stampO k (S.obj id)) (hn : id < S'.next) : IsD S' id d := by
  obtain ⟨_, c0, c1, c3, h1, h2, h3, h4, h5⟩ := h
  refine ⟨hn, Go.VM.stamp k c0, Go.VM.stamp k c1, Go.VM.stamp k c3, ?_, h2.stamp k, h3.stamp k, fun a b => (h4 a b).stamp k, h5.stamp k⟩
  rw [ho, h1]
  rfl
theorem IsD.small {S : St} {id : Nat} {d : Dk} (h : IsD S id d) : IsD (small [(id, S.obj id)]) id d := h.of (by simp) (by simp)
/-- a call on one disk, where the order is open: it answers data -/
theorem ShD_D {f : FuncId} {ls : List LV} {S : St} {id : Nat} {d d' : Dk} {x : D} {K : LV → St → List Nat → List Nat → Prop} (hI : IsD S id d) (hr : ls.flatMap refs = [id]) (ha : ls.all (argTame [id]) = true)
    (h : ∀ S0, IsD S0 id d → SQ cf f ls S0 fun r S1 => IsD S1 id d' ∧ closeV r = .ret (.d x))
    (hK : ∀ S2, IsD S2 id d' → (∀ j, j ≠ id → S2.obj j = S.obj j) → S2.next = S.next → S2.clk = S.clk + 1 → S2.esc = S.esc → K (.d x) S2 [id] [id]) : ShD cf f ls S K := by
  refine ShD_1 hr rfl hI.refs.1 (hI.refs.2 _) ha ?_
  obtain ⟨n, hn⟩ := h _ hI.small
  refine ⟨n, holds_mono (fun r hr => ?_) hn⟩
  obtain ⟨h1, h2⟩ := hr
  rw [h2]
  refine ⟨rfl, h1.refs.2 _, hK _ ?_ (fun j hj => by simp [hj]) rfl rfl rfl⟩
  refine h1.stamp (k := S.clk) ?_ hI.1
  show (if id = id then _ else _) = _
  rw [if_pos rfl]
theorem close_d {x : D} (h : x.one = true) : closeV (.d x) = .ret (.d x) := by cases x <;> first | rfl | cases h
theorem sh_Down {S : St} {id : Nat} {d : Dk} {K : LV → St → List Nat → List Nat → Prop} (hI : IsD S id d) (hK : ∀ S2, IsD S2 id d → (∀ j, j ≠ id → S2.obj j = S.obj j) → S2.next = S.next → S2.clk = S.clk + 1 → S2.esc = S.esc → K (.d (.bool d.down)) S2 [id] [id]) :
    ShD cf 47 [.ptr id 0] S K := ShD_D hI rfl (by simp) (fun S0 h0 => dev_Down h0 ⟨h0, rfl⟩) hK
theorem sh_Ops {S : St} {id : Nat} {d : Dk} {K : LV → St → List Nat → List Nat → Prop} (hI : IsD S id d) (hK : ∀ S2, IsD S2 id d → (∀ j, j ≠ id → S2.obj j = S.obj j) → S2.next = S.next → S2.clk = S.clk + 1 → S2.esc = S.esc → K (.d (.int .i64 d.ops)) S2 [id] [id]) :
    ShD cf 48 [.ptr id 0] S K := ShD_D hI rfl (by simp) (fun S0 h0 => dev_Ops h0 ⟨h0, rfl⟩) hK
theorem sh_Size {S : St} {id : Nat} {d : Dk} {K : LV → St → List Nat → List Nat → Prop} (hI : IsD S id d) (hm : d.lasts.length ≤ 2000) (hK : ∀ S2, IsD S2 id d → (∀ j, j ≠ id → S2.obj j = S.obj j) → S2.next = S.next → S2.clk = S.clk + 1 → S2.esc = S.esc → K (.d (.int .i64 d.lasts.length)) S2 [id] [id]) :
    ShD cf 55 [.ptr id 0] S K := ShD_D hI rfl (by simp) (fun S0 h0 => dev_Size h0 hm ⟨h0, rfl⟩) hK
theorem sh_Read {S : St} {id n : Nat} {d : Dk} {i : Int} {K : LV → St → List Nat → List Nat → Prop} (hI : IsD S id d) (hw : WfD d n) (hK : ∀ S2, IsD S2 id d → (∀ j, j ≠ id → S2.obj j = S.obj j) → S2.next = S.next → S2.clk = S.clk + 1 → S2.esc = S.esc → K (.d (.sl (byD (d.read i)))) S2 [id] [id]) :
    ShD cf 42 [.ptr id 0, .d (.int .i64 i)] S K := ShD_D hI rfl (by simp) (fun S0 h0 => dev_Read h0 hw fun v S' hk hv => ⟨h0.kept hk, by rcases hv with rfl | ⟨rfl, e⟩; rfl; rw [e]; rfl⟩) hK
theorem sh_Flush {S : St} {id n : Nat} {d : Dk} {K : LV → St → List Nat → List Nat → Prop} (hI : IsD S id d) (hw : WfD d (n + 1)) (hkl : d.keep.length ≤ 1000000) (hK : ∀ S2, IsD S2 id d.flush.2 → (∀ j, j ≠ id → S2.obj j = S.obj j) → S2.next = S.next → S2.clk = S.clk + 1 → S2.esc = S.esc → K (.d (.int .i64 d.flush.1)) S2 [id] [id]) :
    ShD cf 44 [.ptr id 0] S K := ShD_D hI rfl (by simp) (fun S0 h0 => dev_Flush h0 hw hkl fun S' h1 _ => ⟨h1, rfl⟩) hK
theorem sh_Write {S : St} {id n : Nat} {d : Dk} {i : Int} {b : List UInt8} {K : LV → St → List Nat → List Nat → Prop} (hI : IsD S id d) (hw : WfD d (n + 1)) (hkl : d.keep.length ≤ 1000000) (hK : ∀ S2, IsD S2 id (d.write i b).2 → (∀ j, j ≠ id → S2.obj j = S.obj j) → S2.next = S.next → S2.clk = S.clk + 1 → S2.esc = S.esc → K (.d (.int .i64 (d.write i b).1)) S2 [id] [id]) :
    ShD cf 41 [.ptr id 0, .d (.int .i64 i), .d (.sl (byD b))] S K := ShD_D hI rfl (by simp) (fun S0 h0 => dev_Write h0 hw hkl fun S' h1 _ => ⟨h1, rfl⟩) hK
/-- bytes as a sector -/
def sect (b : List UInt8) : List UInt8 := b.take 64 ++ zeros (64 - b.length)
theorem sect_length (b : List UInt8) : (sect b).length = 64 := by simp [sect]; omega
def sectTo (b : List UInt8) (i : Nat) : List UInt8 := (List.range i).foldl (fun x k => x.set k (nth b k)) (zeros 64)
theorem sectTo_succ {b : List UInt8} {i : Nat} : sectTo b (i + 1) = (sectTo b i).set i (nth b i) := by simp [sectTo, List.range_succ]
theorem sectTo_length {b : List UInt8} {i : Nat} : (sectTo b i).length = 64 := by
  induction i with
  | zero => simp [sectTo]
  | succ i ih => rw [sectTo_succ, List.length_set, ih]
theorem sectTo_get {b : List UInt8} : ∀ i, i ≤ 64 → i ≤ b.length → ∀ k, (sectTo b i)[k]? = if k < i then some (nth b k) else (zeros 64)[k]? := by
  intro i
  induction i with
  | zero => intro _ _ k; simp [sectTo]
  | succ i ih =>
    intro h1 h2 k
    rw [sectTo_succ, List.getElem?_set, sectTo_length]
    by_cases hk : i = k
    · subst hk; simp; omega
    · rw [if_neg hk, ih (by omega) (by omega)]
      by_cases h3 : k < i
      · rw [if_pos h3, if_pos (by omega)]
      · rw [if_neg h3, if_neg (by omega)]
theorem sectTo_all {b : List UInt8} {i : Nat} (h1 : i ≤ 64) (h2 : i ≤ b.length) (h3 : ¬ (i < b.length ∧ i < 64)) : sectTo b i = sect b := by
  apply List.ext_getElem?
  intro k
  rw [sectTo_get i h1 h2]
  unfold sect
  by_cases hk : k < i
  · rw [if_pos hk, List.getElem?_append_left (by simp; omega), List.getElem?_take, if_pos (by omega), nth_get (by omega)]
  · rw [if_neg hk, List.getElem?_append_right (by simp; omega)]
    simp only [zeros, List.getElem?_replicate, List.length_take]
    split <;> split <;> first | rfl | omega
theorem law1_sector {b : List UInt8} {Q : LV → Prop} (h : Q (.d (.sl (byD (sect b))))) : VQ cf 40 [.sl (byD b)] Q := by
  refine V_intro rfl (S_intro Try.func40 rfl rfl (Nat.le_of_ble_eq_true rfl) ?_)
  simp
  refine X_loop (fun (i : Nat) e S => (i ≤ 64 ∧ i ≤ b.length) ∧ e 0 = .d (.sl (byD b)) ∧ e 3 = .ar (.arr 0) 1 0 64 ∧ e 4 = .d (.int .i64 i) ∧ S.obj 0 = .arr 1 (byD (sectTo b i)) false) (fun i => 64 - i) 0 ?_ ?_
  · simp [sectTo]
  · intro i e S hI
    obtain ⟨g1, g2, g3, g4, g5⟩ := hI
    have fin : ¬ (i < b.length ∧ i < 64) → Q (.d (.sl (byD (sectTo b i)))) := fun hc => by rw [sectTo_all g1.1 g1.2 hc]; exact h
    simp [g2, g4]
    intro _
    refine f_intro (fun j1 => ?_) (fun j1 => ?_)
    · simp [g4, j1]
      refine f_intro (fun j2 => ?_) (fun j2 => ?_)
      · simp [g2, g3, g4, g5, j1, j2, sectTo_length]
        have j3 : i < 64 := by omega
        simp [j3]
        exact ⟨i + 1, ⟨⟨by omega, by omega⟩, wrap_i64 (by omega) (by omega), by rw [sectTo_succ]⟩, by omega⟩
      · simp [g3, g5, j2, sectTo_length]
        exact fin (by omega)
    · simp [g3, g5, j1, sectTo_length]
      exact fin (by omega)
theorem conv_lits {P : Program} {t : TypeId} {y : D} {ys : List D} (hs : (P.underlying t).isSome = true) (hd : tyStr P t = false) (hb : tyBy P t = true) : convertT P t t (.lit (y :: ys)) = .ret (.lit (y :: ys)) := by
  simp [convertT, hs, hd, hb]
attribute [simp] conv_lits
def kd0 : Dk := Dk.new 2
def kd1 : Dk := kd0.arm ⟨2, [false, true]⟩
def kd2 : Dk := (kd1.write 0 (sect [97])).2
def kd3 : Dk := (kd2.write 1 (sect [98])).2
def kd4 : Dk := kd3.flush.2
theorem kd1_wf : WfD kd1 10 := ⟨by decide +kernel, by decide +kernel, by decide +kernel, by decide +kernel, by decide +kernel⟩
theorem kd2_wf : WfD kd2 9 := ⟨by decide +kernel, by decide +kernel, by decide +kernel, by decide +kernel, by decide +kernel⟩
theorem kd3_wf : WfD kd3 8 := ⟨by decide +kernel, by decide +kernel, by decide +kernel, by decide +kernel, by decide +kernel⟩
theorem kd4_wf : WfD kd4 7 := ⟨by decide +kernel, by decide +kernel, by decide +kernel, by decide +kernel, by decide +kernel⟩
set_option maxHeartbeats 2000000 in
theorem law1_known {Q : LV → Prop} (h : Q (.d (.bool true))) : VQ cf 45 [] Q := by
  refine V_intro rfl (S_intro Try.func45 rfl rfl (Nat.le_of_ble_eq_true rfl) ?_)
  simp
  refine dev_New (fun _ _ S1 id hid hI hK => ?_) (fun h => absurd ⟨by decide +kernel, by decide +kernel⟩ h)
  simp
  refine dev_Arm (d := kd0) (c := ⟨2, [false, true]⟩) hI (by decide) (.inr (.inl rfl)) fun S2 hI2 _ => ?_
  simp
  refine law1_sector (b := [97]) ?_
  simp
  refine dev_Write (d := kd1) (n := 9) hI2 kd1_wf (by decide) fun S3 hI3 _ => ?_
  simp [show (kd1.write 0 (sect [97])).1 = 0 from by decide +kernel]
  refine law1_sector (b := [98]) ?_
  simp
  refine dev_Write (d := kd2) (n := 8) hI3 kd2_wf (by decide) fun S4 hI4 _ => ?_
  simp [show (kd2.write 1 (sect [98])).1 = 0 from by decide +kernel]
  refine dev_Flush (d := kd3) (n := 7) hI4 kd3_wf (by decide) fun S5 hI5 _ => ?_
  simp [show kd3.flush.1 = 6 from by decide +kernel]
  refine X_drawM [0, 1, 3, 7, 15, 31, 63, 127, 255, 511, 1023, 2047, 4095, 8191, 16383, 32767, 65535, 131071, 131071, 393215, 1048575, 2097151, 4194303, 8388607, 16777215, 33554431, 8388607, 75497471, 234881023, 503316479, 1073741823, 2147483647, 4294967295, 8589934591, 17179869183, 34359738367, 68719476735, 137438953471] (by decide +kernel) (by decide +kernel) ?_
  simp
  have hid5 := hI5.1
  refine sh_Down (d := kd4) (hI5.of rfl (by simp; omega)) fun S6 hI6 ho6 hn6 hc6 he6 => ?_
  simp [hn6, hc6, show kd4.down = true from by decide +kernel]
  refine sh_Read (d := kd4) (n := 7) (hI6.of rfl (by simp; omega)) kd4_wf fun S7 hI7 ho7 hn7 hc7 he7 => ?_
  simp [hn7, hc7, show kd4.read 0 = sect [] from by decide +kernel]
  refine law1_sector (b := []) ?_
  simp
  refine sh_Read (d := kd4) (n := 7) (hI7.of rfl (by simp; omega)) kd4_wf fun S8 hI8 ho8 hn8 hc8 he8 => ?_
  simp [hn8, hc8, show kd4.read 1 = sect [98] from by decide +kernel]
  refine law1_sector (b := [98]) ?_
  simp
  refine sh_Size (d := kd4) (hI8.of rfl (by simp; omega)) (by decide +kernel) fun S9 hI9 ho9 hn9 hc9 he9 => ?_
  simp [hn9, hc9, show kd4.lasts.length = 2 from by decide +kernel]
  exact ⟨by decide +kernel, h⟩
end Go.VM
