/- Chapter 1: the laws on the program's disk alone. No condition. -/
import Derived.Test.YtmahmajoelmmeaaDl
namespace Go.VM
open Go.Proofs
set_option maxRecDepth 4000
attribute [-simp] Int.not_lt Int.not_le Nat.not_lt Nat.not_le
theorem new_wf {k n : Nat} (hk : k ≤ 2000) (hn : n ≤ 1000000) : WfD (Dk.new k) n :=
  ⟨by simpa [Dk.new] using hk, fun b hb => by simp [Dk.new] at hb; rw [hb.2]; simp, fun w hw => by simp [Dk.new] at hw, by simpa [Dk.new] using hn, by simp [Dk.new]; omega⟩
theorem WfD.less {d : Dk} {n m : Nat} (h : WfD d n) (k : m ≤ n) : WfD d m := ⟨h.many, h.last, h.wait, by have := h.few; omega, ⟨h.ops.1, by have := h.ops.2; omega⟩⟩
theorem WfD.arm {d : Dk} {n : Nat} {c : Cr} (h : WfD d n) : WfD (d.arm c) n := ⟨h.many, h.last, h.wait, h.few, h.ops⟩
theorem WfD.restart {d : Dk} {n m : Nat} (h : WfD d n) (hm : m ≤ 1000000) : WfD d.restart m := ⟨h.many, h.last, fun w hw => by simp [Dk.restart] at hw, by simpa [Dk.restart] using hm, by simp [Dk.restart]; omega⟩
theorem WfD.write {d : Dk} {n : Nat} {i : Int} {b : List UInt8} (h : WfD d (n + 1)) : WfD (d.write i b).2 n := by
  unfold Dk.write
  split
  · exact h.less (by omega)
  · split
    · exact h.less (by omega)
    · rename_i hc
      have hf := Dk.falls_wf h
      have hl : d.falls.2.waits.length ≤ d.waits.length := by
        unfold Dk.falls
        split
        · exact Nat.le_refl _
        · exact Nat.zero_le _
      split
      · exact hf
      · refine ⟨hf.many, hf.last, fun w hw => ?_, ?_, hf.ops⟩
        · rcases List.mem_append.1 hw with hw | hw
          · exact hf.wait w hw
          · simp at hw; subst hw
            have h1 : d.has i = true ∧ b.length = 64 := by
              constructor
              · cases hh : d.has i with
                | true => rfl
                | false => exact absurd (.inl hh) hc
              · by_cases hb : b.length = 64
                · exact hb
                · exact absurd (.inr hb) hc
            have h2 : 0 ≤ i ∧ i < d.lasts.length := by simpa [Dk.has] using h1.1
            refine ⟨?_, h1.2⟩
            show 0 ≤ i ∧ i < d.falls.2.lasts.length
            rw [Dk.falls_len]; exact h2
        · have := h.few
          simp only [List.length_append, List.length_cons, List.length_nil]; omega
theorem WfD.last' {d : Dk} {n : Nat} {k : Nat → Bool} (h : WfD d n) : WfD (d.last k) n := by
  have key : ∀ m, m ≤ d.waits.length → ∀ b ∈ land k d.waits d.lasts m, b.length = 64 := by
    intro m
    induction m with
    | zero => intro _; exact h.last
    | succ m ih =>
      intro hm b hb
      rw [land_succ] at hb
      split at hb
      · rcases List.mem_or_eq_of_mem_set hb with hb | hb
        · exact ih (by omega) b hb
        · rw [hb]; exact (h.wait _ (nth_mem (by omega))).2
      · exact ih (by omega) b hb
  exact ⟨by show (land _ _ _ _).length ≤ 2000; rw [land_length]; exact h.many, key _ (Nat.le_refl _), fun w hw => by simp [Dk.last] at hw, by have := h.few; simp [Dk.last]; omega, h.ops⟩
theorem WfD.flush {d : Dk} {n : Nat} (h : WfD d (n + 1)) : WfD d.flush.2 n := by
  unfold Dk.flush
  split
  · exact h.less (by omega)
  · split
    · exact Dk.falls_wf h
    · exact (Dk.falls_wf h).last'
theorem write_keep {d : Dk} {i : Int} {b : List UInt8} : (d.write i b).2.keep = d.keep := by
  unfold Dk.write Dk.falls
  repeat' split
  all_goals first | rfl | simp_all [Dk.last]
theorem flush_keep {d : Dk} : d.flush.2.keep = d.keep := by
  unfold Dk.flush Dk.falls
  repeat' split
  all_goals first | rfl | simp_all [Dk.last]
theorem write_ok {d : Dk} {i : Int} {b : List UInt8} (h1 : d.down = false) (h2 : d.armed = false ∨ d.ops < d.pos) (h3 : d.has i = true) (h4 : b.length = 64) : d.write i b = (0, { d with ops := d.ops + 1, waits := d.waits ++ [⟨i, b⟩] }) := by
  have e : d.falls = (false, { d with ops := d.ops + 1 }) := by unfold Dk.falls; rw [if_pos h2]
  simp [Dk.write, h1, h3, h4, e]
theorem flush_ok {d : Dk} (h1 : d.down = false) (h2 : d.armed = false ∨ d.ops < d.pos) : d.flush = (0, ({ d with ops := d.ops + 1 } : Dk).last fun _ => true) := by
  have e : d.falls = (false, { d with ops := d.ops + 1 }) := by unfold Dk.falls; rw [if_pos h2]
  simp [Dk.flush, h1, e]
theorem over_snoc {ws : List Wr} {w : Wr} {i : Int} {b : List UInt8} : over (ws ++ [w]) i b = if w.pos = i then w.data else over ws i b := by simp [over]
theorem over_nil {i : Int} {b : List UInt8} : over [] i b = b := rfl
theorem nth_set {α : Type} [Inhabited α] {l : List α} {i j : Nat} {a : α} (h : i < l.length) : nth (l.set i a) j = if i = j then a else nth l j := by
  simp only [nth, List.getD, List.getElem?_set]
  by_cases hij : i = j
  · subst hij; simp [h]
  · simp [hij]
theorem law_DevFlushed {a b : List UInt8} {at_ : Int} : VQ cf 9 [.sl (byD a), .sl (byD b), .int .i64 at_] fun v => v = .d (.bool true) := by
  refine V_intro rfl (S_intro Try.func9 rfl rfl (Nat.le_of_ble_eq_true rfl) ?_)
  simp
  intro ha
  refine f_intro (fun k1 => ?_) (fun k1 => ?_)
  · simp [k1]
  · simp [k1]
    intro hb
    refine f_intro (fun k2 => ?_) (fun k2 => ?_)
    · simp [k2]
    · simp [k2]
      refine f_intro (fun k3 => ?_) (fun k3 => ?_)
      · simp [k3]
      · simp [k3]
        refine f_intro (fun k4 => ?_) (fun k4 => ?_)
        · simp [k4]
        · simp [k4]
          have ht : at_.toNat < 6 := by omega
          have w0 : WfD (Dk.new 6) 1000 := new_wf (by omega) (by omega)
          have h0 : (Dk.new 6).has at_ = true := by simp [Dk.has, Dk.new]; omega
          have e1 := write_ok (d := Dk.new 6) (i := at_) (b := sect a) rfl (.inl rfl) h0 (sect_length a)
          generalize hd1 : ({ Dk.new 6 with ops := (Dk.new 6).ops + 1, waits := (Dk.new 6).waits ++ [⟨at_, sect a⟩] } : Dk) = d1 at e1
          have w1 : WfD d1 999 := by have := WfD.write (i := at_) (b := sect a) w0; rwa [e1] at this
          have e2 : d1.flush = (0, ({ d1 with ops := d1.ops + 1 } : Dk).last fun _ => true) := flush_ok (by rw [← hd1]; rfl) (.inl (by rw [← hd1]; rfl))
          generalize hd2 : ({ d1 with ops := d1.ops + 1 } : Dk).last (fun _ => true) = d2 at e2
          have w2 : WfD d2 998 := by have := WfD.flush w1; rwa [e2] at this
          have hl2 : d2.lasts = (List.replicate 6 (zeros 64)).set at_.toNat (sect a) := by rw [← hd2, ← hd1]; rfl
          have h2 : d2.has at_ = true := by simp [Dk.has, hl2]; omega
          have e3 := write_ok (d := d2) (i := at_) (b := sect b) (by rw [← hd2, ← hd1]; rfl) (.inl (by rw [← hd2, ← hd1]; rfl)) h2 (sect_length b)
          generalize hd3 : ({ d2 with ops := d2.ops + 1, waits := d2.waits ++ [⟨at_, sect b⟩] } : Dk) = d3 at e3
          have w3 : WfD d3 997 := by have := WfD.write (i := at_) (b := sect b) w2; rwa [e3] at this
          have hl3 : d3.lasts = d2.lasts := by rw [← hd3]
          have h3 : d3.has at_ = true := by simp [Dk.has, hl3, hl2]; omega
          have e4 : d3.read at_ = sect b := by
            have : d3.waits = [⟨at_, sect b⟩] := by rw [← hd3, ← hd2, ← hd1]; rfl
            simp [Dk.read, h3, this, over]
          have e5 : d3.restart.read at_ = sect a := by
            have q1 : d3.restart.has at_ = true := h3
            have q2 : d3.restart.waits = [] := rfl
            have q3 : d3.restart.lasts = d2.lasts := hl3
            simp only [Dk.read, q1, if_true, q2, over_nil, q3, hl2]
            rw [nth_set (by simpa using ht), if_pos rfl]
          have kp1 : d1.keep.length ≤ 1000000 := by rw [← hd1]; exact Nat.zero_le _
          have kp2 : d2.keep.length ≤ 1000000 := by rw [← hd2, ← hd1]; exact Nat.zero_le _
          refine dev_New (fun _ _ S1 id hid hI hK => ?_) (fun h => absurd ⟨by decide, by decide⟩ h)
          simp
          refine law1_sector ?_
          simp
          refine dev_Write (d := Dk.new 6) (n := 999) hI w0 (by decide) fun S2 hI2 _ => ?_
          rw [e1] at hI2
          simp [e1]
          refine dev_Flush (d := d1) (n := 998) hI2 w1 kp1 fun S3 hI3 _ => ?_
          rw [e2] at hI3
          simp [e2]
          refine law1_sector ?_
          simp
          refine dev_Write (d := d2) (n := 997) hI3 w2 kp2 fun S4 hI4 _ => ?_
          rw [e3] at hI4
          simp [e3]
          refine dev_Read (d := d3) (n := 997) hI4 w3 fun v S5 hK5 hv => ?_
          have hv2 : v = .d (.sl (byD (sect b))) := by
            rcases hv with hv | ⟨_, hv⟩
            · rw [e4] at hv; exact hv
            · have := sect_length b
              rw [← e4, hv] at this; cases this
          subst hv2
          simp
          have hI5 := hI4.kept hK5
          refine dev_Restart (d := d3) hI5 fun S6 hI6 _ => ?_
          simp
          refine X_drawM [0, 1, 3, 7, 15, 31, 63, 127, 255, 511, 1023, 2047, 2047, 6143, 14335, 32767, 65535, 131071, 262143, 262143, 1048575, 2097151, 262143, 6291455, 14680063, 33554431, 67108863, 134217727, 268435455, 536870911, 1073741823] (by decide +kernel) (by decide +kernel) ?_
          simp
          refine law1_sector ?_
          simp
          have hid6 := hI6.1
          refine sh_Read (d := d3.restart) (n := 997) (hI6.of rfl (by simp; omega)) (w3.restart (by omega)) fun S7 hI7 ho7 hn7 hc7 he7 => ?_
          simp [hn7, hc7, e5]
          refine law1_sector ?_
          simp
          refine law1_known ?_
          simp
end Go.VM
