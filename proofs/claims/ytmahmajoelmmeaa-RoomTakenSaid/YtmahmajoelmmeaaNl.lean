/- Chapter 3: nodes held against each other, the known example. No condition. -/
import Derived.Test.YtmahmajoelmmeaaRd
namespace Go.VM
open Go.Proofs
set_option maxRecDepth 4000
attribute [-simp] Int.not_lt Int.not_le Nat.not_lt Nat.not_le
deriving instance DecidableEq for Nd
theorem wrap_two (a b : UInt8) : IntKind.i64.wrap (IntKind.i64.wrap ((a.toNat : Int) * 256) + b.toNat) = (a.toNat : Int) * 256 + b.toNat := by
  have h1 := a.toNat_lt
  have h2 := b.toNat_lt
  rw [wrap_i64 (n := (a.toNat : Int) * 256) (by omega) (by omega), wrap_i64 (by omega) (by omega)]
theorem ref3_Read {b : List UInt8} {Q : LV → Prop} (h : Q (readD (nodeRead b))) : VQ cf 20 [.sl (byD b)] Q := by
  refine V_intro rfl (S_intro Try.func20 rfl rfl (Nat.le_of_ble_eq_true rfl) ?_)
  simp
  intro hb
  refine f_intro (fun k1 => ?_) (fun k1 => ?_)
  · simp [k1]
    refine X_draw (by decide) ?_
    simp
    refine ⟨by decide, f_intro (fun k3 => ?_) (fun k3 => ?_)⟩
    · simp [k3]
      subst k3
      exact h
    · simp [k3]
      refine X_draw (by decide) ?_
      simp [k1]
      have hm : ((nth b 41).toNat : Int) * 256 + (nth b 42).toNat = numAt b 41 := by simp [numAt]
      have hw : IntKind.i64.wrap (((nth b 41).toNat : Int) * 256) = ((nth b 41).toNat : Int) * 256 := wrap_i64 (by omega) (by have := (nth b 41).toNat_lt; omega)
      have hm0 : 0 ≤ numAt b 41 ∧ numAt b 41 ≤ 65535 := by
        have q1 := (nth b 41).toNat_lt
        have q2 := (nth b (41 + 1)).toNat_lt
        unfold numAt; omega
      have hw2 : IntKind.i64.wrap (numAt b 41) = numAt b 41 := wrap_i64 (by omega) (by omega)
      refine ⟨by decide, f_intro (fun k2 => ?_) (fun k2 => ?_)⟩
      · simp [k2]
        simpa [nodeRead, readD, ndD, Nd.nil, show 40 < (nth b 0).toNat from by omega, inD_nil] using h
      · have hb0 : (nth b 0).toNat ≤ 40 := by omega
        simp [hw, hm, hw2, k2]
        refine ref3_Need (by omega) ?_
        simp
        refine f_intro (fun k4 => ?_) (fun k4 => ?_)
        · simp [k4]
          have hbig : 600 < numAt b 41 := by
            unfold need at k4
            split at k4
            · omega
            · rw [Int.tdiv_eq_ediv_of_nonneg (by omega)] at k4; omega
          rw [nodeRead_big (by omega) k3 hb0 hbig] at h
          simpa [readD, ndD, Nd.nil, inD_nil] using h
        · have w0 : IntKind.i64.wrap (1 + ((nth b 0).toNat : Int)) = 1 + (nth b 0).toNat := wrap_i64 (by omega) (by omega)
          have e2 : (1 + ((nth b 0).toNat : Int)).toNat - 1 = (nth b 0).toNat := by omega
          have hn : 0 ≤ need (numAt b 41) ∧ need (numAt b 41) ≤ 10 := by
            refine ⟨?_, by omega⟩
            unfold need
            split
            · omega
            · rw [Int.tdiv_eq_ediv_of_nonneg (by omega)]; omega
          simp [k4, k1, w0, e2]
          refine ⟨by omega, ?_⟩
          refine X_loop (fun (i : Nat) e S => i ≤ (need (numAt b 41)).toNat ∧ 1601 < S.next ∧ e 0 = .d (.sl (byD b)) ∧ e 2 = .ptr 0 0 ∧ e 5 = .ptr 1601 0 ∧ e 6 = .d (.int .i64 i) ∧
            S.obj 0 = .cells [.d (.str []), .d (.int .i64 0), .lit []] ∧
            ∃ c, S.obj 1601 = .cells [.d (.str (b.tail.take (nth b 0).toNat)), .d (.int .i64 (numAt b 41)), c] ∧ (i = 0 ∧ c = .lit [] ∨ ∃ v, 0 < i ∧ c = .own v 1 (inD (plAt b i)) false)) (fun i => (need (numAt b 41)).toNat - i) 0 ?_ ?_
          · simp
          · intro i e S hI
            obtain ⟨h1, h2, h3, h4, h5, h6, h9, c, h7, h8⟩ := hI
            simp [h5, h6, h7]
            refine ref3_Need (by omega) ?_
            simp
            refine f_intro (fun j1 => ?_) (fun j1 => ?_)
            · have w1 : IntKind.i64.wrap (2 * (i : Int)) = 2 * i := wrap_i64 (by omega) (by omega)
              have w2 : IntKind.i64.wrap (43 + 2 * (i : Int)) = 43 + 2 * i := wrap_i64 (by omega) (by omega)
              have w4 : IntKind.i64.wrap (44 + 2 * (i : Int)) = 44 + 2 * i := wrap_i64 (by omega) (by omega)
              have w3 : (43 + 2 * (i : Int)).toNat = 43 + 2 * i := by omega
              have w5 : (44 + 2 * (i : Int)).toNat = 43 + 2 * i + 1 := by omega
              simp [h6]
              refine X_draw (by decide) ?_
              rcases h8 with ⟨rfl, rfl⟩ | ⟨v, hi, rfl⟩
              · simp [h3, h5, h6, h7, k1]
                refine ⟨by decide, 1, ⟨by omega, h4, rfl, h9, by omega, ?_⟩, by omega⟩
                simp [plAt, inD, numAt, wrap_two]
              · simp [h3, h5, h6, h7, w1, w2, w3, w4, w5, k1]
                refine ⟨by omega, by omega, by rw [plAt_length]; omega, by decide, i + 1, ⟨by omega, h4, wrap_i64 (by omega) (by omega), h9, ?_⟩, by omega⟩
                simp [plAt_succ, inD, numAt, wrap_two]
            · have hi : (i : Int) = need (numAt b 41) := by omega
              have hi' : (need (numAt b 41)).toNat = i := by omega
              have hx : nodeOf b = ⟨b.tail.take (nth b 0).toNat, numAt b 41, plAt b i⟩ := by simp [nodeOf, plAt, hi']
              simp
              refine X_draw (by decide) ?_
              rcases h8 with ⟨rfl, rfl⟩ | ⟨v, hi, rfl⟩
              · replace hx : nodeOf b = ⟨b.tail.take (nth b 0).toNat, numAt b 41, []⟩ := hx
                simp [h3, h5, h7]
                refine ShD_0 rfl rfl ?_
                rw [small0]
                refine ref3_BytesSN (x := ⟨_, numAt b 41, []⟩) (by simp; omega) fun v S' hK hv => hv.close ?_
                rw [← hx]
                simp [h3, h5]
                refine f_intro (fun k5 => ?_) (fun k5 => ?_)
                · simp only [hx] at k5
                  have hr : nodeRead b = (nodeOf b, false, true) := by simp [nodeRead, k3, show b.length = 64 from by omega, show ¬ 40 < (nth b 0).toNat from by omega, hx, k5]
                  rw [hr, hx] at h
                  simp [k5, h4, h5, h7, h9]
                  exact h
                · simp only [hx] at k5
                  have hr : nodeRead b = (.nil, false, false) := by simp [nodeRead, k3, show b.length = 64 from by omega, show ¬ 40 < (nth b 0).toNat from by omega, hx, k5]
                  rw [hr] at h
                  simp [hx, k5, h4, h5, h7, h9]
                  exact h
              · simp [h3, h5, h7, plAt_length]
                refine ShD_0 rfl rfl ?_
                rw [small0]
                refine ref3_BytesSN (x := ⟨_, numAt b 41, plAt b i⟩) (by simp; omega) fun v S' hK hv => hv.close ?_
                rw [← hx]
                simp [h3, h5]
                refine ⟨by decide, f_intro (fun k5 => ?_) (fun k5 => ?_)⟩
                · simp only [hx] at k5
                  have hr : nodeRead b = (nodeOf b, false, true) := by simp [nodeRead, k3, show b.length = 64 from by omega, show ¬ 40 < (nth b 0).toNat from by omega, hx, k5]
                  rw [hr, hx] at h
                  simp [k5, h4, h5, h7, h9]
                  exact h
                · simp only [hx] at k5
                  have hr : nodeRead b = (.nil, false, false) := by simp [nodeRead, k3, show b.length = 64 from by omega, show ¬ 40 < (nth b 0).toNat from by omega, hx, k5]
                  rw [hr] at h
                  simp [hx, k5, h4, h5, h7, h9]
                  exact h
  · simp [k1]
    simpa [nodeRead, readD, ndD, Nd.nil, show ¬ b.length = 64 from by omega, inD_nil] using h
theorem law3_of {x : Nd} {Q : LV → Prop} (h : Q (.d (ndD x))) : VQ cf 22 [ndD x] Q := by
  refine V_intro rfl (S_intro Try.func22 rfl rfl (Nat.le_of_ble_eq_true rfl) ?_)
  simp [ndD]
  exact h
theorem ref3_Same {x y : Nd} {Q : LV → Prop} (h : Q (.d (.bool (decide (x = y))))) : VQ cf 21 [ndD x, ndD y] Q := by
  refine V_intro rfl (S_intro Try.func21 rfl rfl (Nat.le_of_ble_eq_true rfl) ?_)
  obtain ⟨s, n, l⟩ := x
  obtain ⟨r, m, k⟩ := y
  simp [ndD]
  refine f_intro (fun k1 => ?_) (fun k1 => ?_)
  · simp [k1]
    refine f_intro (fun k2 => ?_) (fun k2 => ?_)
    · simp [k2]
      intro hl hk
      refine f_intro (fun k3 => ?_) (fun k3 => ?_)
      · simp [k3]
        subst k1 k2
        have k3' : l.length = k.length := by omega
        refine X_loop (fun (i : Nat) e S => i ≤ l.length ∧ e 2 = .ptr 0 0 ∧ e 3 = .ptr 1 0 ∧ e 5 = .d (.int .i64 i) ∧ S.obj 0 = .cells [.d (.str s), .d (.int .i64 n), .d (.sl (inD l))] ∧
          S.obj 1 = .cells [.d (.str s), .d (.int .i64 n), .d (.sl (inD k))] ∧ ∀ j < i, nth l j = nth k j) (fun i => l.length - i) 0 ?_ ?_
        · simp
        · intro i e S hI
          obtain ⟨h1, h2, h3, h4, h5, h6, h7⟩ := hI
          simp [h2, h4, h5]
          intro _
          refine f_intro (fun j1 => ?_) (fun j1 => ?_)
          · simp
            refine X_draw (by decide) ?_
            simp [h2, h3, h4, h5, h6]
            refine ⟨by omega, by omega, f_intro (fun j2 => ?_) (fun j2 => ?_)⟩
            · simp [j2, h2, h3, h4, h5, h6]
              refine ⟨i + 1, ⟨by omega, wrap_i64 (by omega) (by omega), fun j hj => ?_⟩, by omega⟩
              by_cases hji : j = i
              · subst hji; exact j2
              · exact h7 j (by omega)
            · simp [j2]
              have hne : ¬ l = k := fun e => j2 (by rw [e])
              simpa [hne] using h
          · have hi : i = l.length := by omega
            subst hi
            simp
            have heq : l = k := by
              apply List.ext_getElem? 
              intro j
              by_cases hj : j < l.length
              · rw [nth_get hj, nth_get (by omega), h7 j hj]
              · rw [nth_none hj, nth_none (by omega)]
            simpa [heq] using h
      · simp [k3]
        have hne : ¬ l = k := fun e => k3 (by rw [e])
        simpa [k1, k2, hne] using h
    · simp [k2]
      simpa [k2] using h
  · simp [k1]
    simpa [k1] using h
theorem law3_known {Q : LV → Prop} (h : Q (.d (.bool true))) : VQ cf 23 [] Q := by
  refine V_intro rfl (S_intro Try.func23 rfl rfl (Nat.le_of_ble_eq_true rfl) ?_)
  simp
  obtain ⟨kb, e0, e1, e2, e3, e4⟩ : ∃ kb, ndBytes ⟨[97], 65, [50, 300]⟩ = kb ∧ kb.length = 64 ∧ nth kb 0 = 1 ∧ nth kb 46 = 44 ∧ nodeRead kb = (⟨[97], 65, [50, 300]⟩, false, true) :=
    ⟨_, rfl, by decide, by decide, by decide, by decide⟩
  have e5 : nodeRead (zeros 64) = (.nil, true, true) := by decide
  refine node_BytesN (x := ⟨[97], 65, [50, 300]⟩) (by decide) ?_
  rw [e0]
  simp
  refine node_Read ?_
  simp [e4, readD, ndD]
  refine node_Read ?_
  simp [e5, readD, ndD, Nd.nil]
  refine node_Need (by decide) ?_
  simp [e1, e2, e3, show need 65 = 2 from by decide]
  exact h
theorem law_NodeReads {b : List UInt8} : VQ cf 3 [.sl (byD b)] fun v => v = .d (.bool true) := by
  refine V_intro rfl (S_intro Try.func3 rfl rfl (Nat.le_of_ble_eq_true rfl) ?_)
  simp
  intro hb
  refine f_intro (fun k1 => ?_) (fun k1 => ?_)
  · simp [k1]
  · simp [k1]
    refine node_Read ?_
    simp [readD, ndD]
    refine ref3_Read ?_
    simp [readD, ndD]
    refine X_draw (by decide) ?_
    simp
    refine law3_of (x := (nodeRead b).1) ?_
    simp [ndD]
    refine ref3_Same (x := (nodeRead b).1) (y := (nodeRead b).1) ?_
    simp
    refine law3_known ?_
    simp
end Go.VM
