/- Chapter 3: a sector one byte of which is bent. No condition. -/
import Derived.Test.YtmahmajoelmmeaaNk
namespace Go.VM
open Go.Proofs
set_option maxRecDepth 4000
attribute [-simp] Int.not_lt Int.not_le Nat.not_lt Nat.not_le
theorem placesAt_low {b : List UInt8} {l : List Int} {k : Nat} (hk : k < 43) (hb : b.length = 64) : ∀ i, i ≤ 10 → nth (placesAt b l i) k = nth b k := by
  intro i
  induction i with
  | zero => intro _; rfl
  | succ i ih =>
    intro hi
    have hl := placesAt_length (l := l) hb i (by omega)
    rw [placesAt_succ, ← ih (by omega)]
    simp only [nth, List.getD]
    rw [put_get (by simp [two]; omega), if_neg (by omega)]
theorem isName_ne {s : List UInt8} (h : isName s = true) : 1 ≤ s.length ∧ s.length ≤ 40 ∧ nth s 0 ≠ 0 := by
  simp only [isName, Bool.and_eq_true, decide_eq_true_eq] at h
  obtain ⟨⟨h1, h2⟩, h3⟩ := h
  have hl : 1 ≤ s.length := by
    cases s with
    | nil => exact absurd rfl h2
    | cons c s => simp
  refine ⟨hl, h3, fun e => ?_⟩
  have := all_nth.1 h1 0 hl
  rw [e] at this
  cases this
theorem ndIs_parts {x : Nd} (h : ndIs x = true) : isName x.name = true ∧ 0 ≤ x.size ∧ x.size ≤ 600 ∧ x.places.length ≤ 10 := by
  simp only [ndIs, nodeIs, Bool.and_eq_true, decide_eq_true_eq] at h
  obtain ⟨⟨⟨⟨⟨h1, h2⟩, h3⟩, h4⟩, h5⟩, h6⟩ := h
  refine ⟨h1, h2, h3, ?_⟩
  have := (need_le h2 h3).2
  omega
theorem ndBytes_len {x : Nd} (h : ndIs x = true) : (ndBytes x).length = 64 := by
  obtain ⟨h1, h2, h3, h4⟩ := ndIs_parts h
  obtain ⟨n1, n2, n3⟩ := isName_ne h1
  have e : ndBytes x = placesAt (put (put ((zeros 64).set 0 (u8 x.name.length)) 1 x.name) 41 (two x.size)) x.places x.places.length := by
    have h' : nodeIs x.name x.size x.places = true := h
    simp only [ndBytes, nodeBytes, h', if_true]
  have e1 : ((zeros 64).set 0 (u8 x.name.length)).length = 64 := by simp
  have e2 : (put ((zeros 64).set 0 (u8 x.name.length)) 1 x.name).length = 64 := by rw [put_length _ _ _ (by omega)]; exact e1
  rw [e, placesAt_length (by rw [put_length _ _ _ (by omega)]; exact e2) _ h4]
theorem ndBytes_low {x : Nd} (h : ndIs x = true) : nth (ndBytes x) 0 ≠ 0 ∧ nth (ndBytes x) 1 ≠ 0 := by
  obtain ⟨h1, h2, h3, h4⟩ := ndIs_parts h
  obtain ⟨n1, n2, n3⟩ := isName_ne h1
  have e : ndBytes x = placesAt (put (put ((zeros 64).set 0 (u8 x.name.length)) 1 x.name) 41 (two x.size)) x.places x.places.length := by
    have h' : nodeIs x.name x.size x.places = true := h
    simp only [ndBytes, nodeBytes, h', if_true]
  have e1 : ((zeros 64).set 0 (u8 x.name.length)).length = 64 := by simp
  have e2 : (put ((zeros 64).set 0 (u8 x.name.length)) 1 x.name).length = 64 := by rw [put_length _ _ _ (by omega)]; exact e1
  have e3 : (put (put ((zeros 64).set 0 (u8 x.name.length)) 1 x.name) 41 (two x.size)).length = 64 := by rw [put_length _ _ _ (by omega)]; exact e2
  have g : ∀ k, k < 41 → nth (ndBytes x) k = ((put ((zeros 64).set 0 (u8 x.name.length)) 1 x.name)[k]?).getD default := by
    intro k hk
    rw [e, placesAt_low (by omega) e3 _ h4]
    simp only [nth, List.getD]
    rw [put_get (by simp [two]; omega), if_neg (by omega)]
  constructor
  · rw [g 0 (by omega), put_get (by omega), if_neg (by omega), List.getElem?_set]
    simp
    intro hz
    have : ((u8 (x.name.length : Int)).toNat : Int) = 0 := by rw [hz]; rfl
    rw [u8_val] at this
    omega
  · rw [g 1 (by omega), put_get (by omega), if_pos (by omega), nth_get (by omega)]
    simpa using n3
theorem bent {x : Nd} {k : Nat} {y : UInt8} (h : ndIs x = true) (hk : k < 64) (hy : y ≠ nth (ndBytes x) k) :
    (nodeRead ((ndBytes x).set k y)).2.1 = false ∧ ((nodeRead ((ndBytes x).set k y)).2.2 = true → (nodeRead ((ndBytes x).set k y)).1 ≠ x) := by
  have hl := ndBytes_len h
  obtain ⟨z0, z1⟩ := ndBytes_low h
  have hz : ¬ (ndBytes x).set k y = zeros 64 := by
    intro e
    have q : ∀ j : Nat, ((ndBytes x).set k y)[j]? = (zeros 64)[j]? := fun j => by rw [e]
    by_cases h0 : k = 0
    · have := q 1
      rw [List.getElem?_set, if_neg (by omega), nth_get (by omega)] at this
      simp [zeros] at this
      exact z1 this
    · have := q 0
      rw [List.getElem?_set, if_neg h0, nth_get (by omega)] at this
      simp [zeros] at this
      exact z0 this
  unfold nodeRead
  rw [if_neg hz]
  split
  · exact ⟨rfl, fun e => by cases e⟩
  · split
    · rename_i h1
      refine ⟨rfl, fun _ e => ?_⟩
      simp only at e
      rw [e] at h1
      have : ((ndBytes x).set k y)[k]? = (ndBytes x)[k]? := by rw [← h1]
      rw [List.getElem?_set, if_pos rfl, if_pos (by omega), nth_get (by omega)] at this
      exact hy (by simpa using this)
    · exact ⟨rfl, fun e => by cases e⟩
theorem xor_ne {a b : UInt8} (h : b ≠ 0) : a ^^^ b ≠ a := by
  intro e
  apply h
  have : a ^^^ (a ^^^ b) = a ^^^ a := by rw [e]
  rw [← UInt8.xor_assoc] at this
  simpa using this
theorem u8_xor (a b : UInt8) : u8 ((a.toNat % 2 ^ IntKind.u8.bits ^^^ b.toNat % 2 ^ IntKind.u8.bits : Nat) : Int) = a ^^^ b := by
  have e : (2 : Nat) ^ IntKind.u8.bits = 256 := rfl
  have h1 := a.toNat_lt
  have h2 := b.toNat_lt
  rw [e, Nat.mod_eq_of_lt h1, Nat.mod_eq_of_lt h2]
  apply UInt8.toNat_inj.1
  rw [UInt8.toNat_xor]
  have hv := u8_val ((a.toNat ^^^ b.toNat : Nat) : Int)
  have hx := Nat.xor_lt_two_pow (n := 8) h1 h2
  omega
theorem law_NodeTurned {s : List UInt8} {l : List Int} {at_ : Int} {by_ : UInt8} : VQ cf 4 [.str s, .sl (inD l), .int .i64 at_, .int .u8 by_.toNat] fun v => v = .d (.bool true) := by
  refine V_intro rfl (S_intro Try.func4 rfl rfl (Nat.le_of_ble_eq_true rfl) ?_)
  simp
  intro hl hs
  refine f_intro (fun k1 => ?_) (fun k1 => ?_)
  · simp [k1]
  · simp [k1, hl]
    refine f_intro (fun k2 => ?_) (fun k2 => ?_)
    · simp [k2]
    · have w1 : IntKind.i64.wrap (64 * (l.length : Int)) = 64 * l.length := wrap_i64 (by omega) (by omega)
      simp [k2, w1]
      refine f_intro (fun k3 => ?_) (fun k3 => ?_)
      · simp [k3]
      · simp [k3]
        refine law3_of (x := ⟨s, 64 * l.length, l⟩) ?_
        simp
        refine ref3_IsN (by simp; omega) ?_
        simp
        refine f_intro (fun k4 => ?_) (fun k4 => ?_)
        · simp [k4]
        · simp [k4]
          refine law3_of (x := ⟨s, 64 * l.length, l⟩) ?_
          simp
          refine ref3_BytesSN (by simp; omega) fun v S' hK hv => ?_
          have h4 : ndIs ⟨s, 64 * l.length, l⟩ = true := by simpa using k4
          have hlen := ndBytes_len h4
          generalize hb : ndBytes ⟨s, 64 * l.length, l⟩ = b at hv hlen
          rcases hv with ⟨rfl, hv⟩ | ⟨id, i1, i2, rfl, i4⟩
          · rw [← byD_length, hv] at hlen; cases hlen
          · have hS0 := hK.1 0 (by simp)
            simp at hS0
            have i0 : ¬ 0 = id := by simp at i1; omega
            have i3 : ¬ 0 = S'.next := by omega
            obtain ⟨k, hk, ek⟩ : ∃ k : Nat, k < 64 ∧ IntKind.i64.wrap (((at_ % 2 ^ IntKind.i64.bits).toNat &&& 63 % 2 ^ IntKind.i64.bits : Nat) : Int) = (k : Int) := by
              have e : 63 % 2 ^ IntKind.i64.bits = 63 := rfl
              rw [e]
              have := Nat.and_le_right (n := (at_ % 2 ^ IntKind.i64.bits).toNat) (m := 63)
              exact ⟨_, by omega, wrap_i64 (by omega) (by omega)⟩
            simp [hlen, i4, ek, hk]
            refine ⟨by omega, ?_⟩
            rw [u8_xor]
            have hy : nth b k ^^^ by_ ≠ nth b k := xor_ne (fun e => k3 (by rw [e]; rfl))
            obtain ⟨hb1, hb2⟩ := bent (k := k) (y := nth b k ^^^ by_) h4 hk (by rw [hb]; exact hy)
            rw [hb] at hb1 hb2
            refine node_Read ?_
            generalize nodeRead (b.set k (nth b k ^^^ by_)) = r at hb1 hb2
            obtain ⟨x, free, ok⟩ := r
            simp only at hb1 hb2
            subst hb1
            simp [readD, ndD]
            refine X_draw (by decide) ?_
            simp
            cases ok with
            | false =>
              simp
              exact law3_known (by simp)
            | true =>
              have hne : ¬ x = ⟨s, 64 * l.length, l⟩ := hb2 rfl
              simp
              refine law3_of (x := x) ?_
              simp [ndD, hS0, i0, i3]
              refine law3_of (x := ⟨s, 64 * l.length, l⟩) ?_
              simp [ndD]
              refine ref3_Same (x := x) (y := ⟨s, 64 * l.length, l⟩) ?_
              simp [hne]
              exact law3_known (by simp)
end Go.VM
