/- Chapter 3: nodes held against each other, the known example. No condition. -/
import Derived.Test.YtmahmajoelmmeaaGreatRd
section
namespace Go.VM
open Go.Proofs
set_option maxRecDepth 4000
attribute [-simp] Int.not_lt Int.not_le Nat.not_lt Nat.not_le
deriving instance DecidableEq for Nd
theorem wrap_two (a b : UInt8) : IntKind.i64.wrap (IntKind.i64.wrap ((a.toNat : Int) * 256) + b.toNat) = (a.toNat : Int) * 256 + b.toNat := by
 have h1 := a.toNat_lt;have h2 := b.toNat_lt;rw [wrap_i64 (n := (a.toNat : Int) * 256) (by omega) (by omega), wrap_i64 (by omega) (by omega)]
theorem ref3_Read {b : List UInt8} {Q : LV → Prop} (h : Q (readD (nodeRead b))) : VQ cf 50 [.sl (byD b)] Q := by
 refine V_intro rfl (S_intro Tryz.func50 rfl rfl (Nat.le_of_ble_eq_true rfl) ?_);simp;intro hb;refine f_intro (fun k1 => ?_) (fun k1 => ?_)
 ·simp [k1];refine X_draw (by decide) ?_
  simp;refine ⟨by decide, f_intro (fun k3 => ?_) (fun k3 => ?_)⟩
  ·simp [k3];subst k3;exact h
  ·simp [k3];refine X_draw (by decide) ?_
   simp [k1];have hm : ((nth b 41).toNat : Int) * 256 + (nth b 42).toNat = numAt b 41 := by simp [numAt]
   have hw : IntKind.i64.wrap (((nth b 41).toNat : Int) * 256) = ((nth b 41).toNat : Int) * 256 := wrap_i64 (by omega) (by have := (nth b 41).toNat_lt; omega)
   have hm0 : 0 ≤ numAt b 41 ∧ numAt b 41 ≤ 65535 := by
    have q1 := (nth b 41).toNat_lt;have q2 := (nth b (41 + 1)).toNat_lt;unfold numAt; omega
   have hw2 : IntKind.i64.wrap (numAt b 41) = numAt b 41 := wrap_i64 (by omega) (by omega)
   refine ⟨by decide, f_intro (fun k2 => ?_) (fun k2 => ?_)⟩
   ·simp [k2];simpa [nodeRead, readD, ndD, Nd.nil, show 40 < (nth b 0).toNat from by omega, inD_nil] using h
   ·have hb0 : (nth b 0).toNat ≤ 40 := by omega
    simp [hw, hm, hw2, k2];refine ref3_Need (by omega) ?_
    simp;refine f_intro (fun k4 => ?_) (fun k4 => ?_)
    ·simp [k4];have hbig : 600 < numAt b 41 := by
      unfold need at k4;split at k4
      ·omega
      ·rw [Int.tdiv_eq_ediv_of_nonneg (by omega)] at k4; omega
     rw [nodeRead_big (by omega) k3 hb0 hbig] at h
     simpa [readD, ndD, Nd.nil, inD_nil] using h
    ·have w0 : IntKind.i64.wrap (1 + ((nth b 0).toNat : Int)) = 1 + (nth b 0).toNat := wrap_i64 (by omega) (by omega)
     have e2 : (1 + ((nth b 0).toNat : Int)).toNat - 1 = (nth b 0).toNat := by omega
     have hn : 0 ≤ need (numAt b 41) ∧ need (numAt b 41) ≤ 10 := by
      refine ⟨?_, by omega⟩
      unfold need;split
      ·omega
      ·rw [Int.tdiv_eq_ediv_of_nonneg (by omega)]; omega
     simp [k4, k1, w0, e2];refine ⟨by omega, ?_⟩
     refine X_loop (fun (i : Nat) e S => i ≤ (need (numAt b 41)).toNat ∧ 1601 < S.next ∧ e 0 = .d (.sl (byD b)) ∧ e 2 = .ptr 0 0 ∧ e 5 = .ptr 1601 0 ∧ e 6 = .d (.int .i64 i) ∧
      S.obj 0 = .cells [.d (.str []), .d (.int .i64 0), .lit []] ∧
      ∃ c, S.obj 1601 = .cells [.d (.str (b.tail.take (nth b 0).toNat)), .d (.int .i64 (numAt b 41)), c] ∧ (i = 0 ∧ c = .lit [] ∨ ∃ v, 0 < i ∧ c = .own v 1 (inD (plAt b i)) false)) (fun i => (need (numAt b 41)).toNat - i) 0 ?_ ?_
     ·simp
     ·intro i e S hI;obtain ⟨h1, h2, h3, h4, h5, h6, h9, c, h7, h8⟩ := hI;simp [h5, h6, h7];refine ref3_Need (by omega) ?_
      simp;refine f_intro (fun j1 => ?_) (fun j1 => ?_)
      ·have w1 : IntKind.i64.wrap (2 * (i : Int)) = 2 * i := wrap_i64 (by omega) (by omega)
       have w2 : IntKind.i64.wrap (43 + 2 * (i : Int)) = 43 + 2 * i := wrap_i64 (by omega) (by omega)
       have w4 : IntKind.i64.wrap (44 + 2 * (i : Int)) = 44 + 2 * i := wrap_i64 (by omega) (by omega)
       have w3 : (43 + 2 * (i : Int)).toNat = 43 + 2 * i := by omega
       have w5 : (44 + 2 * (i : Int)).toNat = 43 + 2 * i + 1 := by omega
       simp;refine X_draw (by decide) ?_
       rcases h8 with ⟨rfl, rfl⟩ | ⟨v, hi, rfl⟩
       ·simp [h3, h5, h6, h7, k1];refine ⟨by decide, 1, ⟨by omega, h4, rfl, h9, by omega, ?_⟩, by omega⟩
        simp [plAt, inD, numAt, wrap_two]
       ·simp [h3, h5, h6, h7, w1, w2, w3, w4, w5, k1];refine ⟨by omega, by omega, by rw [plAt_length]; omega, by decide, i + 1, ⟨by omega, h4, wrap_i64 (by omega) (by omega), h9, ?_⟩, by omega⟩
        simp [plAt_succ, inD, numAt, wrap_two]
      ·have hi : (i : Int) = need (numAt b 41) := by omega
       have hi' : (need (numAt b 41)).toNat = i := by omega
       have hx : nodeOf b = ⟨b.tail.take (nth b 0).toNat, numAt b 41, plAt b i⟩ := by simp [nodeOf, plAt, hi']
       simp;refine X_draw (by decide) ?_
       rcases h8 with ⟨rfl, rfl⟩ | ⟨v, hi, rfl⟩
       ·replace hx : nodeOf b = ⟨b.tail.take (nth b 0).toNat, numAt b 41, []⟩ := hx;simp [h5, h7];refine ShD_0 rfl rfl ?_;rw [small0];refine ref3_BytesSN (x := ⟨_, numAt b 41, []⟩) (by simp; omega) fun v S' hK hv => hv.close ?_
        rw [← hx];simp [h3];refine f_intro (fun k5 => ?_) (fun k5 => ?_)
        ·simp only [hx] at k5;have hr : nodeRead b = (nodeOf b, false, true) := by simp [nodeRead, k3, show b.length = 64 from by omega, show ¬ 40 < (nth b 0).toNat from by omega, hx, k5]
         rw [hr, hx] at h;simp [h4, h5, h7, h9];exact h
        ·simp only [hx] at k5;have hr : nodeRead b = (.nil, false, false) := by simp [nodeRead, k3, show b.length = 64 from by omega, show ¬ 40 < (nth b 0).toNat from by omega, hx, k5]
         rw [hr] at h;simp [hx, k5, h4, h9];exact h
       ·simp [h5, h7, plAt_length];refine ShD_0 rfl rfl ?_;rw [small0];refine ref3_BytesSN (x := ⟨_, numAt b 41, plAt b i⟩) (by simp; omega) fun v S' hK hv => hv.close ?_
        rw [← hx];simp [h3];refine ⟨by decide, f_intro (fun k5 => ?_) (fun k5 => ?_)⟩
        ·simp only [hx] at k5;have hr : nodeRead b = (nodeOf b, false, true) := by simp [nodeRead, k3, show b.length = 64 from by omega, show ¬ 40 < (nth b 0).toNat from by omega, hx, k5]
         rw [hr, hx] at h;simp [h4, h5, h9];exact h
        ·simp only [hx] at k5;have hr : nodeRead b = (.nil, false, false) := by simp [nodeRead, k3, show b.length = 64 from by omega, show ¬ 40 < (nth b 0).toNat from by omega, hx, k5]
         rw [hr] at h;simp [hx, k5, h4, h9];exact h
 ·simp [k1];simpa [nodeRead, readD, ndD, Nd.nil, show ¬ b.length = 64 from by omega, inD_nil] using h
end Go.VM
end
section
namespace Go.VM
open Go.Proofs
set_option maxRecDepth 4000
attribute [-simp] Int.not_lt Int.not_le Nat.not_lt Nat.not_le
def ndIs (x : Nd) : Bool := nodeIs x.name x.size x.places
theorem node_IsN {x : Nd} {Q : LV → Prop} (hn : x.size ≤ 9223372036854775807) (h : Q (.d (.bool (ndIs x)))) : VQ cf 78 [ndD x] Q := node_Is hn h
theorem ref3_IsN {x : Nd} {Q : LV → Prop} (hn : x.size ≤ 9223372036854775807) (h : Q (.d (.bool (ndIs x)))) : VQ cf 94 [ndD x] Q := ref3_Is hn h
end Go.VM
end
section
namespace Go.VM
open Go.Proofs
set_option maxRecDepth 4000
attribute [-simp] Int.not_lt Int.not_le Nat.not_lt Nat.not_le
theorem placesAt_low {b : List UInt8} {l : List Int} {k : Nat} (hk : k < 43) (hb : b.length = 64) : ∀ i, i ≤ 10 → nth (placesAt b l i) k = nth b k := by
 intro i
 induction i with
 | zero => intro _; rfl
 | succ i ih =>
  intro hi;have hl := placesAt_length (l := l) hb i (by omega)
  rw [placesAt_succ, ← ih (by omega)]
  simp only [nth, List.getD];rw [put_get (by simp [two]; omega), if_neg (by omega)]
theorem isName_ne {s : List UInt8} (h : isName s = true) : 1 ≤ s.length ∧ s.length ≤ 40 ∧ nth s 0 ≠ 0 := by
 simp only [isName, Bool.and_eq_true, decide_eq_true_eq] at h;obtain ⟨⟨h1, h2⟩, h3⟩ := h;have hl : 1 ≤ s.length := by
  cases s with
  | nil => exact absurd rfl h2
  | cons c s => simp
 refine ⟨hl, h3, fun e => ?_⟩;have := all_nth.1 h1 0 hl;rw [e] at this
 cases this
theorem ndIs_parts {x : Nd} (h : ndIs x = true) : isName x.name = true ∧ 0 ≤ x.size ∧ x.size ≤ 600 ∧ x.places.length ≤ 10 := by
 simp only [ndIs, nodeIs, Bool.and_eq_true, decide_eq_true_eq] at h;obtain ⟨⟨⟨⟨⟨h1, h2⟩, h3⟩, h4⟩, h5⟩, h6⟩ := h;refine ⟨h1, h2, h3, ?_⟩;have := (need_le h2 h3).2;omega
theorem ndBytes_len {x : Nd} (h : ndIs x = true) : (ndBytes x).length = 64 := by
 obtain ⟨h1, h2, h3, h4⟩ := ndIs_parts h;obtain ⟨n1, n2, n3⟩ := isName_ne h1;have e : ndBytes x = placesAt (put (put ((zeros 64).set 0 (u8 x.name.length)) 1 x.name) 41 (two x.size)) x.places x.places.length := by
  have h' : nodeIs x.name x.size x.places = true := h;simp only [ndBytes, nodeBytes, h', if_true]
 have e1 : ((zeros 64).set 0 (u8 x.name.length)).length = 64 := by simp
 have e2 : (put ((zeros 64).set 0 (u8 x.name.length)) 1 x.name).length = 64 := by rw [put_length _ _ _ (by omega)]; exact e1
 rw [e, placesAt_length (by rw [put_length _ _ _ (by omega)]; exact e2) _ h4]
theorem ndBytes_low {x : Nd} (h : ndIs x = true) : nth (ndBytes x) 0 ≠ 0 ∧ nth (ndBytes x) 1 ≠ 0 := by
 obtain ⟨h1, h2, h3, h4⟩ := ndIs_parts h;obtain ⟨n1, n2, n3⟩ := isName_ne h1;have e : ndBytes x = placesAt (put (put ((zeros 64).set 0 (u8 x.name.length)) 1 x.name) 41 (two x.size)) x.places x.places.length := by
  have h' : nodeIs x.name x.size x.places = true := h;simp only [ndBytes, nodeBytes, h', if_true]
 have e1 : ((zeros 64).set 0 (u8 x.name.length)).length = 64 := by simp
 have e2 : (put ((zeros 64).set 0 (u8 x.name.length)) 1 x.name).length = 64 := by rw [put_length _ _ _ (by omega)]; exact e1
 have e3 : (put (put ((zeros 64).set 0 (u8 x.name.length)) 1 x.name) 41 (two x.size)).length = 64 := by rw [put_length _ _ _ (by omega)]; exact e2
 have g : ∀ k, k < 41 → nth (ndBytes x) k = ((put ((zeros 64).set 0 (u8 x.name.length)) 1 x.name)[k]?).getD default := by
  intro k hk;rw [e, placesAt_low (by omega) e3 _ h4]
  simp only [nth, List.getD];rw [put_get (by simp [two]; omega), if_neg (by omega)]
 constructor
 ·rw [g 0 (by omega), put_get (by omega), if_neg (by omega), List.getElem?_set]
  simp;intro hz;have : ((u8 (x.name.length : Int)).toNat : Int) = 0 := by rw [hz]; rfl
  rw [u8_val] at this;omega
 ·rw [g 1 (by omega), put_get (by omega), if_pos (by omega), nth_get (by omega)]
  simpa using n3
end Go.VM
end
section
namespace Go.VM
open Go.Proofs
set_option maxRecDepth 4000
attribute [-simp] Int.not_lt Int.not_le Nat.not_lt Nat.not_le
theorem ndD_cells (x : Nd) : (ndD x).cells = [.str x.name, .int .i64 x.size, .sl (inD x.places)] := rfl
theorem ndD_sized {l : List Nd} : sized 3 (rowD ndD l) ↔ True := iff_true_intro (rowD_sized fun _ => rfl)
theorem found_set {c : Prop} [Decidable c] : found (if c then some (.bool true) else none) (.bool false) false = .d (.bool (decide c)) := by
 by_cases h : c <;> simp [h, found]
def setS (l : List (List UInt8)) : List (D × D) := l.map fun n => (.str n, .bool true)
theorem setS_nil : setS [] = [] := rfl
theorem look_setS (l : List (List UInt8)) (n : List UInt8) : look (setS l) (.str n) = if n ∈ l then some (.bool true) else none := by
 induction l with
 | nil => rfl
 | cons m l ih =>
  have : look (setS (m :: l)) (.str n) = if n = m then some (.bool true) else look (setS l) (.str n) := by
   simp only [look, setS, List.map_cons, List.find?, D.same];by_cases h : n = m <;> simp [h]
  rw [this, ih];by_cases h : n = m
  ·simp [h]
  ·simp [h]
theorem upd_setS (l : List (List UInt8)) (n : List UInt8) (h : n ∉ l) : upd (setS l) (.str n) (.bool true) = setS (l ++ [n]) := by
 induction l with
 | nil => rfl
 | cons m l ih =>
  have hm : n ≠ m := fun e => h (by simp [e])
  have hl : n ∉ l := fun e => h (by simp [e])
  have : upd (setS (m :: l)) (.str n) (.bool true) = (.str m, .bool true) :: upd (setS l) (.str n) (.bool true) := by
   simp only [setS, List.map_cons, upd, D.same];simp [hm]
  rw [this, ih hl]; rfl
attribute [simp] ndD_cells ndD_sized look_set look_setS found_set
def placesOf (l : List Nd) : List Int := l.flatMap (·.places)
def namesOf (l : List Nd) : List (List UInt8) := l.map (·.name)
def Gd (l : List Nd) (many : Int) : Prop := (∀ x ∈ l, ndIs x = true) ∧ (namesOf l).Nodup ∧ (∀ p ∈ placesOf l, 40 ≤ p ∧ p < many) ∧ (placesOf l).Nodup
instance (l : List Nd) (many : Int) : Decidable (Gd l many) := inferInstanceAs (Decidable (_ ∧ _ ∧ _ ∧ _))
def roomIs (l : List Nd) (many : Int) : Bool := decide (l.length ≤ 40) && decide (0 ≤ many) && decide (many ≤ 2000) && decide (Gd l many)
theorem Gd_nil {many : Int} : Gd [] many := ⟨by simp, by simp [namesOf], by simp [placesOf], by simp [placesOf]⟩
theorem ndIs_nodup {x : Nd} (h : ndIs x = true) : x.places.Nodup := by
 simp only [ndIs, nodeIs, Bool.and_eq_true, decide_eq_true_eq] at h;exact h.2
theorem placesOf_snoc {l : List Nd} {x : Nd} : placesOf (l ++ [x]) = placesOf l ++ x.places := by simp [placesOf]
theorem namesOf_snoc {l : List Nd} {x : Nd} : namesOf (l ++ [x]) = namesOf l ++ [x.name] := by simp [namesOf]
theorem Gd_snoc {l : List Nd} {x : Nd} {many : Int} : Gd (l ++ [x]) many ↔ Gd l many ∧ ndIs x = true ∧ x.name ∉ namesOf l ∧ ∀ p ∈ x.places, (40 ≤ p ∧ p < many) ∧ p ∉ placesOf l := by
 unfold Gd;rw [placesOf_snoc, namesOf_snoc];constructor
 ·rintro ⟨h1, h2, h3, h4⟩;rw [List.nodup_append] at h2 h4;refine ⟨⟨fun y hy => h1 y (by simp [hy]), h2.1, fun p hp => h3 p (by simp [hp]), h4.1⟩, h1 x (by simp), fun hm => h2.2.2 _ hm _ (by simp) rfl, fun p hp => ⟨h3 p (by simp [hp]), fun hm => h4.2.2 _ hm _ hp rfl⟩⟩
 ·rintro ⟨⟨h1, h2, h3, h4⟩, k1, k2, k3⟩;refine ⟨fun y hy => ?_, ?_, fun p hp => ?_, ?_⟩
  ·rcases List.mem_append.1 hy with hy | hy
   ·exact h1 y hy
   ·simp at hy; subst hy; exact k1
  ·rw [List.nodup_append];refine ⟨h2, by simp, fun a ha b hb => ?_⟩
   simp at hb; subst hb;intro e; subst e; exact k2 ha
  ·rcases List.mem_append.1 hp with hp | hp
   ·exact h3 p hp
   ·exact (k3 p hp).1
  ·rw [List.nodup_append];refine ⟨h4, ndIs_nodup k1, fun a ha b hb e => ?_⟩;subst e; exact (k3 a hb).2 ha
theorem Gd_take {l : List Nd} {many : Int} (h : Gd l many) : ∀ i, Gd (l.take i) many := by
 have : ∀ (k : List Nd) (j : List Nd), Gd (k ++ j) many → Gd k many := by
  intro k j
  induction j generalizing k with
  | nil => intro h; simpa using h
  | cons x j ih =>
   intro h;have h2 : Gd ((k ++ [x]) ++ j) many := by simpa using h
   exact (Gd_snoc.1 (ih _ h2)).1
 intro i;exact this _ (l.drop i) (by simpa using h)
theorem roomIs_not {l : List Nd} {many : Int} {i : Nat} (_ : i < l.length) (k : ¬ Gd (l.take (i + 1)) many) : roomIs l many = false := by
 cases hr : roomIs l many with
 | false => rfl
 | true =>
  simp only [roomIs, Bool.and_eq_true, decide_eq_true_eq] at hr;exact absurd (Gd_take hr.2 (i + 1)) k
theorem room_had {l : List Nd} {many : Int} {S0 : St} {Q : LV → St → Prop} (hz : ∀ x ∈ l, x.size ≤ 9223372036854775807)
  (h1 : roomIs l many = true → ∀ S id, Kept S0 S → S0.next ≤ id → id < S.next → S.obj id = .mp (some .i64) (setD' (placesOf l)) → Q (.tup [.mp id, .d (.bool true)]) S)
  (h0 : roomIs l many = false → ∀ S, Kept S0 S → Q (.tup [.d .nilM, .d (.bool false)]) S) : SQ cf 74 [.d (.sl (rowD ndD l)), .d (.int .i64 many)] S0 Q := by
 refine S_intro Tryz.func74 rfl rfl (Nat.le_of_ble_eq_true rfl) ?_;simp;intro hl;refine f_intro (fun k1 => ?_) (fun k1 => ?_)
 ·simp [k1];exact h0 (by simp [roomIs, show ¬ l.length ≤ 40 from by omega]) _ (Kept.refl _)
 ·simp [k1];refine f_intro (fun k2 => ?_) (fun k2 => ?_)
  ·simp [k2];exact h0 (by simp [roomIs, show ¬ 0 ≤ many from by omega]) _ (Kept.refl _)
  ·simp [k2];refine f_intro (fun k3 => ?_) (fun k3 => ?_)
   ·simp [k3];exact h0 (by simp [roomIs, show ¬ many ≤ 2000 from by omega]) _ (Kept.refl _)
   ·simp [k3, hl];refine X_loop (fun (i : Nat) e S => i ≤ l.length ∧ Kept S0 S ∧ S0.next + 2 ≤ S.next ∧ e 1 = .d (.int .i64 many) ∧ e 6 = .mp S0.next ∧ e 7 = .mp (S0.next + 1) ∧ e 25 = .d (.sl (rowD ndD l)) ∧ e 26 = .d (.int .i64 l.length) ∧ e 27 = .d (.int .i64 i) ∧
     S.obj S0.next = .mp none (setS (namesOf (l.take i))) ∧ S.obj (S0.next + 1) = .mp (some .i64) (setD' (placesOf (l.take i))) ∧ Gd (l.take i) many) (fun i => l.length - i) 0 ?_ ?_
    ·simp [namesOf, placesOf, setS_nil, setD_nil', Gd_nil];exact (Kept.refl S0).alloc.alloc
    ·intro i e S hI;obtain ⟨g1, gK, gN, g2, g3, g4, g5, g6, g7, g8, g9, g10⟩ := hI;have q1 : ¬ S0.next = S.next := by omega
     have q2 : ¬ S0.next + 1 = S.next := by omega
     have q3 : ¬ S.next = S0.next := by omega
     simp [g6, g7];refine f_intro (fun j1 => ?_) (fun j1 => ?_)
     ·simp [g5, g7, j1];refine node_IsN (x := nth l i) (hz _ (nth_mem j1)) ?_;simp;refine f_intro (fun j2 => ?_) (fun j2 => ?_)
      ·simp [j2, g3, g8, q1];refine f_intro (fun j3 => ?_) (fun j3 => ?_)
       ·simp [j3];refine h0 (roomIs_not j1 fun hg => ?_) _ gK.alloc;rw [takeN j1, Gd_snoc] at hg;exact hg.2.2.1 j3
       ·simp [j3, g3, g8, q1, upd_setS];simp [q3];intro hp;have hx : ndIs (nth l i) = true := by simpa using j2
        have hxn := ndIs_nodup hx;generalize hxe : nth l i = x at *;have ht : l.take (i + 1) = l.take i ++ [x] := by rw [takeN j1, hxe]
        refine X_loop (fun (j : Nat) e' S' => j ≤ x.places.length ∧ Kept S0 S' ∧ S0.next + 2 ≤ S'.next ∧ e' 1 = .d (.int .i64 many) ∧ e' 6 = .mp S0.next ∧ e' 7 = .mp (S0.next + 1) ∧ e' 25 = .d (.sl (rowD ndD l)) ∧ e' 26 = .d (.int .i64 l.length) ∧ e' 27 = .d (.int .i64 i) ∧
         e' 44 = .d (.sl (inD x.places)) ∧ e' 45 = .d (.int .i64 x.places.length) ∧ e' 46 = .d (.int .i64 j) ∧
         S'.obj S0.next = .mp none (setS (namesOf (l.take i) ++ [x.name])) ∧ S'.obj (S0.next + 1) = .mp (some .i64) (setD' (placesOf (l.take i) ++ x.places.take j)) ∧
         ∀ p ∈ x.places.take j, (40 ≤ p ∧ p < many) ∧ p ∉ placesOf (l.take i)) (fun j => x.places.length - j) 0 ?_ ?_
        ·simp [g2, g3, g4, g5, g6, g7, g9, q2];exact ⟨gK.alloc.set (by omega), by omega⟩
        ·intro j e' S' hJ;obtain ⟨f1, fK, fN, f2, f3, f4, f5, f6, f7, f8, f9, f10, f11, f12, f13⟩ := hJ;simp [f9, f10];refine f_intro (fun m1 => ?_) (fun m1 => ?_)
         ·simp [f8, f10, m1];have hbad : (¬ (40 ≤ nth x.places j ∧ nth x.places j < many) ∨ nth x.places j ∈ placesOf (l.take i)) → roomIs l many = false := by
           intro hb;refine roomIs_not j1 fun hg => ?_;rw [ht, Gd_snoc] at hg;obtain ⟨u1, u2⟩ := hg.2.2.2 _ (nth_mem m1);rcases hb with hb | hb
           ·exact hb u1
           ·exact u2 hb
          refine f_intro (fun m2 => ?_) (fun m2 => ?_)
          ·simp [m2];exact h0 (hbad (.inl (by omega))) _ fK
          ·simp [m2, f2];refine f_intro (fun m3 => ?_) (fun m3 => ?_)
           ·simp [m3];exact h0 (hbad (.inl (by omega))) _ fK
           ·simp [m3, f4, f12];have hnj : nth x.places j ∉ x.places.take j := nodup_nth hxn m1;refine f_intro (fun m4 => ?_) (fun m4 => ?_)
            ·simp;have m4' : nth x.places j ∈ placesOf (l.take i) := by
              rcases m4 with m4 | m4
              ·exact m4
              ·exact absurd m4 hnj
             exact h0 (hbad (.inr m4')) _ fK
            ·simp [f4, f10, f12, f11];have hnn : nth x.places j ∉ placesOf (l.take i) ++ x.places.take j := by simpa using m4
             refine ⟨j + 1, ⟨by omega, fK.set (by omega), fN, f2, f3, f5, f6, f7, f8, f9, wrap_i64 (by omega) (by omega), ?_, fun p hp2 => ?_⟩, by omega⟩
             ·rw [upd_set _ _ hnn, takeN m1, List.append_assoc]
             ·rw [takeN m1] at hp2;rcases List.mem_append.1 hp2 with hp2 | hp2
              ·exact f13 p hp2
              ·simp at hp2; subst hp2;exact ⟨by omega, fun hm => m4 (.inl hm)⟩
         ·have hj : j = x.places.length := by omega
          subst hj;simp [f2, f4, f5, f6, f7, f11, f12];refine ⟨i + 1, ⟨by omega, fK, fN, f3, wrap_i64 (by omega) (by omega), by rw [ht, namesOf_snoc], by rw [ht, placesOf_snoc], ?_⟩, by omega⟩
          rw [ht, Gd_snoc];rw [List.take_length] at f13;exact ⟨g10, hx, j3, f13⟩
      ·simp [j2];refine h0 (roomIs_not j1 fun hg => ?_) _ gK.alloc;rw [takeN j1, Gd_snoc] at hg;exact j2 hg.2.1
     ·have hi : i = l.length := by omega
      subst hi;simp only [List.take_length] at g8 g9 g10;simp [g4];refine h1 ?_ _ _ gK (by omega) (by omega) g9
      simp [roomIs, g10];omega
theorem room_Is {l : List Nd} {many : Int} {Q : LV → Prop} (hz : ∀ x ∈ l, x.size ≤ 9223372036854775807) (h : Q (.d (.bool (roomIs l many)))) : VQ cf 37 [.sl (rowD ndD l), .int .i64 many] Q := by
 refine V_intro rfl (S_intro Tryz.func37 rfl rfl (Nat.le_of_ble_eq_true rfl) ?_);simp;refine room_had hz (fun hr S id _ _ _ _ => ?_) (fun hr S _ => ?_)
 ·simp;rw [← hr]; exact h
 ·simp;rw [← hr]; exact h
def freeTo (l : List Nd) (n : Nat) : List Int := ((List.range n).map fun k : Nat => (40 + (k : Int))).filter fun p => decide (p ∉ placesOf l)
def freeOf (l : List Nd) (many : Int) : List Int := freeTo l (many - 40).toNat
theorem freeTo_succ {l : List Nd} {n : Nat} : freeTo l (n + 1) = if (40 + n : Int) ∈ placesOf l then freeTo l n else freeTo l n ++ [(40 + n : Int)] := by
 unfold freeTo;rw [List.range_succ, List.map_append, List.filter_append];by_cases h : (40 + n : Int) ∈ placesOf l <;> simp [h]
theorem freeTo_length {l : List Nd} {n : Nat} : (freeTo l n).length ≤ n := by
 unfold freeTo;refine Nat.le_trans (List.length_filter_le _ _) ?_;simp
theorem room_Free {l : List Nd} {many : Int} {Q : LV → Prop} (hz : ∀ x ∈ l, x.size ≤ 9223372036854775807) (h : Q (.d (.sl (inD (if roomIs l many = true then freeOf l many else []))))) : VQ cf 47 [.sl (rowD ndD l), .int .i64 many] Q := by
 refine V_intro rfl (S_intro Tryz.func47 rfl rfl (Nat.le_of_ble_eq_true rfl) ?_);simp;refine room_had hz (fun hr S0 id hK h1 h2 h3 => ?_) (fun hr S _ => ?_)
 ·rw [if_pos hr] at h;have hm : 0 ≤ many ∧ many ≤ 2000 := by
   simp only [roomIs, Bool.and_eq_true, decide_eq_true_eq] at hr;exact ⟨hr.1.1.2, hr.1.2⟩
  simp;refine X_loop (fun (n : Nat) e S => (n = 0 ∨ 40 + (n : Int) ≤ many) ∧ Kept S0 S ∧ e 1 = .d (.int .i64 many) ∧ e 5 = .mp id ∧ e 8 = .d (.int .i64 (40 + n)) ∧ S.obj id = .mp (some .i64) (setD' (placesOf l)) ∧
   (e 7 = .lit [] ∧ freeTo l n = [] ∨ ∃ a, S0.next ≤ a ∧ a < S.next ∧ e 7 = .ar (.arr a) 1 0 (freeTo l n).length ∧ S.obj a = .arr 1 (inD (freeTo l n)) false)) (fun n => 2000 - n) 0 ?_ ?_
  ·simp [h3, freeTo, Kept.refl]
  ·intro n e S hI;obtain ⟨g1, gK, g2, g3, g4, g5, g6⟩ := hI;simp [g2, g4];refine f_intro (fun j1 => ?_) (fun j1 => ?_)
   ·have hw : IntKind.i64.wrap (40 + (n : Int) + 1) = 40 + ((n + 1 : Nat) : Int) := by rw [wrap_i64 (by omega) (by omega)]; omega
    simp [g3, g4, g5];by_cases hm2 : (40 + (n : Int)) ∈ placesOf l
    ·simp [hm2, g3, g4];refine ⟨n + 1, ⟨.inr (by omega), gK, g2, hw, g5, ?_⟩, by omega⟩
     rw [freeTo_succ, if_pos hm2];exact g6
    ·have hi1 : ¬ id = S.next := by have := gK.2.1; omega
     simp [hm2, g4];rcases g6 with ⟨g6, g7⟩ | ⟨a, a1, a2, g6, g7⟩
     ·simp [g6, g4];refine ⟨n + 1, ⟨.inr (by omega), gK.alloc, g2, g3, hw, by rw [if_neg hi1]; exact g5, ?_⟩, by omega⟩
      rw [freeTo_succ, if_neg hm2, g7];exact ⟨S.next, gK.2.1, by omega, ⟨rfl, rfl⟩, by simp [inD]⟩
     ·have hi2 : ¬ id = a := by omega
      have hle := freeTo_length (l := l) (n := n);simp [g6, g7, g4];refine ⟨by omega, n + 1, ⟨.inr (by omega), (gK.set a1).alloc, g2, g3, hw, by simpa [hi1, hi2] using g5, ?_⟩, by omega⟩
      rw [freeTo_succ, if_neg hm2];exact ⟨S.next, gK.2.1, by omega, ⟨rfl, by simp⟩, by simp [inD]⟩
   ·have hn : freeOf l many = freeTo l n := by
     unfold freeOf;congr 1;rcases g1 with g1 | g1 <;> omega
    simp;rcases g6 with ⟨g6, g7⟩ | ⟨a, a1, a2, g6, g7⟩
    ·simp [g6];rw [hn, g7] at h;exact h
    ·simp [g6, g7];rw [hn] at h;exact h
 ·simp;rw [hr] at h;exact h
end Go.VM
end
section
namespace Go.VM
open Go.Proofs
set_option maxRecDepth 4000
attribute [-simp] Int.not_lt Int.not_le Nat.not_lt Nat.not_le
theorem ref4_has {l : List Nd} {at_ : Int} {Q : LV → Prop} (h : Q (.d (.bool (decide (at_ ∈ placesOf l))))) : VQ cf 95 [.sl (rowD ndD l), .int .i64 at_] Q := by
 refine V_intro rfl (S_intro Tryz.func95 rfl rfl (Nat.le_of_ble_eq_true rfl) ?_);simp;refine X_loop (fun (i : Nat) e S => i ≤ l.length ∧ e 0 = .d (.sl (rowD ndD l)) ∧ e 1 = .d (.int .i64 at_) ∧ e 5 = .d (.int .i64 i) ∧ at_ ∉ placesOf (l.take i)) (fun i => l.length - i) 0 ?_ ?_
 ·simp [placesOf]
 ·intro i e S hI;obtain ⟨g1, g2, g3, g4, g5⟩ := hI;simp [g2, g4];intro hl;refine f_intro (fun j1 => ?_) (fun j1 => ?_)
  ·simp;refine X_loop (fun (j : Nat) e S => j ≤ (nth l i).places.length ∧ e 0 = .d (.sl (rowD ndD l)) ∧ e 1 = .d (.int .i64 at_) ∧ e 5 = .d (.int .i64 i) ∧ e 6 = .d (.int .i64 j) ∧ at_ ∉ (nth l i).places.take j) (fun j => (nth l i).places.length - j) 0 ?_ ?_
   ·simp [g2, g3, g4]
   ·intro j e S hJ;obtain ⟨f1, f2, f3, f4, f5, f6⟩ := hJ;simp [f2, f4, f5, j1];intro hp;refine f_intro (fun m1 => ?_) (fun m1 => ?_)
    ·simp [f2, f3, f4, f5, j1, m1];refine f_intro (fun m2 => ?_) (fun m2 => ?_)
     ·simp [m2];have hin : at_ ∈ placesOf l := by
       unfold placesOf;exact List.mem_flatMap.2 ⟨nth l i, nth_mem j1, m2 ▸ nth_mem m1⟩
      simpa [hin] using h
     ·simp [m2, f2, f3, f4, f5];refine ⟨j + 1, ⟨by omega, wrap_i64 (by omega) (by omega), fun hm => ?_⟩, by omega⟩
      rw [takeN m1] at hm;rcases List.mem_append.1 hm with hm | hm
      ·exact f6 hm
      ·simp at hm; exact m2 hm.symm
    ·have hj : j = (nth l i).places.length := by omega
     subst hj;rw [List.take_length] at f6;simp [f2, f3, f4];refine ⟨i + 1, ⟨by omega, wrap_i64 (by omega) (by omega), fun hm => ?_⟩, by omega⟩
     rw [takeN j1, placesOf_snoc] at hm;rcases List.mem_append.1 hm with hm | hm
     ·exact g5 hm
     ·exact f6 hm
  ·have hi : i = l.length := by omega
   subst hi;rw [List.take_length] at g5;simp;simpa [g5] using h
theorem ref4_Free {l : List Nd} {many : Int} {Q : LV → Prop} (hm : many ≤ 2000) (h : Q (.d (.sl (inD (freeOf l many))))) : VQ cf 59 [.sl (rowD ndD l), .int .i64 many] Q := by
 refine V_intro rfl (S_intro Tryz.func59 rfl rfl (Nat.le_of_ble_eq_true rfl) ?_);simp;refine X_loop (fun (n : Nat) e S => (n = 0 ∨ 40 + (n : Int) ≤ many) ∧ e 0 = .d (.sl (rowD ndD l)) ∧ e 1 = .d (.int .i64 many) ∧ e 6 = .d (.int .i64 (40 + n)) ∧
   (e 5 = .lit [] ∧ freeTo l n = [] ∨ ∃ a, a < S.next ∧ e 5 = .ar (.arr a) 1 0 (freeTo l n).length ∧ S.obj a = .arr 1 (inD (freeTo l n)) false)) (fun n => 2000 - n) 0 ?_ ?_
 ·simp [freeTo]
 ·intro n e S hI;obtain ⟨g1, g2, g3, g4, g6⟩ := hI;simp [g3, g4];refine f_intro (fun j1 => ?_) (fun j1 => ?_)
  ·have hw : IntKind.i64.wrap (40 + (n : Int) + 1) = 40 + ((n + 1 : Nat) : Int) := by rw [wrap_i64 (by omega) (by omega)]; omega
   simp [g2, g4];refine ref4_has ?_;by_cases hm2 : (40 + (n : Int)) ∈ placesOf l
   ·simp [hm2, g2, g3, g4];refine ⟨n + 1, ⟨.inr (by omega), hw, ?_⟩, by omega⟩
    rw [freeTo_succ, if_pos hm2];exact g6
   ·simp [hm2, g4];rcases g6 with ⟨g6, g7⟩ | ⟨a, a2, g6, g7⟩
    ·simp [g2, g3, g6, g4];refine ⟨n + 1, ⟨.inr (by omega), hw, ?_⟩, by omega⟩
     rw [freeTo_succ, if_neg hm2, g7];exact ⟨S.next, by omega, ⟨rfl, rfl⟩, by simp [inD]⟩
    ·have hle := freeTo_length (l := l) (n := n);simp [g2, g3, g6, g7, g4];refine ⟨by omega, n + 1, ⟨.inr (by omega), hw, ?_⟩, by omega⟩
     rw [freeTo_succ, if_neg hm2];exact ⟨S.next, by omega, ⟨rfl, by simp⟩, by simp [inD]⟩
  ·have hn : freeOf l many = freeTo l n := by
    unfold freeOf;congr 1;rcases g1 with g1 | g1 <;> omega
   simp;rcases g6 with ⟨g6, g7⟩ | ⟨a, a2, g6, g7⟩
   ·simp [g6];rw [hn, g7] at h;exact h
   ·simp [g6, g7];rw [hn] at h;exact h
end Go.VM
end
section
namespace Go.VM
open Go.Proofs
set_option maxRecDepth 4000
attribute [-simp] Int.not_lt Int.not_le Nat.not_lt Nat.not_le
theorem ref4_Is {l : List Nd} {many : Int} {Q : LV → Prop} (hz : ∀ x ∈ l, x.size ≤ 9223372036854775807) (h : Q (.d (.bool (roomIs l many)))) : VQ cf 52 [.sl (rowD ndD l), .int .i64 many] Q := by
 refine V_intro rfl (S_intro Tryz.func52 rfl rfl (Nat.le_of_ble_eq_true rfl) ?_);simp;intro hl;refine f_intro (fun k1 => ?_) (fun k1 => ?_)
 ·simp [k1];simpa [roomIs, show ¬ l.length ≤ 40 from by omega] using h
 ·simp [k1];refine f_intro (fun k2 => ?_) (fun k2 => ?_)
  ·simp [k2];simpa [roomIs, show ¬ 0 ≤ many from by omega] using h
  ·simp [k2];refine f_intro (fun k3 => ?_) (fun k3 => ?_)
   ·simp [k3];simpa [roomIs, show ¬ many ≤ 2000 from by omega] using h
   ·simp [k3];refine X_loop (fun (i : Nat) e S => i ≤ l.length ∧ e 0 = .d (.sl (rowD ndD l)) ∧ e 1 = .d (.int .i64 many) ∧ e 5 = .d (.int .i64 i) ∧ Gd (l.take i) many) (fun i => l.length - i) 0 ?_ ?_
    ·simp [Gd_nil]
    ·intro i e S hI;obtain ⟨g1, g2, g3, g4, g5⟩ := hI;simp [g2, g4, hl];refine f_intro (fun j1 => ?_) (fun j1 => ?_)
     ·have bad : ¬ Gd (l.take (i + 1)) many → Q (.d (.bool false)) := fun hb => by rw [roomIs_not j1 hb] at h; exact h
      simp [g2, g4, j1];refine ref3_IsN (x := nth l i) (hz _ (nth_mem j1)) ?_;simp;refine f_intro (fun j2 => ?_) (fun j2 => ?_)
      ·simp [j2];refine bad fun hg => ?_;rw [takeN j1, Gd_snoc] at hg;rw [hg.2.1] at j2; cases j2
      ·simp [j2];refine X_loop (fun (j : Nat) e S => j ≤ (nth l i).places.length ∧ e 0 = .d (.sl (rowD ndD l)) ∧ e 1 = .d (.int .i64 many) ∧ e 5 = .d (.int .i64 i) ∧ e 6 = .d (.int .i64 j) ∧
        ∀ p ∈ (nth l i).places.take j, (40 ≤ p ∧ p < many) ∧ p ∉ placesOf (l.take i)) (fun j => (nth l i).places.length - j) 0 ?_ ?_
       ·simp [g2, g3, g4]
       ·intro j e S hJ;obtain ⟨f1, f2, f3, f4, f5, f6⟩ := hJ;simp [f2, f4, f5, j1];intro hp;refine f_intro (fun m1 => ?_) (fun m1 => ?_)
        ·simp;refine X_draw (by decide) ?_
         have hbad : (¬ (40 ≤ nth (nth l i).places j ∧ nth (nth l i).places j < many) ∨ nth (nth l i).places j ∈ placesOf (l.take i)) → Q (.d (.bool false)) := by
          intro hb;refine bad fun hg => ?_;rw [takeN j1, Gd_snoc] at hg;obtain ⟨u1, u2⟩ := hg.2.2.2 _ (nth_mem m1);rcases hb with hb | hb
          ·exact hb u1
          ·exact u2 hb
         simp [f2, f4, f5, j1, m1];refine f_intro (fun m2 => ?_) (fun m2 => ?_)
         ·simp [m2];exact hbad (.inl (by omega))
         ·simp [m2, f2, f3, f4, f5, j1, m1];refine f_intro (fun m3 => ?_) (fun m3 => ?_)
          ·simp [m3];exact hbad (.inl (by omega))
          ·simp [m3, f2, f4, f5, j1, m1];refine ⟨by omega, ref4_has ?_⟩
           simp;refine f_intro (fun m4 => ?_) (fun m4 => ?_)
           ·simp [m4];exact hbad (.inr m4)
           ·simp [m4, f2, f3, f4, f5];refine ⟨j + 1, ⟨by omega, wrap_i64 (by omega) (by omega), fun p hp2 => ?_⟩, by omega⟩
            rw [takeN m1] at hp2;rcases List.mem_append.1 hp2 with hp2 | hp2
            ·exact f6 p hp2
            ·simp at hp2; subst hp2;exact ⟨by omega, m4⟩
        ·have hj : j = (nth l i).places.length := by omega
         subst hj;rw [List.take_length] at f6;simp;refine X_loop (fun (k : Nat) e S => k ≤ i ∧ e 0 = .d (.sl (rowD ndD l)) ∧ e 1 = .d (.int .i64 many) ∧ e 5 = .d (.int .i64 i) ∧ e 7 = .d (.int .i64 k) ∧ (nth l i).name ∉ namesOf (l.take k)) (fun k => i - k) 0 ?_ ?_
         ·simp [f2, f3, f4, namesOf]
         ·intro k e S hN;obtain ⟨n1, n2, n3, n4, n5, n6⟩ := hN;simp [n4, n5];refine f_intro (fun m2 => ?_) (fun m2 => ?_)
          ·have hk : k < l.length := by omega
           simp;refine X_draw (by decide) ?_
           simp [n2, n4, n5, j1, hk];refine f_intro (fun m3 => ?_) (fun m3 => ?_)
           ·simp [m3];refine bad fun hg => ?_;rw [takeN j1, Gd_snoc] at hg;refine hg.2.2.1 (m3 ▸ ?_);refine List.mem_map.2 ⟨nth l k, ?_, rfl⟩;have : nth (l.take i) k = nth l k := nth_take m2;rw [← this];exact nth_mem (by simp; omega)
           ·simp [m3, n2, n3, n4, n5];refine ⟨k + 1, ⟨by omega, wrap_i64 (by omega) (by omega), fun hm => ?_⟩, by omega⟩
            rw [takeN hk, namesOf_snoc] at hm;rcases List.mem_append.1 hm with hm | hm
            ·exact n6 hm
            ·simp at hm; exact m3 hm.symm
          ·have hk : k = i := by omega
           subst hk;simp [n2, n3, n4];refine ⟨k + 1, ⟨by omega, wrap_i64 (by omega) (by omega), ?_⟩, by omega⟩
           rw [takeN j1, Gd_snoc];exact ⟨g5, by simpa using j2, n6, f6⟩
     ·have hi : i = l.length := by omega
      subst hi;rw [List.take_length] at g5;have hr : roomIs l many = true := by simp [roomIs, g5]; omega
      simp;rw [← hr]; exact h
theorem mem_freeTo {l : List Nd} {n : Nat} {p : Int} : p ∈ freeTo l n ↔ (40 ≤ p ∧ p < 40 + n) ∧ p ∉ placesOf l := by
 unfold freeTo;simp only [List.mem_filter, List.mem_map, List.mem_range, decide_eq_true_eq];constructor
 ·rintro ⟨⟨k, hk, rfl⟩, h⟩;exact ⟨by omega, h⟩
 ·rintro ⟨⟨h1, h2⟩, h3⟩;exact ⟨⟨(p - 40).toNat, by omega, by omega⟩, h3⟩
theorem freeTo_nodup {l : List Nd} {n : Nat} : (freeTo l n).Nodup := by
 induction n with
 | zero => simp [freeTo]
 | succ n ih =>
  rw [freeTo_succ];split
  ·exact ih
  ·rw [List.nodup_append];refine ⟨ih, by simp, fun a ha b hb => ?_⟩
   simp at hb; subst hb;have := (mem_freeTo.1 ha).1.2;omega
end Go.VM
end
