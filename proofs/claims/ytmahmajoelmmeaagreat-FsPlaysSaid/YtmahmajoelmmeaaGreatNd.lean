/- Chapter 3: what the program and the document answer of nodes. No condition. -/
import Derived.Test.YtmahmajoelmmeaaGreatCf
namespace Go.VM
open Go.Proofs
set_option maxRecDepth 4000
attribute [-simp] Int.not_lt Int.not_le Nat.not_lt Nat.not_le
def need (n : Int) : Int := if n < 1 then 0 else (n - 1).tdiv 64 + 1
theorem tdiv_in {n : Int} (h : -9223372036854775808 ≤ n) (k : n ≤ 9223372036854775807) : -9223372036854775808 ≤ n.tdiv 64 + 1 ∧ n.tdiv 64 + 1 ≤ 9223372036854775807 ∧ -9223372036854775808 ≤ n.tdiv 64 ∧ n.tdiv 64 ≤ 9223372036854775807 := by
 rcases Int.le_total 0 n with h0 | h0
 ·rw [Int.tdiv_eq_ediv_of_nonneg h0]; omega
 ·have e : n.tdiv 64 = -((-n).tdiv 64) := by rw [Int.neg_tdiv]; omega
  rw [e, Int.tdiv_eq_ediv_of_nonneg (by omega)]; omega
theorem node_Need {n : Int} {Q : LV → Prop} (hn : n ≤ 9223372036854775807) (h : Q (.d (.int .i64 (need n)))) : VQ cf 72 [.int .i64 n] Q := by
 refine V_intro rfl (S_intro Tryz.func72 rfl rfl (Nat.le_of_ble_eq_true rfl) ?_);simp;refine f_intro (fun k => ?_) (fun k => ?_)
 ·simpa [need, k] using h
 ·have h1 := tdiv_in (n := n - 1) (by omega) (by omega)
  have e1 : IntKind.i64.wrap (n - 1) = n - 1 := wrap_i64 (by omega) (by omega)
  have e2 : IntKind.i64.wrap ((n - 1).tdiv 64) = (n - 1).tdiv 64 := wrap_i64 (by omega) (by omega)
  have e3 : IntKind.i64.wrap ((n - 1).tdiv 64 + 1) = (n - 1).tdiv 64 + 1 := wrap_i64 (by omega) (by omega)
  simp [e1, e2, e3];simpa [need, k] using h
theorem ref3_Need {n : Int} {Q : LV → Prop} (hn : n ≤ 9223372036854775807) (h : Q (.d (.int .i64 (need n)))) : VQ cf 92 [.int .i64 n] Q := by
 refine V_intro rfl (S_intro Tryz.func92 rfl rfl (Nat.le_of_ble_eq_true rfl) ?_);simp;refine f_intro (fun k => ?_) (fun k => ?_)
 ·simpa [need, k] using h
 ·have h1 := tdiv_in (n := n - 1) (by omega) (by omega)
  have e1 : IntKind.i64.wrap (n - 1) = n - 1 := wrap_i64 (by omega) (by omega)
  have e2 : IntKind.i64.wrap ((n - 1).tdiv 64) = (n - 1).tdiv 64 := wrap_i64 (by omega) (by omega)
  have e3 : IntKind.i64.wrap ((n - 1).tdiv 64 + 1) = (n - 1).tdiv 64 + 1 := wrap_i64 (by omega) (by omega)
  simp [e1, e2, e3];simpa [need, k] using h
theorem bytes_Equal {a b : List UInt8} {Q : LV → Prop} (h : Q (.d (.bool (decide (a = b))))) : VQ cf 64 [.sl (byD a), .sl (byD b)] Q := by
 refine V_intro rfl (S_intro Tryz.func64 rfl rfl (Nat.le_of_ble_eq_true rfl) ?_);simp;exact h
theorem bits64 : IntKind.i64.bits = 64 := rfl
theorem or_bytes (a b : UInt8) : IntKind.i64.wrap (((IntKind.i64.wrap (IntKind.i64.wrap (a.toNat : Int) * 2 ^ min 8 IntKind.i64.bits) % 2 ^ IntKind.i64.bits).toNat ||| (IntKind.i64.wrap (b.toNat : Int) % 2 ^ IntKind.i64.bits).toNat : Nat) : Int) = ((a.toNat * 256 + b.toNat : Nat) : Int) := by
 have ha := a.toNat_lt;have hb := b.toNat_lt;rw [wrap_i64 (n := (a.toNat : Int)) (by omega) (by omega), wrap_i64 (n := (b.toNat : Int)) (by omega) (by omega)]
 have e8 : min 8 IntKind.i64.bits = 8 := rfl;rw [e8, bits64, wrap_i64 (n := (a.toNat : Int) * 2 ^ 8) (by omega) (by omega)]
 have e1 : ((a.toNat : Int) * 2 ^ 8 % 2 ^ 64).toNat = 2 ^ 8 * a.toNat := by omega
 have e2 : ((b.toNat : Int) % 2 ^ 64).toNat = b.toNat := by omega
 rw [e1, e2, ← Nat.two_pow_add_eq_or_of_lt (i := 8) hb a.toNat, wrap_i64 (by omega) (by omega)]
 omega
theorem node_one {b : List UInt8} {Q : LV → Prop} (hb : 2 ≤ b.length) (h : Q (.d (.int .i64 ((nth b 0).toNat * 256 + (nth b 1).toNat : Nat)))) : VQ cf 71 [.sl (byD b)] Q := by
 refine V_intro rfl (S_intro Tryz.func71 rfl rfl (Nat.le_of_ble_eq_true rfl) ?_);simp;refine X_draw (by decide) ?_
 simp;refine ⟨by omega, by omega, ?_⟩
 rw [or_bytes]; exact h
def nameOk (c : UInt8) : Bool := decide (33 ≤ c.toNat) && decide (c.toNat ≤ 126)
def isName (s : List UInt8) : Bool := s.all nameOk && decide (s ≠ []) && decide (s.length ≤ 40)
theorem not_name {s : List UInt8} {i : Nat} (hi : i < s.length) (h : nameOk (nth s i) = false) : isName s = false := by
 cases hn : isName s with
 | false => rfl
 | true =>
  simp only [isName, Bool.and_eq_true] at hn;rw [all_nth.1 hn.1.1 i hi] at h; cases h
theorem node_isName {s : List UInt8} {Q : LV → Prop} (h : Q (.d (.bool (isName s)))) : VQ cf 120 [.str s] Q := by
 refine V_intro rfl (S_intro Tryz.func120 rfl rfl (Nat.le_of_ble_eq_true rfl) ?_);simp;intro hl;refine X_loop (fun (i : Nat) e S => i ≤ s.length ∧ e 0 = .d (.str s) ∧ e 5 = .d (.int .i64 s.length) ∧ e 6 = .d (.int .i64 i) ∧ ∀ k < i, nameOk (nth s k) = true) (fun i => s.length - i) 0 ?_ ?_
 ·simp
 ·intro i e S hI;obtain ⟨h1, h2, h3, h4, h5⟩ := hI;simp [h3, h4];refine f_intro (fun k1 => ?_) (fun k1 => ?_)
  ·simp [h2, h4];refine ⟨k1, f_intro (fun k2 => ?_) (fun k2 => ?_)⟩
   ·simp [k2];rw [not_name k1 (by simp [nameOk]; omega)] at h; exact h
   ·simp [h2, k2, k1];refine f_intro (fun k3 => ?_) (fun k3 => ?_)
    ·simp;rw [not_name k1 (by simp [nameOk]; omega)] at h; exact h
    ·simp [h2, h3, h4];rw [wrap_i64 (by omega) (by omega)]
     refine ⟨i + 1, ⟨k1, rfl, fun k hk => ?_⟩, by omega⟩
     by_cases hki : k = i
     ·subst hki; simp [nameOk]; omega
     ·exact h5 k (by omega)
  ·have hi : i = s.length := by omega
   subst hi;have hall : s.all nameOk = true := all_nth.2 h5;simp [h2];refine f_intro (fun k2 => ?_) (fun k2 => ?_)
   ·simp [k2];simpa [isName, k2] using h
   ·simp [h2, hl, k2];have e40 : ((s.length : Int) ≤ 40) ↔ s.length ≤ 40 := by omega
    simpa [isName, hall, k2, e40] using h
theorem ref3_Named {s : List UInt8} {Q : LV → Prop} (h : Q (.d (.bool (isName s)))) : VQ cf 96 [.str s] Q := by
 refine V_intro rfl (S_intro Tryz.func96 rfl rfl (Nat.le_of_ble_eq_true rfl) ?_);simp;refine X_loop (fun (i : Nat) e S => i ≤ s.length ∧ e 0 = .d (.str s) ∧ e 3 = .d (.int .i64 i) ∧ ∀ k < i, nameOk (nth s k) = true) (fun i => s.length - i) 0 ?_ ?_
 ·simp
 ·intro i e S hI;obtain ⟨h1, h2, h4, h5⟩ := hI;simp [h2, h4];intro hl;refine f_intro (fun k1 => ?_) (fun k1 => ?_)
  ·simp [h2, h4];refine ⟨k1, f_intro (fun k2 => ?_) (fun k2 => ?_)⟩
   ·simp [k2];rw [not_name k1 (by simp [nameOk]; omega)] at h; exact h
   ·simp [h2, h4, k2, k1];refine f_intro (fun k3 => ?_) (fun k3 => ?_)
    ·simp;rw [not_name k1 (by simp [nameOk]; omega)] at h; exact h
    ·simp [h2, h4];rw [wrap_i64 (by omega) (by omega)]
     refine ⟨i + 1, ⟨k1, rfl, fun k hk => ?_⟩, by omega⟩
     by_cases hki : k = i
     ·subst hki; simp [nameOk]; omega
     ·exact h5 k (by omega)
  ·have hi : i = s.length := by omega
   subst hi;have hall : s.all nameOk = true := all_nth.2 h5;simp [h2, hl];refine f_intro (fun k2 => ?_) (fun k2 => ?_)
   ·simp [h2, hl, k2];have e40 : ((s.length : Int) ≤ 40) ↔ s.length ≤ 40 := by omega
    have hne : s ≠ [] := by intro h0; subst h0; simp at k2
    simpa [isName, hall, hne, e40] using h
   ·simp [k2];have hne : s = [] := by
     cases s with
     | nil => rfl
     | cons c s => exact absurd (by simp; omega) k2
    simpa [isName, hne] using h
def placeOk (n : Int) : Bool := decide (0 ≤ n) && decide (n ≤ 65535)
def nodeIs (s : List UInt8) (n : Int) (l : List Int) : Bool :=
 isName s && decide (0 ≤ n) && decide (n ≤ 600) && decide ((l.length : Int) = need n) && l.all placeOk && decide l.Nodup
theorem bad_place {s : List UInt8} {n : Int} {l : List Int} {i : Nat} (hi : i < l.length) (h : placeOk (nth l i) = false) : nodeIs s n l = false := by
 cases hn : nodeIs s n l with
 | false => rfl
 | true =>
  simp only [nodeIs, Bool.and_eq_true] at hn;rw [all_nth.1 hn.1.2 i hi] at h; cases h
theorem take_nth {l : List Int} {i : Nat} (h : i < l.length) : l.take (i + 1) = l.take i ++ [nth l i] := by
 rw [List.take_add_one, nth_get h]; rfl
theorem nodup_nth {l : List Int} {i : Nat} (hd : l.Nodup) (h : i < l.length) : nth l i ∉ l.take i := by
 have h1 : (l.take (i + 1)).Nodup := hd.sublist (List.take_sublist _ _);rw [take_nth h, List.nodup_append] at h1;intro hm;exact h1.2.2 _ hm _ (by simp) rfl
theorem node_Is {s : List UInt8} {n : Int} {l : List Int} {Q : LV → Prop} (hn : n ≤ 9223372036854775807) (h : Q (.d (.bool (nodeIs s n l)))) : VQ cf 78 [.agg [.str s, .int .i64 n, .sl (inD l)]] Q := by
 refine V_intro rfl (S_intro Tryz.func78 rfl rfl (Nat.le_of_ble_eq_true rfl) ?_);simp [List.replicate];refine X_draw (by decide) ?_
 simp;refine node_isName ?_;simp;refine f_intro (fun k1 => ?_) (fun k1 => ?_)
 ·simp [k1];refine f_intro (fun k2 => ?_) (fun k2 => ?_)
  ·simp [k2];simpa [nodeIs, show ¬ 0 ≤ n from by omega] using h
  ·simp [k2];refine f_intro (fun k3 => ?_) (fun k3 => ?_)
   ·simp [k3];simpa [nodeIs, show ¬ n ≤ 600 from by omega] using h
   ·simp [k3];intro hl;refine node_Need hn ?_;simp;refine f_intro (fun k4 => ?_) (fun k4 => ?_)
    ·simp [k4, makeMapT, hl];refine X_loop (fun (i : Nat) e S => i ≤ l.length ∧ e 31 = .d (.sl (inD l)) ∧ e 32 = .d (.int .i64 l.length) ∧ e 33 = .d (.int .i64 i) ∧ (∃ m, e 3 = .mp m ∧ S.obj m = .mp (some .i64) (setD' (l.take i))) ∧
      (l.take i).all placeOk = true ∧ (l.take i).Nodup) (fun i => l.length - i) 0 ?_ ?_
     ·simp [setD_nil'];exact k4.symm
     ·intro i e S hI;obtain ⟨h1, h2, h3, h4, ⟨m, h5, h6⟩, h7, h8⟩ := hI;simp [h3, h4];refine f_intro (fun j1 => ?_) (fun j1 => ?_)
      ·simp [h2, h4, j1];refine f_intro (fun j2 => ?_) (fun j2 => ?_)
       ·simp [j2];have hb : nodeIs s n l = false := bad_place j1 (by simp [placeOk, show ¬ 0 ≤ nth l i from by omega])
        rw [hb] at h; exact h
       ·simp [j2];refine f_intro (fun j3 => ?_) (fun j3 => ?_)
        ·simp [j3];have hb : nodeIs s n l = false := bad_place j1 (by simp [placeOk, show ¬ nth l i ≤ 65535 from by omega])
         rw [hb] at h; exact h
        ·simp [j3, h5, h6, dOf?, D.isKey, look_set];by_cases hm : nth l i ∈ l.take i
         ·simp [hm, found];have hb : nodeIs s n l = false := by
           cases hq : nodeIs s n l with
           | false => rfl
           | true =>
            simp only [nodeIs, Bool.and_eq_true] at hq;have hnd := of_decide_eq_true hq.2;exact absurd hm (nodup_nth hnd j1)
          rw [hb] at h; exact h
         ·simp [hm, found, h4, h5, h6, dOf?, D.isKey, upd_set];refine ⟨i + 1, ⟨j1, h2, h3, wrap_i64 (by omega) (by omega), by rw [take_nth j1], fun x hx => ?_, ?_⟩, by omega⟩
          ·rw [take_nth j1] at hx;rcases List.mem_append.1 hx with hx | hx
           ·exact List.all_eq_true.1 h7 x hx
           ·simp at hx; subst hx; simp [placeOk]; omega
          ·rw [take_nth j1, List.nodup_append];refine ⟨h8, by simp, fun a ha b hb => ?_⟩
           simp at hb; subst hb;intro e; subst e; exact hm ha
      ·have hi : i = l.length := by omega
       subst hi;simp only [List.take_length] at h6 h7 h8;simp;have hb : nodeIs s n l = true := by simp [nodeIs, k1, k4, h7, h8]; omega
       rw [hb] at h; exact h
    ·simp [k4];simpa [nodeIs, k4] using h
 ·simp [k1];have hk : isName s = false := by simpa using k1
  simpa [nodeIs, hk] using h
def two (n : Int) : List UInt8 := [UInt8.ofNat (n / 256 % 256).toNat, UInt8.ofNat (n % 256).toNat]
theorem node_two {n : Int} {Q : LV → Prop} (h : Q (.d (.sl (byD (two n))))) : VQ cf 108 [.int .i64 n] Q := by
 refine V_intro rfl (S_intro Tryz.func108 rfl rfl (Nat.le_of_ble_eq_true rfl) ?_);simp;have e8 : min 8 IntKind.i64.bits = 8 := rfl;have h1 : n.fdiv (2 ^ min 8 IntKind.i64.bits) = n / 256 := by
  rw [e8, Int.fdiv_eq_ediv_of_nonneg _ (by decide)]
  rfl
 rw [h1];exact h
def put (b : List UInt8) (lo : Nat) (ys : List UInt8) : List UInt8 := b.take lo ++ ys.take (b.length - lo) ++ b.drop (lo + min ys.length (b.length - lo))
theorem put_length (b : List UInt8) (lo : Nat) (ys : List UInt8) (h : lo ≤ b.length) : (put b lo ys).length = b.length := by simp [put]; omega
def placesAt (b : List UInt8) (l : List Int) (i : Nat) : List UInt8 := (List.range i).foldl (fun b k => put b (43 + 2 * k) (two (nth l k))) b
theorem placesAt_succ (b : List UInt8) (l : List Int) (i : Nat) : placesAt b l (i + 1) = put (placesAt b l i) (43 + 2 * i) (two (nth l i)) := by
 simp [placesAt, List.range_succ]
theorem placesAt_length {b : List UInt8} {l : List Int} (h : b.length = 64) : ∀ i, i ≤ 10 → (placesAt b l i).length = 64 := by
 intro i
 induction i with
 | zero => intro _; exact h
 | succ i ih =>
  intro hi;have := ih (by omega)
  rw [placesAt_succ, put_length _ _ _ (by omega)]
  exact this
def nodeBytes (s : List UInt8) (n : Int) (l : List Int) : List UInt8 :=
 if nodeIs s n l then placesAt (put (put ((zeros 64).set 0 (u8 s.length)) 1 s) 41 (two n)) l l.length else []
theorem node_Bytes {s : List UInt8} {n : Int} {l : List Int} {Q : LV → Prop} (hn : n ≤ 9223372036854775807) (h : Q (.d (.sl (byD (nodeBytes s n l))))) : VQ cf 73 [.agg [.str s, .int .i64 n, .sl (inD l)]] Q := by
 refine V_intro rfl (S_intro Tryz.func73 rfl rfl (Nat.le_of_ble_eq_true rfl) ?_);simp [List.replicate];refine node_Is hn ?_;simp;refine f_intro (fun k1 => ?_) (fun k1 => ?_)
 ·simp [k1];simpa [nodeBytes, k1, byD_nil] using h
 ·simp [k1];intro hs;refine X_draw (by decide) ?_
  simp;refine X_draw (by decide) ?_
  simp;refine node_two ?_;simp;refine ⟨by omega, fun hl => ?_⟩
  have hk : nodeIs s n l = true := by simpa using k1
  have h10 : l.length ≤ 10 := by
   have hk' := hk;simp only [nodeIs, Bool.and_eq_true, decide_eq_true_eq] at hk';have h1 := hk'.1.1.2;have h2 := hk'.1.1.1.2;have hne : need n ≤ 10 := by
    unfold need;split
    ·omega
    ·rw [Int.tdiv_eq_ediv_of_nonneg (by omega)]; omega
   omega
  have hb2 : (put (put ((zeros 64).set 0 (u8 s.length)) 1 s) 41 (two n)).length = 64 := by
   have e1 : ((zeros 64).set 0 (u8 s.length)).length = 64 := by simp
   have e2 := put_length ((zeros 64).set 0 (u8 s.length)) 1 s (by omega)
   rw [put_length _ _ _ (by omega)]; omega
  refine X_loop (fun (i : Nat) e S => i ≤ l.length ∧ e 3 = .ar (.arr 1) 1 0 64 ∧ e 28 = .d (.sl (inD l)) ∧ e 29 = .d (.int .i64 l.length) ∧ e 30 = .d (.int .i64 i) ∧
   S.obj 1 = .arr 1 (byD (placesAt (put (put ((zeros 64).set 0 (u8 s.length)) 1 s) 41 (two n)) l i)) false) (fun i => l.length - i) 0 ?_ ?_
  ·simp;have p1 : put ((zeros 64).set 0 (u8 s.length)) 1 s = List.take 1 ((zeros 64).set 0 (u8 s.length)) ++ (List.take 63 s ++ List.drop (1 + min s.length 63) ((zeros 64).set 0 (u8 s.length))) := by simp [put]
   have e2 := put_length ((zeros 64).set 0 (u8 s.length)) 1 s (by simp)
   have e3 : ((zeros 64).set 0 (u8 s.length)).length = 64 := by simp
   rw [← p1];simp only [placesAt, List.range_zero, List.foldl_nil];congr 1;simp only [put.eq_1 (put ((zeros 64).set 0 (u8 s.length)) 1 s), e2, e3];simp
  ·intro i e S hI;obtain ⟨h1, h2, h3, h4, h5, h6⟩ := hI;simp [h4, h5];refine f_intro (fun j1 => ?_) (fun j1 => ?_)
   ·simp [h3, h5, j1];have hi10 : i < 10 := by omega
    have w1 : IntKind.i64.wrap (2 * (i : Int)) = 2 * i := wrap_i64 (by omega) (by omega)
    have w2 : IntKind.i64.wrap (43 + 2 * (i : Int)) = 43 + 2 * i := wrap_i64 (by omega) (by omega)
    refine X_draw (by decide) ?_
    simp [h2, w1, w2];refine ⟨⟨by omega, by omega⟩, node_two ?_⟩
    have hlen := placesAt_length (l := l) hb2 i (by omega)
    simp [h5, h6];refine ⟨by omega, i + 1, ⟨j1, h2, h3, h4, wrap_i64 (by omega) (by omega), ?_⟩, by omega⟩
    rw [placesAt_succ];have e1 : (43 + 2 * (i : Int)).toNat = 43 + 2 * i := by omega
    rw [e1];clear h6 h;generalize placesAt (put (put ((zeros 64).set 0 (u8 s.length)) 1 s) 41 (two n)) l i = c at hlen;simp [put, hlen]
   ·have hi : i = l.length := by omega
    subst hi;simp [h2, h6, arrT, setT, T.bind];have hlen := placesAt_length (l := l) hb2 l.length h10;refine ⟨by omega, ?_⟩
    rw [List.take_of_length_le (by omega)]
    simp only [nodeBytes, hk, if_true] at h;exact h
theorem ref3_Is {s : List UInt8} {n : Int} {l : List Int} {Q : LV → Prop} (hn : n ≤ 9223372036854775807) (h : Q (.d (.bool (nodeIs s n l)))) : VQ cf 94 [.agg [.str s, .int .i64 n, .sl (inD l)]] Q := by
 refine V_intro rfl (S_intro Tryz.func94 rfl rfl (Nat.le_of_ble_eq_true rfl) ?_);simp [List.replicate];refine X_draw (by decide) ?_
 simp;refine ref3_Named ?_;simp;refine f_intro (fun k1 => ?_) (fun k1 => ?_)
 ·simp [k1];refine f_intro (fun k2 => ?_) (fun k2 => ?_)
  ·simp [k2];simpa [nodeIs, show ¬ 0 ≤ n from by omega] using h
  ·simp [k2];refine f_intro (fun k3 => ?_) (fun k3 => ?_)
   ·simp [k3];simpa [nodeIs, show ¬ n ≤ 600 from by omega] using h
   ·simp [k3];intro hl;refine ref3_Need hn ?_;simp;refine f_intro (fun k4 => ?_) (fun k4 => ?_)
    ·simp [k4];refine X_loop (fun (i : Nat) e S => i ≤ l.length ∧ e 1 = .ptr 0 0 ∧ e 3 = .d (.int .i64 i) ∧ S.obj 0 = .cells [.d (.str s), .d (.int .i64 n), .d (.sl (inD l))] ∧
      (l.take i).all placeOk = true ∧ (l.take i).Nodup) (fun i => l.length - i) 0 ?_ ?_
     ·simp
     ·intro i e S hI;obtain ⟨h1, h2, h3, h4, h5, h6⟩ := hI;simp [h2, h3, h4];intro _;refine f_intro (fun j1 => ?_) (fun j1 => ?_)
      ·simp [h2, h3, h4, j1];refine f_intro (fun j2 => ?_) (fun j2 => ?_)
       ·simp [j2];have hb : nodeIs s n l = false := bad_place j1 (by simp [placeOk, show ¬ 0 ≤ nth l i from by omega])
        rw [hb] at h; exact h
       ·simp [h2, h3, h4, j1, j2];refine f_intro (fun j3 => ?_) (fun j3 => ?_)
        ·simp [j3];have hb : nodeIs s n l = false := bad_place j1 (by simp [placeOk, show ¬ nth l i ≤ 65535 from by omega])
         rw [hb] at h; exact h
        ·simp [j3];refine X_loop (fun (k : Nat) e S => k ≤ i ∧ e 1 = .ptr 0 0 ∧ e 3 = .d (.int .i64 i) ∧ e 4 = .d (.int .i64 k) ∧ S.obj 0 = .cells [.d (.str s), .d (.int .i64 n), .d (.sl (inD l))] ∧ ∀ m < k, nth l m ≠ nth l i) (fun k => i - k) 0 ?_ ?_
         ·simp [h2, h3, h4]
         ·intro k e S hK;obtain ⟨g1, g2, g3, g4, g5, g6⟩ := hK;simp [g3, g4];refine f_intro (fun j4 => ?_) (fun j4 => ?_)
          ·simp;refine X_draw (by decide) ?_
           simp [g2, g3, g4, g5];refine ⟨by omega, j1, f_intro (fun j5 => ?_) (fun j5 => ?_)⟩
           ·simp;have hb : nodeIs s n l = false := by
             cases hq : nodeIs s n l with
             | false => rfl
             | true =>
              simp only [nodeIs, Bool.and_eq_true] at hq;have hnd := of_decide_eq_true hq.2;refine absurd ?_ (nodup_nth hnd j1);rw [← j5];refine List.mem_of_getElem? (i := k) ?_;rw [List.getElem?_take, if_pos j4, nth_get (by omega)]
            rw [hb] at h; exact h
           ·simp [g2, g3, g4, g5];rw [wrap_i64 (by omega) (by omega)]
            refine ⟨k + 1, ⟨j4, rfl, fun m hm => ?_⟩, by omega⟩
            by_cases hmk : m = k
            ·subst hmk; exact j5
            ·exact g6 m (by omega)
          ·have hki : k = i := by omega
           subst hki;simp [g2, g3, g5];rw [wrap_i64 (by omega) (by omega)]
           refine ⟨k + 1, ⟨j1, rfl, fun x hx => ?_, ?_⟩, by omega⟩
           ·rw [take_nth j1] at hx;rcases List.mem_append.1 hx with hx | hx
            ·exact List.all_eq_true.1 h5 x hx
            ·simp at hx; subst hx; simp [placeOk]; omega
           ·rw [take_nth j1, List.nodup_append];refine ⟨h6, by simp, fun a ha b hb => ?_⟩
            simp at hb; subst hb;intro q; subst q;obtain ⟨m, hm⟩ := List.getElem?_of_mem ha;rw [List.getElem?_take] at hm;split at hm
            ·rename_i hmk;rw [nth_get (by omega)] at hm
             exact g6 m hmk (Option.some.inj hm)
            ·cases hm
      ·have hi : i = l.length := by omega
       subst hi;simp only [List.take_length] at h5 h6;simp;have hb : nodeIs s n l = true := by simp [nodeIs, k1, k4, h5, h6]; omega
       rw [hb] at h; exact h
    ·simp [k4];simpa [nodeIs, k4] using h
 ·simp [k1];have hk : isName s = false := by simpa using k1
  simpa [nodeIs, hk] using h
def setAt (b : List UInt8) (lo : Nat) (ys : List UInt8) (i : Nat) : List UInt8 := (List.range i).foldl (fun b k => b.set (lo + k) (nth ys k)) b
theorem setAt_succ (b : List UInt8) (lo : Nat) (ys : List UInt8) (i : Nat) : setAt b lo ys (i + 1) = (setAt b lo ys i).set (lo + i) (nth ys i) := by simp [setAt, List.range_succ]
theorem setAt_length (b : List UInt8) (lo : Nat) (ys : List UInt8) (i : Nat) : (setAt b lo ys i).length = b.length := by
 induction i with
 | zero => rfl
 | succ i ih => rw [setAt_succ, List.length_set, ih]
theorem setAt_get {b ys : List UInt8} {lo : Nat} : ∀ (i : Nat), lo + i ≤ b.length → ∀ k, (setAt b lo ys i)[k]? = if lo ≤ k ∧ k < lo + i then some (nth ys (k - lo)) else b[k]? := by
 intro i
 induction i with
 | zero => intro _ k; rw [if_neg (by omega)]; rfl
 | succ i ih =>
  intro h k;rw [setAt_succ, List.getElem?_set, setAt_length];by_cases hk : lo + i = k
  ·subst hk;rw [if_pos rfl, if_pos (by omega), if_pos (by omega)]
   congr 2; omega
  ·rw [if_neg hk, ih (by omega)]
   by_cases hk2 : lo ≤ k ∧ k < lo + i
   ·rw [if_pos hk2, if_pos (by omega)]
   ·rw [if_neg hk2, if_neg (by omega)]
theorem put_get {b ys : List UInt8} {lo : Nat} (h : lo + ys.length ≤ b.length) (k : Nat) : (put b lo ys)[k]? = if lo ≤ k ∧ k < lo + ys.length then ys[k - lo]? else b[k]? := by
 have e1 : ys.take (b.length - lo) = ys := List.take_of_length_le (by omega)
 have e2 : min ys.length (b.length - lo) = ys.length := by omega
 unfold put;rw [e1, e2];have e3 : (b.take lo).length = lo := by simp; omega
 by_cases h1 : k < lo
 ·rw [List.append_assoc, List.getElem?_append_left (by omega), List.getElem?_take, if_pos h1, if_neg (by omega)]
 ·by_cases h2 : k < lo + ys.length
  ·rw [List.append_assoc, List.getElem?_append_right (by omega), e3, List.getElem?_append_left (by omega), if_pos (by omega)]
  ·rw [List.getElem?_append_right (by simp; omega), List.getElem?_drop, if_neg (by omega)]
   congr 1; simp; omega
theorem setAt_all {b ys : List UInt8} {lo : Nat} (h : lo + ys.length ≤ b.length) : setAt b lo ys ys.length = put b lo ys := by
 apply List.ext_getElem?
 intro k;rw [setAt_get _ h, put_get h];by_cases hk : lo ≤ k ∧ k < lo + ys.length
 ·rw [if_pos hk, if_pos hk, nth_get (by omega)]
 ·rw [if_neg hk, if_neg hk]
theorem put_two {b : List UInt8} {lo : Nat} {x y : UInt8} (h : lo + 2 ≤ b.length) : put b lo [x, y] = (b.set lo x).set (lo + 1) y := by
 apply List.ext_getElem?
 intro k;rw [put_get (by simpa using h), List.getElem?_set, List.getElem?_set]
 simp only [List.length_cons, List.length_nil, List.length_set];by_cases h1 : lo = k
 ·subst h1; simp; omega
 ·by_cases h2 : lo + 1 = k
  ·subst h2;rw [if_pos (by omega), if_pos rfl, if_pos (by omega)]
   simp
  ·rw [if_neg (by omega), if_neg h2, if_neg h1]
theorem two_u8 (n : Int) : two n = [u8 (n / 256), u8 n] := rfl
theorem u8_mod (n : Int) : u8 (n % 256) = u8 n := by simp [u8]
theorem div_u8 {n : Int} (h : 0 ≤ n) (k : n ≤ 9223372036854775807) : u8 (IntKind.i64.wrap (n.tdiv 256)) = u8 (n / 256) ∧ u8 (n.tmod 256) = u8 n := by
 rw [Int.tdiv_eq_ediv_of_nonneg h, Int.tmod_eq_emod_of_nonneg h, wrap_i64 (by omega) (by omega), u8_mod]
 exact ⟨rfl, rfl⟩
theorem ref3_BytesS {s : List UInt8} {n : Int} {l : List Int} {S0 : St} {Q : LV → St → Prop} (hn : n ≤ 9223372036854775807) (h : ∀ v S', Kept S0 S' → NewSl S0 S' v 1 (byD (nodeBytes s n l)) → Q v S') : SQ cf 93 [.d (.agg [.str s, .int .i64 n, .sl (inD l)])] S0 Q := by
 refine S_intro Tryz.func93 rfl rfl (Nat.le_of_ble_eq_true rfl) ?_;simp [List.replicate];refine ref3_Is hn ?_;simp;refine f_intro (fun k1 => ?_) (fun k1 => ?_)
 ·simp [k1];exact h _ _ (Kept.refl S0).alloc (.inl ⟨rfl, by simp [nodeBytes, k1, byD_nil]⟩)
 ·simp [k1];intro hs;have hk : nodeIs s n l = true := by simpa using k1
  have hs40 : s.length ≤ 40 := by
   simp only [nodeIs, isName, Bool.and_eq_true, decide_eq_true_eq] at hk;exact hk.1.1.1.1.1.2
  refine X_loop (fun (i : Nat) e S => i ≤ s.length ∧ (Kept S0 S ∧ S0.next + 2 ≤ S.next) ∧ e 1 = .ptr S0.next 0 ∧ e 3 = .ar (.arr (S0.next + 1)) 1 0 64 ∧ e 4 = .d (.int .i64 i) ∧ S.obj S0.next = .cells [.d (.str s), .d (.int .i64 n), .d (.sl (inD l))] ∧
   S.obj (S0.next + 1) = .arr 1 (byD (setAt ((zeros 64).set 0 (u8 s.length)) 1 s i)) false) (fun i => s.length - i) 0 ?_ ?_
  ·simp [setAt];exact ((Kept.refl S0).alloc.alloc).set (by omega)
  ·intro i e S hI;obtain ⟨h1, hK, h2, h3, h4, h5, h6⟩ := hI;simp [h2, h4, h5];intro _;refine f_intro (fun j1 => ?_) (fun j1 => ?_)
   ·have w1 : IntKind.i64.wrap (1 + (i : Int)) = 1 + i := wrap_i64 (by omega) (by omega)
    simp [h2, h3, h4, h5, h6, w1, setAt_length];refine ⟨j1, ⟨by omega, by omega⟩, by omega, i + 1, ⟨j1, ⟨hK.1.set (by omega), hK.2⟩, wrap_i64 (by omega) (by omega), ?_⟩, by omega⟩
    rw [setAt_succ, show (1 + (i : Int)).toNat = 1 + i from by omega]
   ·have hi : i = s.length := by omega
    subst hi;simp;refine X_draw (by decide) ?_
    simp [h2, h3, h5, h6, setAt_length];refine ⟨by decide, ?_⟩
    have hn6 : 0 ≤ n ∧ n ≤ 600 := by
     have hk' := hk;simp only [nodeIs, Bool.and_eq_true, decide_eq_true_eq] at hk';exact ⟨hk'.1.1.1.1.2, hk'.1.1.1.2⟩
    have h10 : l.length ≤ 10 := by
     have hk' := hk;simp only [nodeIs, Bool.and_eq_true, decide_eq_true_eq] at hk';have q2 := hk'.1.1.2;have hne : need n ≤ 10 := by
      unfold need;split
      ·omega
      ·rw [Int.tdiv_eq_ediv_of_nonneg (by omega)]; omega
     omega
    have e0 : ((zeros 64).set 0 (u8 s.length)).length = 64 := by simp
    have ep : (put ((zeros 64).set 0 (u8 s.length)) 1 s).length = 64 := by rw [put_length _ _ _ (by omega)]; exact e0
    have hb2 : (put (put ((zeros 64).set 0 (u8 s.length)) 1 s) 41 (two n)).length = 64 := by rw [put_length _ _ _ (by omega)]; exact ep
    refine X_loop (fun (i : Nat) e S => i ≤ l.length ∧ (Kept S0 S ∧ S0.next + 2 ≤ S.next) ∧ e 1 = .ptr S0.next 0 ∧ e 3 = .ar (.arr (S0.next + 1)) 1 0 64 ∧ e 5 = .d (.int .i64 i) ∧ S.obj S0.next = .cells [.d (.str s), .d (.int .i64 n), .d (.sl (inD l))] ∧
     S.obj (S0.next + 1) = .arr 1 (byD (placesAt (put (put ((zeros 64).set 0 (u8 s.length)) 1 s) 41 (two n)) l i)) false) (fun i => l.length - i) 0 ?_ ?_
    ·simp [h2, h3, h5];refine ⟨⟨hK.1.of (fun j hj => by simp [show ¬ j = S0.next + 1 from by omega]) (by simp) (by simp) rfl, by omega⟩, ?_⟩
     simp only [placesAt, List.range_zero, List.foldl_nil];rw [setAt_all (by omega), two_u8, put_two (by omega), (div_u8 hn6.1 hn).1, (div_u8 hn6.1 hn).2]
    ·intro i e S hI;obtain ⟨g1, gK, g2, g3, g4, g5, g6⟩ := hI;simp [g2, g4, g5];intro _;refine f_intro (fun j2 => ?_) (fun j2 => ?_)
     ·have w1 : IntKind.i64.wrap (2 * (i : Int)) = 2 * i := wrap_i64 (by omega) (by omega)
      have w2 : IntKind.i64.wrap (43 + 2 * (i : Int)) = 43 + 2 * i := wrap_i64 (by omega) (by omega)
      have w3 : IntKind.i64.wrap (44 + 2 * (i : Int)) = 44 + 2 * i := wrap_i64 (by omega) (by omega)
      have hlen := placesAt_length (l := l) hb2 i (by omega)
      simp;refine X_draw (by decide) ?_
      simp [g2, g3, g4, g5, g6, w1, w2, w3, hlen];refine ⟨j2, ⟨by omega, by omega⟩, by omega, ⟨by omega, by omega⟩, by omega, by decide, ?_⟩
      have hp : 0 ≤ nth l i ∧ nth l i ≤ 65535 := by
       have hk' := hk;simp only [nodeIs, Bool.and_eq_true] at hk';have := all_nth.1 hk'.1.2 i j2;simpa [placeOk] using this
      refine ⟨i + 1, ⟨j2, ⟨gK.1.of (fun j hj => by simp [show ¬ j = S0.next + 1 from by omega]) (by simp) (by simp) rfl, by omega⟩, wrap_i64 (by omega) (by omega), ?_⟩, by omega⟩
      rw [placesAt_succ, two_u8 (nth l i), put_two (by omega), (div_u8 hp.1 (by omega)).1, (div_u8 hp.1 (by omega)).2,
       show (43 + 2 * (i : Int)).toNat = 43 + 2 * i from by omega, show (44 + 2 * (i : Int)).toNat = 43 + 2 * i + 1 from by omega]
     ·have hi : i = l.length := by omega
      subst hi;have hlen := placesAt_length (l := l) hb2 l.length h10;simp [g3];refine h _ _ gK.1 (.inr ⟨S0.next + 1, by omega, by omega, ?_, ?_⟩)
      ·simp [nodeBytes, hk, hlen]
      ·simpa [nodeBytes, hk] using g6
end Go.VM
