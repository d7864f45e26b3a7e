/- Chapter 5: are two rows of files one? No condition. -/
import Derived.Test.YtmahmajoelmmeaaGreatGg
namespace Go.VM
open Go.Proofs
set_option maxRecDepth 4000
attribute [-simp] Int.not_lt Int.not_le Nat.not_lt Nat.not_le
theorem ref5_Same {a b : List Fi} {Q : LV → Prop} (hl : a.length ≤ 1000000 ∧ b.length ≤ 1000000) (h : Q (.d (.bool (decide (a = b))))) : VQ cf 16 [.sl (rowD fiD a), .sl (rowD fiD b)] Q := by
 refine V_intro rfl (S_intro Tryz.func16 rfl rfl (Nat.le_of_ble_eq_true rfl) ?_);simp;intro _ _;refine f_intro (fun j0 => ?_) (fun j0 => ?_)
 ·simp;refine X_loop (fun (k : Nat) e S' => k ≤ a.length ∧ e 0 = .d (.sl (rowD fiD a)) ∧ e 1 = .d (.sl (rowD fiD b)) ∧ e 5 = .d (.int .i64 k) ∧ ∀ j, j < k → nth a j = nth b j) (fun k => a.length - k) 0 ⟨by omega, by simp, by simp, by simp, fun j hj => absurd hj (Nat.not_lt_zero _)⟩ ?_
  intro k e S' hk;obtain ⟨g1, g2, g3, g4, g5⟩ := hk;simp [g2, g4];intro _;refine f_intro (fun j1 => ?_) (fun j1 => ?_)
  ·have hk : k < a.length := by omega
   have hk2 : k < b.length := by omega
   have hne : nth a k ≠ nth b k → Q (.d (.bool false)) := fun hn => by
    have : ¬ a = b := fun e => hn (by rw [e])
    simpa [this] using h
   simp;refine X_drawM [0, 0, 3, 7, 15, 0, 0, 96, 224, 480, 1023, 2047, 4095, 4095, 16383, 32767, 65535, 131071, 4095, 4095, 790527, 1839103, 3936255, 8130559, 16777215, 33554431] (by decide +kernel) (by decide +kernel) ?_
   by_cases hn : (nth a k).name = (nth b k).name
   ·simp [g2, g3, g4, hk, hk2, hn];refine f_intro (fun j2 => ?_) (fun j2 => ?_)
    ·simp [g2, g3, g4];refine ⟨k + 1, ⟨by omega, wrap_i64 (by omega) (by omega), fun j hj => ?_⟩, by omega⟩
     by_cases hjk : j = k
     ·rw [hjk]
      cases ha : nth a k
      cases hb : nth b k
      rw [ha, hb] at hn j2;simp only at hn j2;rw [hn, j2]
     ·exact g5 j (by omega)
    ·simp;exact hne fun e => j2 (by rw [e])
   ·simp [g2, g3, g4, hk, hk2, hn];exact hne fun e => hn (by rw [e])
  ·have hkl : k = a.length := by omega
   have : a = b := by
    refine List.ext_getElem (by omega) fun j h1 h2 => ?_
    have := g5 j (by omega)
    simpa [nth, h1, h2] using this
   simp;simpa [this] using h
 ·have : ¬ a = b := fun e => by rw [e] at j0; exact j0 rfl
  simp;simpa [this] using h
def heavyN (l : List FOp) (k : Nat) : Nat := ((l.take k).map fun o => o.data.length + o.name.length).sum
def heavyB (l : List FOp) : Bool := decide (20 < l.length) || decide (4000 < heavyN l (min l.length 30))
theorem heavyN_succ {l : List FOp} {k : Nat} (h : k < l.length) : heavyN l (k + 1) = heavyN l k + ((nth l k).data.length + (nth l k).name.length) := by
 unfold heavyN;rw [takeN h]; simp
theorem heavyN_le {l : List FOp} {k m : Nat} (hb : ∀ o ∈ l, o.data.length ≤ m ∧ o.name.length ≤ m) : heavyN l k ≤ k * (m + m) := by
 induction k with
 | zero =>
  have e : heavyN l 0 = 0 := by simp only [heavyN, List.take_zero, List.map_nil, List.sum_nil]
  exact Nat.le_trans (Nat.le_of_eq e) (Nat.zero_le _)
 | succ k ih =>
  by_cases h : k < l.length
  ·have := hb _ (nth_mem h);rw [heavyN_succ h, Nat.succ_mul];omega
  ·have e : heavyN l (k + 1) = heavyN l k := by unfold heavyN; rw [List.take_of_length_le (by omega), List.take_of_length_le (by omega)]
   rw [e, Nat.succ_mul]; omega
theorem law5_heavy {l : List FOp} {Q : LV → Prop} (hb : ∀ o ∈ l, o.data.length ≤ 140737488351232 ∧ o.name.length ≤ 140737488351232) (h : Q (.d (.bool (heavyB l)))) : VQ cf 9 [.sl (rowD fopD l)] Q := by
 refine V_intro rfl (S_intro Tryz.func9 rfl rfl (Nat.le_of_ble_eq_true rfl) ?_);have hsz : sized 3 (rowD fopD l) := rowD_sized fun _ => rfl;have hfc : ∀ x, (fopD x).cells = [.bool x.drop, .str x.name, .sl (byD x.data)] := fun _ => rfl;simp;refine X_loop (fun (k : Nat) e S' => (k ≤ l.length ∧ k ≤ 30) ∧ e 0 = .d (.sl (rowD fopD l)) ∧ e 3 = .d (.int .i64 (heavyN l k)) ∧ e 4 = .d (.int .i64 k)) (fun k => 30 - k) 0 ⟨⟨by omega, by omega⟩, by simp, by simp [heavyN], by simp⟩ ?_
 intro k e S' hk;obtain ⟨g1, g2, g3, g4⟩ := hk;have hle := heavyN_le (k := k) hb;have hfin : k = min l.length 30 → heavyB l = (decide (20 < l.length) || decide (4000 < heavyN l k)) := fun hk => by rw [hk]; rfl
 simp [g2, g4];intro _;by_cases j1 : k < l.length
 ·have j1' : (k : Int) < l.length := by omega
  by_cases j2 : k < 30
  ·have j2' : (k : Int) < 30 := by omega
   simp [g4, j1, j2'];refine X_drawM [0, 0, 0, 6, 14, 30, 62, 126, 255, 0, 0, 1536, 3584, 7680, 15872, 32256, 65535, 131071] (by decide +kernel) (by decide +kernel) ?_
   simp [g2, g3, g4, j1, hfc];intro _ _;have hd := hb _ (nth_mem j1);refine ⟨k + 1, ⟨⟨by omega, by omega⟩, ?_, wrap_i64 (by omega) (by omega)⟩, by omega⟩
   rw [wrap_i64 (n := (heavyN l k : Int) + ((nth l k).data.length : Int)) (by omega) (by omega), wrap_i64 (by omega) (by omega), heavyN_succ j1]
   omega
  ·have j2' : ¬ (k : Int) < 30 := by omega
   have hk9 : k = min l.length 30 := by omega
   rw [hfin hk9] at h;simp [g2, g4, j1, j2'];intro _;have hc1 : decide ((20 : Int) < l.length) = decide (20 < l.length) := by rw [decide_eq_decide]; omega
   have hc2 : decide ((4000 : Int) < heavyN l k) = decide (4000 < heavyN l k) := by rw [decide_eq_decide]; omega
   refine f_intro (fun j3 => ?_) (fun j3 => ?_)
   ·have j4 : 20 < l.length := by omega
    simp [j3];simpa [j4] using h
   ·have j4 : ¬ 20 < l.length := by omega
    simp [j3, g3, hc2];simpa [j4] using h
 ·have j1' : ¬ (k : Int) < l.length := by omega
  have hk9 : k = min l.length 30 := by omega
  rw [hfin hk9] at h;simp [g2, j1];intro _;have hc1 : decide ((20 : Int) < l.length) = decide (20 < l.length) := by rw [decide_eq_decide]; omega
  have hc2 : decide ((4000 : Int) < heavyN l k) = decide (4000 < heavyN l k) := by rw [decide_eq_decide]; omega
  refine f_intro (fun j3 => ?_) (fun j3 => ?_)
  ·have j4 : 20 < l.length := by omega
   simp [j3];simpa [j4] using h
  ·have j4 : ¬ 20 < l.length := by omega
   simp [j3, g3, hc2];simpa [j4] using h
theorem law5_put {a b : List UInt8} {Q : LV → Prop} (hb : b.length ≤ 1000000) (h : Q (.d (fopD ⟨false, a, b⟩))) : VQ cf 18 [.str a, .str b] Q := by
 refine V_intro rfl (S_intro Tryz.func18 rfl rfl (Nat.le_of_ble_eq_true rfl) ?_);simp;exact ⟨by omega, h⟩
theorem law5_drop {a : List UInt8} {Q : LV → Prop} (h : Q (.d (fopD ⟨true, a, []⟩))) : VQ cf 19 [.str a] Q := by
 refine V_intro rfl (S_intro Tryz.func19 rfl rfl (Nat.le_of_ble_eq_true rfl) ?_);simp;exact h
def fmtD (p : Nat) : Dk := if (Dk.new (157 + p)).many < 41 then Dk.new (157 + p) else (Dk.new (157 + p)).format.2
theorem law5_disk {S : St} {p : Nat} {Q : LV → St → Prop} (hp : p ≤ 300) (h : ∀ S' a c, S.next ≤ a → S.next ≤ c → a ≠ c → IsD S' a (fmtD p) → IsR S' c (fmtD p) → Kept S S' → Q (.tup [.ptr a 0, .ptr c 0]) S') : SQ cf 10 [.d (.int .i64 p)] S Q := by
 refine S_intro Tryz.func10 rfl rfl (Nat.le_of_ble_eq_true rfl) ?_;have hw : IntKind.i64.wrap (157 + (p : Int)) = ((157 + p : Nat) : Int) := by rw [wrap_i64 (by omega) (by omega)]; omega
 have hok : Ok (Dk.new (157 + p)) (0 + 3000) := new_ok (by omega) (by omega)
 simp [hw];refine dev_New (fun _ _ S1 a ha hI1 hK1 => ?_) (fun hn => absurd ⟨by omega, by omega⟩ hn)
 replace hI1 : IsD S1 a (Dk.new (157 + p)) := by
  have e : (157 + (p : Int)).toNat = 157 + p := by omega
  simpa [e] using hI1
 simp [hw];refine ref_New (fun _ _ S2 c hc hI2 hK2 => ?_) (fun hn => absurd ⟨by omega, by omega⟩ hn)
 replace hI2 : IsR S2 c (Dk.new (157 + p)) := by
  have e : (157 + (p : Int)).toNat = 157 + p := by omega
  simpa [e] using hI2
 have hac : a ≠ c := by have := hI1.1; omega
 have hI12 := hI1.kept hK2;simp;refine fs_Format hI12 hok fun S3 hI3 hM3 => ?_;simp;refine ref5_Format (hI2.mod hM3 hac.symm) hok fun S4 hI4 hM4 => ?_;simp;refine h S4 a c ha (by have := hK1.2.1; omega) hac (hI3.mod hM4 hac) hI4 ?_
 have hK2' := hK1.trans hK2;refine ⟨fun j hj => ?_, by have := hK2'.2.1; have := hM3.2.1; have := hM4.2.1; omega, by have := hK2'.2.2.1; have := hM3.2.2.1; have := hM4.2.2.1; omega, by rw [hM4.2.2.2, hM3.2.2.2, hK2'.2.2.2]⟩
 have := hK2'.2.1;have := hM3.2.1;have := hK1.2.1;rw [hM4.1 j (by omega) (by omega), hM3.1 j (by omega) (by omega), hK2'.1 j hj]
end Go.VM
