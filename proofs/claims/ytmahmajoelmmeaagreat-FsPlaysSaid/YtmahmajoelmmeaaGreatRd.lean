/- Chapter 3: what the program and the document read of a sector. No condition. -/
import Derived.Test.YtmahmajoelmmeaaGreatNd
namespace Go.VM
open Go.Proofs
set_option maxRecDepth 4000
attribute [-simp] Int.not_lt Int.not_le Nat.not_lt Nat.not_le
attribute [simp] wrap_byte
structure Nd where
 name : List UInt8
 size : Int
 places : List Int
def Nd.nil : Nd := ⟨[], 0, []⟩
instance : Inhabited Nd := ⟨.nil⟩
def ndD (x : Nd) : D := .agg [.str x.name, .int .i64 x.size, .sl (inD x.places)]
def ndBytes (x : Nd) : List UInt8 := nodeBytes x.name x.size x.places
def numAt (b : List UInt8) (i : Nat) : Int := ((nth b i).toNat * 256 + (nth b (i + 1)).toNat : Nat)
def nodeOf (b : List UInt8) : Nd := ⟨(b.drop 1).take (nth b 0).toNat, numAt b 41, (List.range (need (numAt b 41)).toNat).map fun i => numAt b (43 + 2 * i)⟩
def nodeRead (b : List UInt8) : Nd × Bool × Bool :=
 if b.length ≠ 64 ∨ 40 < (nth b 0).toNat then (.nil, false, false)
 else if b = zeros 64 then (.nil, true, true)
 else if ndBytes (nodeOf b) = b then (nodeOf b, false, true) else (.nil, false, false)
def readD (r : Nd × Bool × Bool) : LV := .tup [.d (ndD r.1), .d (.bool r.2.1), .d (.bool r.2.2)]
theorem takeN {α : Type} [Inhabited α] {l : List α} {i : Nat} (h : i < l.length) : l.take (i + 1) = l.take i ++ [nth l i] := by
 rw [List.take_add_one, nth_get h]; rfl
theorem nth_mem {α : Type} [Inhabited α] {l : List α} {i : Nat} (h : i < l.length) : nth l i ∈ l := List.mem_of_getElem? (nth_get h)
theorem node_BytesN {x : Nd} {Q : LV → Prop} (hn : x.size ≤ 9223372036854775807) (h : Q (.d (.sl (byD (ndBytes x))))) : VQ cf 73 [ndD x] Q := node_Bytes hn h
theorem ref3_BytesSN {x : Nd} {S0 : St} {Q : LV → St → Prop} (hn : x.size ≤ 9223372036854775807) (h : ∀ v S', Kept S0 S' → NewSl S0 S' v 1 (byD (ndBytes x)) → Q v S') : SQ cf 93 [.d (ndD x)] S0 Q := ref3_BytesS hn h
theorem nodeBytes_big {x : Nd} (h : 600 < x.size) : ndBytes x = [] := by
 have : nodeIs x.name x.size x.places = false := by
  unfold nodeIs;have : decide (x.size ≤ 600) = false := by simp; omega
  simp [this]
 simp [ndBytes, nodeBytes, this]
theorem nodeRead_big {b : List UInt8} (h1 : b.length = 64) (h2 : ¬ b = zeros 64) (h3 : (nth b 0).toNat ≤ 40) (h : 600 < numAt b 41) : nodeRead b = (.nil, false, false) := by
 have e : ndBytes (nodeOf b) = [] := nodeBytes_big h;have e2 : ¬ [] = b := by intro e; subst e; simp at h1
 simp [nodeRead, h1, h2, e, e2, show ¬ 40 < (nth b 0).toNat from by omega]
theorem need_le {n : Int} (h : 0 ≤ n) (k : n ≤ 600) : 0 ≤ need n ∧ need n ≤ 10 := by
 unfold need;split
 ·omega
 ·rw [Int.tdiv_eq_ediv_of_nonneg (by omega)]; omega
def plAt (b : List UInt8) (i : Nat) : List Int := (List.range i).map fun k => numAt b (43 + 2 * k)
theorem plAt_succ (b : List UInt8) (i : Nat) : plAt b (i + 1) = plAt b i ++ [numAt b (43 + 2 * i)] := by simp [plAt, List.range_succ]
theorem plAt_length (b : List UInt8) (i : Nat) : (plAt b i).length = i := by simp [plAt]
theorem node_Read {b : List UInt8} {Q : LV → Prop} (h : Q (readD (nodeRead b))) : VQ cf 35 [.sl (byD b)] Q := by
 refine V_intro rfl (S_intro Tryz.func35 rfl rfl (Nat.le_of_ble_eq_true rfl) ?_);simp;intro hb;refine f_intro (fun k1 => ?_) (fun k1 => ?_)
 ·simp [k1];refine f_intro (fun k2 => ?_) (fun k2 => ?_)
  ·simp [k2];simpa [nodeRead, readD, ndD, Nd.nil, show 40 < (nth b 0).toNat from by omega, inD_nil] using h
  ·simp [k2];refine bytes_Equal ?_;simp;refine f_intro (fun k3 => ?_) (fun k3 => ?_)
   ·simp [k3];subst k3;simpa [nodeRead, readD, ndD, Nd.nil, inD_nil, nth, zeros] using h
   ·have hb0 : (nth b 0).toNat ≤ 40 := by omega
    have e1 : ((u8 (1 + ((nth b 0).toNat : Int))).toNat : Int) = 1 + (nth b 0).toNat := by rw [u8_val]; omega
    simp [k3];refine X_draw (by decide) ?_
    have e2 : (1 + ((nth b 0).toNat : Int)).toNat - 1 = (nth b 0).toNat := by omega
    simp [e1, k1];refine ⟨by omega, node_one (by simp; omega) ?_⟩
    simp [e2];refine f_intro (fun k4 => ?_) (fun k4 => ?_)
    ·simp [k4];rw [nodeRead_big (by omega) k3 hb0 (by simp [numAt]; omega)] at h
     simpa [readD, ndD, Nd.nil, inD_nil] using h
    ·simp [k4];have hm : ((nth b 41).toNat : Int) * 256 + (nth b 42).toNat = numAt b 41 := by simp [numAt]
     rw [hm];rw [hm] at k4;have hm0 : 0 ≤ numAt b 41 := by unfold numAt; omega
     refine node_Need (by omega) ?_
     have hn := need_le (n := numAt b 41) hm0 (by omega)
     simp;refine X_loop (fun (i : Nat) e S => i ≤ (need (numAt b 41)).toNat ∧ 0 < S.next ∧ e 0 = .d (.sl (byD b)) ∧ e 2 = .ptr 0 0 ∧ e 38 = .d (.int .i64 (need (numAt b 41))) ∧ e 39 = .d (.int .i64 i) ∧
      ∃ c, S.obj 0 = .cells [.d (.str (b.tail.take (nth b 0).toNat)), .d (.int .i64 (numAt b 41)), c] ∧ (i = 0 ∧ c = .lit [] ∨ ∃ v, 0 < i ∧ c = .own v 1 (inD (plAt b i)) false)) (fun i => (need (numAt b 41)).toNat - i) 0 ?_ ?_
     ·simp
     ·intro i e S hI;obtain ⟨h1, h2, h3, h4, h5, h6, c, h7, h8⟩ := hI;simp [h5, h6];refine f_intro (fun j1 => ?_) (fun j1 => ?_)
      ·have w1 : IntKind.i64.wrap (2 * (i : Int)) = 2 * i := wrap_i64 (by omega) (by omega)
       have w2 : IntKind.i64.wrap (43 + 2 * (i : Int)) = 43 + 2 * i := wrap_i64 (by omega) (by omega)
       have w3 : (43 + 2 * (i : Int)).toNat = 43 + 2 * i := by omega
       simp [h6];refine X_draw (by decide) ?_
       rcases h8 with ⟨rfl, rfl⟩ | ⟨v, hi, rfl⟩
       ·simp [h3, h4, h7, k1];refine node_one (by simp; omega) ?_
        simp [h3, h4, h5, h6, h7];refine ⟨by decide, 1, ⟨by omega, ?_, ?_⟩, by omega⟩
        ·rfl
        ·exact ⟨by omega, by simp [plAt, inD, numAt]⟩
       ·simp [h3, h4, h7, w1, w2, w3, k1];refine ⟨by omega, node_one (by simp; omega) ?_⟩
        simp [h3, h4, h5, h6, h7, plAt_length];refine ⟨by omega, by decide, i + 1, ⟨by omega, wrap_i64 (by omega) (by omega), ?_⟩, by omega⟩
        simp [plAt_succ, inD, numAt]
      ·have hi : (i : Int) = need (numAt b 41) := by omega
       have hi' : (need (numAt b 41)).toNat = i := by omega
       have hx : nodeOf b = ⟨b.tail.take (nth b 0).toNat, numAt b 41, plAt b i⟩ := by simp [nodeOf, plAt, hi']
       simp;rcases h8 with ⟨rfl, rfl⟩ | ⟨v, hi, rfl⟩
       ·replace hx : nodeOf b = ⟨b.tail.take (nth b 0).toNat, numAt b 41, []⟩ := hx;simp [h4, h7];refine node_BytesN (x := ⟨_, _, []⟩) (by simp; omega) ?_
        simp [h3, hm];refine bytes_Equal ?_;simp;refine f_intro (fun k5 => ?_) (fun k5 => ?_)
        ·have hr : nodeRead b = (nodeOf b, false, true) := by simp [nodeRead, k3, show b.length = 64 from by omega, show ¬ 40 < (nth b 0).toNat from by omega, hx, k5]
         rw [hr, hx] at h;simp [k5, h4, h7];exact h
        ·have hr : nodeRead b = (.nil, false, false) := by simp [nodeRead, k3, show b.length = 64 from by omega, show ¬ 40 < (nth b 0).toNat from by omega, hx, k5]
         rw [hr] at h;simp [k5, h4, h7];exact h
       ·simp [h4, h7, plAt_length];refine node_BytesN (x := ⟨_, _, plAt b i⟩) (by simp; omega) ?_
        simp [h3, hm];refine bytes_Equal ?_;simp;refine f_intro (fun k5 => ?_) (fun k5 => ?_)
        ·have hr : nodeRead b = (nodeOf b, false, true) := by simp [nodeRead, k3, show b.length = 64 from by omega, show ¬ 40 < (nth b 0).toNat from by omega, hx, k5]
         rw [hr, hx] at h;simp [k5, h4];exact h
        ·have hr : nodeRead b = (.nil, false, false) := by simp [nodeRead, k3, show b.length = 64 from by omega, show ¬ 40 < (nth b 0).toNat from by omega, hx, k5]
         rw [hr] at h;simp [k5, h4];exact h
 ·simp [k1];simpa [nodeRead, readD, ndD, Nd.nil, show ¬ b.length = 64 from by omega, inD_nil] using h
end Go.VM
