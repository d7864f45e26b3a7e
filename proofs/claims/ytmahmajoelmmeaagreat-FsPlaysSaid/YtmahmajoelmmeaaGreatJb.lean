/- Chapter 2: what is written where, and what is read of a log. No condition. -/
import Derived.Test.YtmahmajoelmmeaaGreatJa
namespace Go.VM
open Go.Proofs
set_option maxRecDepth 4000
attribute [-simp] Int.not_lt Int.not_le Nat.not_lt Nat.not_le
def markB (n : Int) : List UInt8 := sect ([109, 97, 114, 107] ++ twoB n)
def marked (b : List UInt8) : Int × Bool :=
 if b = sect [] then (0, true) else if b.length ≠ 64 then (0, false) else (numAt b 4, decide (1 ≤ numAt b 4) && (decide (numAt b 4 ≤ 150) && decide (b = markB (numAt b 4))))
theorem numAt_drop {b : List UInt8} {k i : Nat} : numAt (b.drop k) i = numAt b (k + i) := by simp [numAt, nth_drop, Nat.add_assoc]
theorem jour_marked {b : List UInt8} {Q : LV → Prop} (h : Q (.tup [.d (.int .i64 (marked b).1), .d (.bool (marked b).2)])) : VQ cf 67 [.sl (byD b)] Q := by
 refine V_intro rfl (S_intro Tryz.func67 rfl rfl (Nat.le_of_ble_eq_true rfl) ?_);simp;refine jour_sector_lit (b := []) rfl (by decide) ?_
 simp;refine bytes_Equal ?_;simp;refine f_intro (fun j1 => ?_) (fun j1 => ?_)
 ·simp [j1];rw [marked, if_pos j1] at h;exact h
 ·rw [marked, if_neg j1] at h;simp [j1];intro hbl;refine f_intro (fun j2 => ?_) (fun j2 => ?_)
  ·have j2' : b.length = 64 := by omega
   rw [if_neg (fun h => h j2')] at h;simp [j2];refine jour_one (by simp; omega) ?_
   have hn0 : 0 ≤ numAt b 4 := by unfold numAt; omega
   simp [numAt_drop];refine f_intro (fun k1 => ?_) (fun k1 => ?_)
   ·simp [k1];refine f_intro (fun k2 => ?_) (fun k2 => ?_)
    ·simp [k2];refine jour_made ?_;simp;refine bytes_Equal ?_;simp;simp [k1, k2, markB] at h;refine (congrArg (fun x => Q (.tup [.d (.int .i64 (numAt b 4)), .d (.bool x)])) ?_).mp h;exact decide_eq_decide.2 Iff.rfl
    ·simp [k2];simpa [k1, k2] using h
   ·simp [k1];simpa [k1] using h
  ·have j2' : b.length ≠ 64 := by omega
   rw [if_pos j2'] at h;simp [j2];exact h
theorem over_length {ws : List Wr} {i : Int} : ∀ {b : List UInt8}, (∀ w ∈ ws, w.data.length = 64) → b.length = 64 → (over ws i b).length = 64 := by
 induction ws with
 | nil => intro b _ h; exact h
 | cons w ws ih =>
  intro b hw hb;show (over ws i (if w.pos = i then w.data else b)).length = 64;refine ih (fun x hx => hw x (by simp [hx])) ?_
  split
  ·exact hw w (by simp)
  ·exact hb
theorem WfD.read {d : Dk} {n : Nat} {i : Int} (h : WfD d n) (h0 : 0 ≤ i) (h1 : i < d.lasts.length) : (d.read i).length = 64 := by
 have hh : d.has i = true := by simp [Dk.has, h0, h1]
 rw [Dk.read, if_pos hh];exact over_length (fun w hw => (h.wait w hw).2) (h.last _ (nth_mem (by omega)))
def lists (n : Nat) : Nat := (n + 31) / 32
def logAt (d : Dk) (k : Nat) : Int := numAt (d.read (2 + (k : Int) / 32)) (2 * (k % 32))
def logW (d : Dk) (n k : Nat) : List Wr := (List.range k).map fun k => ⟨157 + logAt d k, d.read (2 + (lists n : Int) + (k : Int))⟩
theorem logW_succ {d : Dk} {n k : Nat} : logW d n (k + 1) = logW d n k ++ [⟨157 + logAt d k, d.read (2 + (lists n : Int) + (k : Int))⟩] := by simp [logW, List.range_succ]
theorem logW_length {d : Dk} {n k : Nat} : (logW d n k).length = k := by simp [logW]
def logOk (d : Dk) (n : Nat) : Bool := (List.range n).all fun k => decide (logAt d k < d.many)
theorem jour_logged {S : St} {id n m : Nat} {d : Dk} {Q : LV → St → Prop} (hI : IsD S id d) (hw : Ok d m) (hm : 0 < d.many) (hn : n ≤ 150)
  (h1 : logOk d n = true → ∀ S' v, IsD S' id d → Kept S S' → NewSl S S' v 2 (rowD wrD (logW d n n)) → Q (.tup [v, .d (.bool true)]) S')
  (h2 : logOk d n = false → ∀ S', IsD S' id d → Kept S S' → Q (.tup [.lit [], .d (.bool false)]) S') : SQ cf 68 [.ptr id 0, .d (.int .i64 n)] S Q := by
 refine S_intro Tryz.func68 rfl rfl (Nat.le_of_ble_eq_true rfl) ?_;simp;refine X_loop (fun (k : Nat) e S' => k ≤ n ∧ e 0 = .ptr id 0 ∧ e 1 = .d (.int .i64 n) ∧ e 9 = .d (.int .i64 n) ∧ e 10 = .d (.int .i64 k) ∧ IsD S' id d ∧ Kept S S' ∧ NewSl S S' (e 6) 2 (rowD wrD (logW d n k)) ∧ ∀ i, i < k → logAt d i < d.many) (fun k => n - k) 0 ?_ ?_
 ·simp;exact ⟨hI, Kept.refl S, .inl ⟨rfl, rfl⟩⟩
 ·intro k e S' hJ;obtain ⟨g1, g2, g3, g4, g5, hI', hK, g6, g7⟩ := hJ;simp [g4, g5];refine f_intro (fun j1 => ?_) (fun j1 => ?_)
  ·have e1 : IntKind.i64.wrap (2 + IntKind.i64.wrap ((k : Int) / 32)) = 2 + (k : Int) / 32 := by
    rw [wrap_i64 (n := (k : Int) / 32) (by omega) (by omega), wrap_i64 (by omega) (by omega)]
   have e2 : IntKind.i64.wrap ((k : Int).tmod 32 * 2) = 2 * ((k : Int) % 32) := by
    rw [Int.tmod_eq_emod_of_nonneg (by omega), wrap_i64 (by omega) (by omega)]; omega
   have e3 : (2 * ((k : Int) % 32)).toNat = 2 * (k % 32) := by omega
   have hbig : (157 : Int) < d.lasts.length := by unfold Dk.many at hm; omega
   have hlen : ∀ i : Int, 0 ≤ i → i < 157 → (d.read i).length = 64 := fun i a b => hw.wf.read a (by omega)
   simp [g2, g5, j1, e1];refine dev_Read hI' hw.wf fun v S2 hk2 hv => ?_;have hl1 := hlen (2 + (k : Int) / 32) (by omega) (by omega)
   rcases hv with rfl | ⟨_, hv⟩
   ·have e6 : List.take (64 - 2 * (k % 32)) (List.drop (2 * (k % 32)) (d.read (2 + (k : Int) / 32))) = List.drop (2 * (k % 32)) (d.read (2 + (k : Int) / 32)) := List.take_of_length_le (by simp [hl1])
    simp [e2, e3, hl1, e6];refine ⟨by omega, ?_⟩
    refine jour_one (by simp [hl1]; omega) ?_
    simp [numAt_drop, g2];refine jour_Many (hI'.kept hk2) hw.wf.many ?_;simp;refine f_intro (fun j2 => ?_) (fun j2 => ?_)
    ·simp [j2];refine h2 ?_ _ (hI'.kept hk2) (hK.trans hk2)
     cases hh : logOk d n with
     | false => rfl
     | true =>
      simp only [logOk, List.all_eq_true, decide_eq_true_eq, List.mem_range] at hh;have := hh k j1;unfold logAt at this;omega
    ·have e4 : IntKind.i64.wrap (157 + numAt (d.read (2 + (k : Int) / 32)) (2 * (k % 32))) = 157 + numAt (d.read (2 + (k : Int) / 32)) (2 * (k % 32)) := by
      have := hw.wf.many;unfold Dk.many at j2;refine wrap_i64 ?_ ?_
      ·unfold numAt; omega
      ·omega
     simp [j2, g2, g3, e4];refine jour_lists (by omega) ?_
     have e5 : IntKind.i64.wrap (IntKind.i64.wrap (2 + ((n : Int) + 31) / 32) + (k : Int)) = 2 + ((n : Int) + 31) / 32 + (k : Int) := by
      rw [wrap_i64 (n := 2 + ((n : Int) + 31) / 32) (by omega) (by omega), wrap_i64 (by omega) (by omega)]
     simp [e5];refine dev_Read (hI'.kept hk2) hw.wf fun v S3 hk3 hv => ?_;have hl2 := hlen (2 + ((n : Int) + 31) / 32 + (k : Int)) (by omega) (by omega)
     rcases hv with rfl | ⟨_, hv⟩
     ·simp;have hrow : rowD wrD (logW d n k) ++ [D.agg [.int .i64 (157 + numAt (d.read (2 + (k : Int) / 32)) (2 * (k % 32))), .sl (byD (d.read (2 + ((n : Int) + 31) / 32 + (k : Int))))]] = rowD wrD (logW d n (k + 1)) := by
       rw [logW_succ]; simp [rowD, lists]; rfl
      have hll : (rowD wrD (logW d n k)).length = k := by rw [rowD_length, logW_length]
      have hM3 : Kept S S3 := (hK.trans hk2).trans hk3;have hat : logAt d k < d.many := by unfold logAt; omega
      have hnext : ∀ i, i < k + 1 → logAt d i < d.many := fun i hi => by
       by_cases h : i = k
       ·rw [h]; exact hat
       ·exact g7 i (by omega)
      have hI3 : IsD S3 id d := (hI'.kept hk2).kept hk3;have hid3 := hI3.1;have q1 : ¬ id = S3.next := by omega
      rcases g6 with ⟨g6, g8⟩ | ⟨i0, g8, g9, g6, g10⟩
      ·rw [g8] at hrow;have hk0 : k = 0 := by rw [← hll, g8]; rfl
       rw [g6];simp [g2, g3, g4, g5];refine ⟨k + 1, ⟨by omega, wrap_i64 (by omega) (by omega), hI3.of (by simp [q1]) (by simp; omega), hM3.alloc, .inr ⟨S3.next, hM3.2.1, by simp, ?_, ?_⟩, hnext⟩, by omega⟩
       ·rw [rowD_length, logW_length, hk0]
       ·simp;exact hrow
      ·have o3 : S3.obj i0 = .arr 2 (rowD wrD (logW d n k)) false := by rw [hk3.1 i0 (Nat.lt_of_lt_of_le g9 hk2.2.1), hk2.1 i0 g9]; exact g10
       have qi : ¬ id = i0 := fun e => by
        have h1 := hI3;obtain ⟨_, _, _, _, h2, _⟩ := h1;rw [e, o3] at h2; cases h2
       have hl3 : (logW d n k).length = k := logW_length;rw [g6, hll];simp [o3, g2, g3, g4, g5];refine ⟨⟨by omega, by omega⟩, ?_⟩
       refine ⟨k + 1, ⟨by omega, wrap_i64 (by omega) (by omega), hI3.of (by simp [q1, qi]) (by simp; omega), (hM3.set g8).alloc, .inr ⟨S3.next, hM3.2.1, by simp, ?_, ?_⟩, hnext⟩, by omega⟩
       ·rw [rowD_length, logW_length]
       ·have ht : List.take k (logW d n k) = logW d n k := List.take_of_length_le (by omega)
        simp [ht];exact hrow
     ·rw [hv] at hl2; cases hl2
   ·rw [hv] at hl1; cases hl1
  ·have : k = n := by omega
   subst this;simp;refine h1 ?_ _ _ hI' hK g6;simp only [logOk, List.all_eq_true, decide_eq_true_eq, List.mem_range];exact g7
def Dk.openD (d : Dk) : Int × Dk :=
 if d.down then (6, d) else if d.many = 0 ∨ d.read 0 ≠ sect [97, 112, 115, 116] then (13, d) else
 if (marked (d.read 1)).2 = false then (13, d) else if (marked (d.read 1)).1 = 0 then (0, d) else
 if logOk d (marked (d.read 1)).1.toNat then d.lands (logW d (marked (d.read 1)).1.toNat (marked (d.read 1)).1.toNat) else (13, d)
theorem marked_le {b : List UInt8} (h : (marked b).2 = true) : 0 ≤ (marked b).1 ∧ (marked b).1 ≤ 150 := by
 unfold marked at h ⊢;split
 ·exact ⟨Int.le_refl _, by decide⟩
 ·rename_i h1;rw [if_neg h1] at h;split
  ·rename_i h2; rw [if_pos h2] at h; cases h
  ·rename_i h2;rw [if_neg h2] at h;simp at h;exact ⟨by omega, h.2.1⟩
theorem jour_Open {S : St} {id n : Nat} {d : Dk} {Q : LV → St → Prop} (hI : IsD S id d) (hw : Ok d (n + 200))
  (h : ∀ S', IsD S' id d.openD.2 → Mod S S' id → Q (.d (.int .i64 d.openD.1)) S') : SQ cf 33 [.ptr id 0] S Q := by
 refine S_intro Tryz.func33 rfl rfl (Nat.le_of_ble_eq_true rfl) ?_;simp;refine dev_Down hI ?_
 cases hd : d.down with
 | true =>
  rw [Dk.openD, if_pos hd] at h;simp;exact h _ hI (Mod.refl _ _)
 | false =>
  rw [Dk.openD, if_neg (by rw [hd]; decide)] at h
  simp;refine jour_Many hI hw.wf.many ?_;simp;refine f_intro (fun j1 => ?_) (fun j1 => ?_)
  ·rw [if_pos (.inl j1)] at h;simp [j1];exact h _ hI (Mod.refl _ _)
  ·simp [j1];refine dev_Read hI hw.wf fun v S1 hk1 hv => ?_;have hbig : (157 : Int) < d.lasts.length := by unfold Dk.many at j1; omega
   have hlen : ∀ i : Int, 0 ≤ i → i < 157 → (d.read i).length = 64 := fun i a b => hw.wf.read a (by omega)
   have hl0 := hlen 0 (by decide) (by decide)
   rcases hv with rfl | ⟨_, hv⟩
   ·simp;refine jour_sector_lit (b := [97, 112, 115, 116]) rfl (by decide) ?_
    simp;refine bytes_Equal ?_;have hI1 := hI.kept hk1;have hid1 := hI1.1;have q1 : ¬ id = S1.next := by omega
    have hI2 : IsD (S1.alloc (Obj.arr 1 (byD (sect [97, 112, 115, 116])) true)) id d := hI1.of (by simp [q1]) (by simp; omega)
    have hk2 : Kept S (S1.alloc (Obj.arr 1 (byD (sect [97, 112, 115, 116])) true)) := hk1.alloc;generalize S1.alloc (Obj.arr 1 (byD (sect [97, 112, 115, 116])) true) = S2 at hI2 hk2;simp;refine f_intro (fun j2 => ?_) (fun j2 => ?_)
    ·rw [if_neg (by simp [j1, j2])] at h
     simp [j2];refine dev_Read hI2 hw.wf fun v S3 hk3 hv => ?_;have hl1 := hlen 1 (by decide) (by decide)
     rcases hv with rfl | ⟨_, hv⟩
     ·simp;refine jour_marked ?_;have hI3 := hI2.kept hk3;have hk4 := hk2.trans hk3
      cases hm2 : (marked (d.read 1)).2 with
      | false =>
       rw [if_pos hm2] at h;simp;exact h _ hI3 (hk4.mod id)
      | true =>
       rw [if_neg (by rw [hm2]; decide)] at h
       obtain ⟨m1, m2⟩ := marked_le hm2;obtain ⟨N, hN⟩ : ∃ N : Nat, (marked (d.read 1)).1 = N := ⟨(marked (d.read 1)).1.toNat, by omega⟩
       rw [hN] at h m2 ⊢;simp;refine f_intro (fun j3 => ?_) (fun j3 => ?_)
       ·rw [if_pos (by omega)] at h
        simp [j3];exact h _ hI3 (hk4.mod id)
       ·rw [if_neg (by omega)] at h
        simp [j3];rw [Int.toNat_natCast] at h;have hmany : 0 < d.many := by unfold Dk.many at j1 ⊢; omega
        refine jour_logged hI3 hw hmany (by omega) (fun h0 S5 v hI5 hk5 hv => ?_) (fun h0 S5 hI5 hk5 => ?_)
        ·rw [if_pos h0] at h;have hwl : Ok d (n + (logW d N N).length + 3) := hw.less (by rw [logW_length]; omega)
         have hln : (logW d N N).length ≤ 1000000 := by rw [logW_length]; omega
         have hk6 := hk4.trans hk5;rcases hv with ⟨rfl, g8⟩ | ⟨i0, g8, g9, rfl, g10⟩
         ·simp;rw [← g8];refine jour_lands hI5 hwl hln fun S6 hI6 hM6 => ?_;simp;exact h _ hI6 ((hk6.mod id).trans hM6)
         ·have qi : ¬ id = i0 := fun e => by
           obtain ⟨_, _, _, _, h2, _⟩ := hI5;rw [e, g10] at h2; cases h2
          simp [g10];refine jour_lands (hI5.of (by simp [qi]) (by simp; exact hI5.1)) hwl hln fun S6 hI6 hM6 => ?_
          simp;refine h _ hI6 (Mod.trans ?_ hM6);exact (hk6.mod id).set (.inr (by have := hk4.2.1; omega))
        ·rw [if_neg (by rw [h0]; decide)] at h
         simp;exact h _ hI5 ((hk4.trans hk5).mod id)
     ·rw [hv] at hl1; cases hl1
    ·rw [if_pos (.inr j2)] at h;simp [j2];exact h _ hI2 (hk2.mod id)
   ·rw [hv] at hl0; cases hl0
end Go.VM
