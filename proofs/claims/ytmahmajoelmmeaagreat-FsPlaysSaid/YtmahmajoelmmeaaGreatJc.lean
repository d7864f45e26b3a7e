/- Chapter 2: what may be written at once; it is written. No condition. -/
import Derived.Test.YtmahmajoelmmeaaGreatJb
namespace Go.VM
open Go.Proofs
set_option maxRecDepth 4000
attribute [-simp] Int.not_lt Int.not_le Nat.not_lt Nat.not_le
def poss (l : List Wr) : List Int := l.map (·.pos)
def bad (d : Dk) (l : List Wr) (k : Nat) : Bool := decide ((nth l k).pos < 0) || (decide (d.many ≤ (nth l k).pos) || (decide ((nth l k).data.length ≠ 64) || decide ((nth l k).pos ∈ poss (l.take k))))
def Dk.wrong (d : Dk) (l : List Wr) : Int := if (List.range l.length).any (bad d l) = true then 1 else if 150 < l.length then 5 else 0
theorem poss_succ {l : List Wr} {k : Nat} (h : k < l.length) : poss (l.take (k + 1)) = poss (l.take k) ++ [(nth l k).pos] := by rw [takeN h]; simp [poss]
theorem jour_wrong {S : St} {id n : Nat} {d : Dk} {l : List Wr} {Q : LV → St → Prop} (hI : IsD S id d) (hw : Ok d n) (hl : l.length ≤ 1000000)
  (h : ∀ S', IsD S' id d → Mod S S' id → Q (.d (.int .i64 (d.wrong l))) S') : SQ cf 82 [.ptr id 0, .d (.sl (rowD wrD l))] S Q := by
 refine S_intro Tryz.func82 rfl rfl (Nat.le_of_ble_eq_true rfl) ?_;have hid := hI.1;simp;intro _;refine X_loop (fun (k : Nat) e S' => k ≤ l.length ∧ e 0 = .ptr id 0 ∧ e 1 = .d (.sl (rowD wrD l)) ∧ e 5 = .mp S.next ∧ e 9 = .d (.sl (rowD wrD l)) ∧ e 10 = .d (.int .i64 l.length) ∧ e 11 = .d (.int .i64 k) ∧ IsD S' id d ∧ Mod S S' id ∧ S.next < S'.next ∧ S'.obj S.next = .mp (some .i64) (setD' (poss (l.take k))) ∧ ∀ i, i < k → bad d l i = false) (fun k => l.length - k) 0 ?_ ?_
 ·simp;exact ⟨hI.of (by simp; omega) (by simp; omega), (Mod.refl S id).alloc, rfl⟩
 ·intro k e S' hJ;obtain ⟨g1, g2, g3, g4, g5, g6, g7, hI', hK, g8, g9, g10⟩ := hJ;simp [g6, g7];refine f_intro (fun j1 => ?_) (fun j1 => ?_)
  ·have hid' := hI'.1;have q1 : ¬ id = S'.next := by omega
   have q2 : ¬ S'.next = id := by omega
   have q3 : ¬ S.next = S'.next := by omega
   have q5 : ¬ S.next = id := by omega
   have q6 : ¬ id = S.next := by omega
   simp [g5, g7, j1];refine X_drawM [0, 1, 3, 7, 15, 31, 15, 79, 255, 511, 1023, 2047, 4095, 8191, 16383, 32767, 65535, 131071, 131071, 393215, 1048575, 2097151] (by decide +kernel) (by decide +kernel) ?_
   have fin1 : bad d l k = true → ∀ S9, IsD S9 id d → Mod S S9 id → Q (.d (.int .i64 1)) S9 := fun hb S9 a b => by
    have : d.wrong l = 1 := by
     unfold Dk.wrong;rw [if_pos];exact List.any_eq_true.2 ⟨k, List.mem_range.2 j1, hb⟩
    rw [this] at h;exact h _ a b
   have hge := hK.2.1;simp;refine f_intro (fun k1 => ?_) (fun k1 => ?_)
   ·simp [k1];refine fin1 (by simp [bad, k1]) _ (hI'.of (by simp [q1]) (by simp; omega)) ?_
    exact hK.of (fun j hj hne => by simp [show ¬ j = S'.next by omega]) (by simp; omega) (by simp) rfl
   ·simp [k1, g2];refine sh_Many (hI'.of (by simp [q1]) (by simp; omega)) hw.wf.many fun S2 hI2 ho2 hn2 hc2 he2 => ?_
    have o1 := ho2 S'.next q2;have o2 := ho2 S.next q5;simp at o1 o2 he2 hn2 hc2;simp [q3] at o2;have hmod : ∀ (nx ck : Nat), S'.next ≤ nx → S'.clk ≤ ck → Mod S ⟨S2.obj, nx, ck, S2.esc⟩ id := fun nx ck a b =>
     hK.of (fun j hj hne => by
      have := ho2 j hne;simp [show ¬ j = S'.next by omega] at this
      exact this) a b he2
    have hin : ∀ (nx ck : Nat), S'.next ≤ nx → IsD ⟨S2.obj, nx, ck, S2.esc⟩ id d := fun nx ck a => hI2.of rfl (by show id < nx; omega)
    simp [hn2, hc2];refine f_intro (fun k2 => ?_) (fun k2 => ?_)
    ·simp [k2];exact ⟨by simp [q2], fin1 (by simp [bad, k1, k2]) _ (hin _ _ (by omega)) (hmod _ _ (by omega) (by omega))⟩
    ·simp [k2, o1];intro _;refine f_intro (fun k3 => ?_) (fun k3 => ?_)
     ·simp [k3, o1, o2, g4, g9];by_cases k4 : (nth l k).pos ∈ poss (l.take k)
      ·have hf : found (look (setD' (poss (l.take k))) (.int .i64 (nth l k).pos)) (.bool false) false = .d (.bool true) := by rw [look_set, if_pos k4]; rfl
       simp [hf];exact ⟨by simp [q1, q2, q6], fin1 (by simp [bad, k1, k2, k4]) _ (hin _ _ (by omega)) (hmod _ _ (by omega) (by omega))⟩
      ·have hf : found (look (setD' (poss (l.take k))) (.int .i64 (nth l k).pos)) (.bool false) false = .d (.bool false) := by rw [look_set, if_neg k4]; rfl
       have hb : bad d l k = false := by simp [bad, k1, k2, k4]; omega
       simp [hf, g2, g3, g4, g5, g6, g7, g9, o1, o2];rw [upd_set _ _ k4, ← poss_succ j1];refine ⟨by simp [q1, q2, q6], k + 1, ⟨by omega, wrap_i64 (by omega) (by omega), (hin (S'.next + 1 + 2200) (S'.clk + 2200) (by omega)).of (by simp [q6]) (by simp; omega), (hmod _ _ (by omega) (by omega)).set (.inr (Nat.le_refl _)), by omega, rfl, fun i hi => ?_⟩, by omega⟩
       by_cases h : i = k
       ·rw [h]; exact hb
       ·exact g10 i (by omega)
     ·simp [k3];exact ⟨by simp [q1, q2], fin1 (by simp [bad, k1, k2]; omega) _ (hin _ _ (by omega)) (hmod _ _ (by omega) (by omega))⟩
  ·have hk : k = l.length := by omega
   subst hk;have hw0 : d.wrong l = if 150 < l.length then 5 else 0 := by
    unfold Dk.wrong;rw [if_neg];intro hx;obtain ⟨i, hi, hb⟩ := List.any_eq_true.1 hx;rw [g10 i (List.mem_range.1 hi)] at hb; cases hb
   simp [g3];intro _;refine f_intro (fun j2 => ?_) (fun j2 => ?_)
   ·simp [j2];rw [hw0, if_pos (by omega)] at h
    exact h _ hI' hK
   ·simp [j2];rw [hw0, if_neg (by omega)] at h
    exact h _ hI' hK
def posB (q : List Wr) : List UInt8 := q.flatMap fun w => twoB w.pos
theorem posB_nil : posB [] = [] := rfl
theorem posB_cons {w : Wr} {q : List Wr} : posB (w :: q) = twoB w.pos ++ posB q := by simp [posB]
theorem posB_length : ∀ q : List Wr, (posB q).length = 2 * q.length := by
 intro q
 induction q with
 | nil => rfl
 | cons w q ih => rw [posB_cons, List.length_append, ih]; simp [twoB]; omega
theorem posB_next {P : List Wr} {j : Nat} (h : j < P.length) : byD (posB (P.take j)) ++ byD (twoB (nth P j).pos) = byD (posB (P.take (j + 1))) := by
 rw [byD_append, takeN h]; simp [posB]
attribute [irreducible] posB
def places (l : List Wr) (k : Nat) : List UInt8 := posB ((l.drop (32 * k)).take 32)
def logData (l : List Wr) (k : Nat) : List Wr := (List.range k).map fun (k : Nat) => ⟨2 + (lists l.length : Int) + (k : Int), (nth l k).data⟩
def logIdx (l : List Wr) (k : Nat) : List Wr := (List.range k).map fun (k : Nat) => ⟨2 + (k : Int), sect (places l k)⟩
def logOf (l : List Wr) : List Wr := logData l l.length ++ logIdx l (lists l.length)
theorem logData_succ {l : List Wr} {k : Nat} : logData l (k + 1) = logData l k ++ [⟨2 + (lists l.length : Int) + (k : Int), (nth l k).data⟩] := by simp [logData, List.range_succ]
theorem logIdx_succ {l : List Wr} {k : Nat} : logIdx l (k + 1) = logIdx l k ++ [⟨2 + (k : Int), sect (places l k)⟩] := by simp [logIdx, List.range_succ]
theorem logData_length {l : List Wr} {k : Nat} : (logData l k).length = k := by simp [logData]
theorem logIdx_length {l : List Wr} {k : Nat} : (logIdx l k).length = k := by simp [logIdx]
theorem NewSl.alloc {S0 S : St} {v : LV} {sz : Nat} {xs : List D} {o : Obj} (h : NewSl S0 S v sz xs) : NewSl S0 (S.alloc o) v sz xs := by
 rcases h with h | ⟨i, h1, h2, h3, h4⟩
 ·exact .inl h
 ·exact .inr ⟨i, h1, by simp; omega, h3, by simp [show ¬ i = S.next by omega, h4]⟩
theorem NewSl.kept {S0 S S' : St} {v : LV} {sz : Nat} {xs : List D} (h : NewSl S0 S v sz xs) (k : Kept S S') : NewSl S0 S' v sz xs := by
 rcases h with h | ⟨i, h1, h2, h3, h4⟩
 ·exact .inl h
 ·exact .inr ⟨i, h1, Nat.lt_of_lt_of_le h2 k.2.1, h3, by rw [k.1 i h2]; exact h4⟩
theorem NewSl.grow {S0 S : St} {v : LV} {sz b : Nat} {xs ys zs : List D} {Q : LV → St → Prop} (hv : NewSl S0 S v sz xs) (hn : S0.next ≤ S.next) (hz : xs ++ ys = zs) (hf : fits zs.length b)
  (h : ∀ i S', S'.obj i = .arr sz zs false → S0.next ≤ i → i < S'.next → (Kept S0 S → Kept S0 S') → S.next ≤ S'.next → S'.clk = S.clk → (∀ j, j < S.next → (∀ c, v ≠ .ar (.arr j) sz 0 c) → S'.obj j = S.obj j) → S'.esc = S.esc → i ≥ S.next → Q (.ar (.arr i) sz 0 zs.length) S') : TQ (growT sz b v ys) S Q := by
 subst hz;rw [List.length_append] at hf;rcases hv with ⟨rfl, rfl⟩ | ⟨i0, h1, h2, rfl, h4⟩
 ·have hf' : fits ys.length b := by simpa using hf
  rw [grow_lit0, if_pos hf'];exact h S.next (S.alloc (.arr sz ys false)) (by simp) hn (by simp) (fun hK => hK.alloc) (by simp) rfl (fun j hj _ => by simp [show ¬ j = S.next by omega]) rfl (Nat.le_refl _)
 ·rw [grow_ar, if_pos rfl];have hne : ¬ S.next = i0 := by omega
  have := h S.next ((S.set i0 .dead).alloc (.arr sz (xs ++ ys) false)) (by simp) hn (by simp) (fun hK => (hK.set h1).alloc) (by simp) rfl (fun j hj hv => by
   have : ¬ j = i0 := fun e => hv xs.length (by rw [e])
   simp [show ¬ j = S.next by omega, this]) rfl (Nat.le_refl _)
  rw [List.length_append] at this;simp [h4];exact ⟨hf, this⟩
set_option maxHeartbeats 1000000 in
theorem jour_log {l : List Wr} {Q : LV → Prop} (hl : l.length ≤ 150) (h : Q (.d (.sl (rowD wrD (logOf l))))) : VQ cf 84 [.sl (rowD wrD l)] Q := by
 refine V_intro rfl (S_intro Tryz.func84 rfl rfl (Nat.le_of_ble_eq_true rfl) ?_);simp;intro _;refine X_loop (fun (k : Nat) e S' => k ≤ l.length ∧ e 0 = .d (.sl (rowD wrD l)) ∧ e 10 = .d (.sl (rowD wrD l)) ∧ e 11 = .d (.int .i64 l.length) ∧ e 12 = .d (.int .i64 k) ∧ NewSl .empty S' (e 3) 2 (rowD wrD (logData l k))) (fun k => l.length - k) 0 ?_ ?_
 ·simp;exact .inl ⟨rfl, rfl⟩
 ·intro k e S' hJ;obtain ⟨g1, g2, g3, g4, g5, g6⟩ := hJ;simp [g4, g5];refine f_intro (fun j1 => ?_) (fun j1 => ?_)
  ·simp [g3, g5, j1];refine X_drawM [0, 0, 2, 6, 14, 0, 62, 0, 128, 510, 1022, 2047, 4095] (by decide +kernel) (by decide +kernel) ?_
   simp [g2];intro _;refine jour_lists (by omega) ?_
   have e5 : IntKind.i64.wrap (IntKind.i64.wrap (2 + ((l.length : Int) + 31) / 32) + (k : Int)) = 2 + ((l.length : Int) + 31) / 32 + (k : Int) := by
    rw [wrap_i64 (n := 2 + ((l.length : Int) + 31) / 32) (by omega) (by omega), wrap_i64 (by omega) (by omega)]
   have hrow : rowD wrD (logData l k) ++ [D.agg [.int .i64 (2 + ((l.length : Int) + 31) / 32 + (k : Int)), .sl (byD (nth l k).data)]] = rowD wrD (logData l (k + 1)) := by
    rw [logData_succ]; simp [rowD, lists]; rfl
   have hll : (rowD wrD (logData l k)).length = k := by rw [rowD_length, logData_length]
   simp [e5];rcases g6 with ⟨g6, g8⟩ | ⟨i0, g8, g9, g6, g10⟩
   ·rw [g8] at hrow;have hk0 : k = 0 := by rw [← hll, g8]; rfl
    rw [g6];simp [g2, g3, g4, g5];refine ⟨.inr (by omega), k + 1, ⟨by omega, wrap_i64 (by omega) (by omega), .inr ⟨S'.next + 1 + 1100, Nat.zero_le _, by simp, ?_, ?_⟩⟩, by omega⟩
    ·rw [rowD_length, logData_length, hk0]
    ·simp;exact hrow
   ·have q1 : ¬ i0 = S'.next := by omega
    have q2 : ¬ S'.next = i0 := by omega
    rw [g6, hll];have ht : List.take k (logData l k) = logData l k := List.take_of_length_le (by rw [logData_length]; exact Nat.le_refl _)
    simp [g2, g3, g4, g5, g10, q1, q2, ht];refine ⟨⟨by rw [logData_length]; exact Nat.le_refl _, by omega, by omega⟩, .inr (by omega), k + 1, ⟨by omega, wrap_i64 (by omega) (by omega), .inr ⟨S'.next + 1 + 1100, Nat.zero_le _, by simp, ?_, ?_⟩⟩, by omega⟩
    ·rw [rowD_length, logData_length]
    ·simp;exact hrow
  ·simp [g2];intro _;refine jour_lists (by omega) ?_
   have hk : k = l.length := by omega
   subst hk;simp;refine X_loop (fun (m : Nat) e S' => m ≤ lists l.length ∧ e 0 = .d (.sl (rowD wrD l)) ∧ e 32 = .d (.int .i64 (lists l.length)) ∧ e 33 = .d (.int .i64 m) ∧ NewSl .empty S' (e 3) 2 (rowD wrD (logData l l.length ++ logIdx l m))) (fun m => lists l.length - m) 0 ?_ ?_
   ·simp [g2, lists];simpa [logIdx] using g6
   ·intro m e2 S2 hJ2;obtain ⟨i1, i2, i3, i4, i5⟩ := hJ2;simp [i3, i4];refine f_intro (fun j2 => ?_) (fun j2 => ?_)
    ·have hml : 32 * m < l.length := by unfold lists at j2; omega
     have w1 : IntKind.i64.wrap ((m : Int) * 32) = (m : Int) * 32 := wrap_i64 (by omega) (by omega)
     have w2 : IntKind.i64.wrap ((m : Int) * 32 + 32) = (m : Int) * 32 + 32 := wrap_i64 (by omega) (by omega)
     have w3 : (if (l.length : Int) < (m : Int) * 32 + 32 then (l.length : Int) else (m : Int) * 32 + 32) = ((min l.length (m * 32 + 32) : Nat) : Int) := by split <;> omega
     have w4 : ((m : Int) * 32).toNat = m * 32 := by omega
     have w5 : min (min l.length (m * 32 + 32) - m * 32) (l.length - m * 32) = ((l.drop (32 * m)).take 32).length := by simp; omega
     have w6 : List.take (min l.length (m * 32 + 32) - m * 32) (List.drop (m * 32) l) = (l.drop (32 * m)).take 32 := by
      rw [Nat.mul_comm m 32];refine List.take_eq_take_iff.2 ?_;simp; omega
     simp only [j2];simp [i2, i4];intro _;simp only [w1, w2, w3];refine ⟨by omega, fun _ => ?_⟩
     simp only [Int.toNat_natCast, w4, w5, w6];obtain ⟨P, hP⟩ : ∃ P, P = (l.drop (32 * m)).take 32 := ⟨_, rfl⟩;have hPl : 0 < P.length ∧ P.length ≤ 32 := by rw [hP]; simp; omega
     have hpl : places l m = posB P := by rw [hP]; rfl
     rw [← hP];refine PX_mono (Q := fun x e S' => x = .exit 4 ∧ e 0 = .d (.sl (rowD wrD l)) ∧ e 3 = e2 3 ∧ e 6 = .d (.int .i64 m) ∧ e 32 = .d (.int .i64 (lists l.length)) ∧ e 33 = .d (.int .i64 m) ∧ Kept S2 S' ∧ NewSl S2 S' (e 7) 1 (byD (places l m))) ?_ ?_
     ·refine X_loop (fun (j : Nat) e S' => j ≤ P.length ∧ e 0 = .d (.sl (rowD wrD l)) ∧ e 3 = e2 3 ∧ e 6 = .d (.int .i64 m) ∧ e 32 = .d (.int .i64 (lists l.length)) ∧ e 33 = .d (.int .i64 m) ∧ e 45 = .d (.sl (rowD wrD P)) ∧ e 46 = .d (.int .i64 P.length) ∧ e 47 = .d (.int .i64 j) ∧
       Kept S2 S' ∧ NewSl S2 S' (e 7) 1 (byD (posB (P.take j)))) (fun j => P.length - j) 0 ?_ ?_
      ·simp [i2, i3, i4];exact ⟨Kept.refl S2, .inl ⟨rfl, by rw [posB_nil]; rfl⟩⟩
      ·intro j e3 S3 hJ3;obtain ⟨p1, p2, p3, p4, p5, p6, p7, p8, p9, p10, p11⟩ := hJ3;simp [p8, p9];refine f_intro (fun j3 => ?_) (fun j3 => ?_)
       ·simp [p7, p9, j3];refine jour_two ?_;simp;obtain ⟨zs, hzs⟩ : ∃ zs, zs = byD (posB (P.take (j + 1))) := ⟨_, rfl⟩;have hst2 : byD (posB (P.take j)) ++ byD (twoB (nth P j).pos) = zs := by rw [hzs]; exact posB_next j3
        have hbl : zs.length ≤ 64 := by rw [hzs, byD_length, posB_length, List.length_take]; omega
        have a11 := p11.alloc (o := Obj.cells [.d (.int .i64 (nth P j).pos), .d (.sl (byD (nth P j).data))]);have a10 := p10.alloc (o := Obj.cells [.d (.int .i64 (nth P j).pos), .d (.sl (byD (nth P j).data))]);have hfit := fits1 (n := zs.length) (by omega)
        refine NewSl.grow a11 a10.2.1 hst2 hfit ?_;intro i S4 s1 s2 s3 s4 s5 s6 s7 s8 s9;simp [p2, p3, p4, p5, p6, p7, p8, p9];refine ⟨j + 1, ⟨by omega, wrap_i64 (by omega) (by omega), s4 a10, ?_⟩, by omega⟩
        rw [← hzs];exact .inr ⟨i, s2, s3, rfl, s1⟩
       ·have hj : j = P.length := by omega
        subst hj;rw [List.take_length, ← hpl] at p11;simp;exact ⟨p2, p3, p4, p5, p6, p10, p11⟩
     ·rintro x e3 S3 ⟨rfl, p2, p3, p4, p5, p6, p10, p11⟩;have hplen : (places l m).length = 2 * P.length := by rw [hpl, posB_length]
      have i6 := i5.kept p10;simp [p4];rcases p11 with ⟨p11, p12⟩ | ⟨i7, p12, p13, p11, p14⟩
      ·have := congrArg List.length p12;rw [byD_length, hplen] at this; simp at this; omega
      ·rw [p11];refine jour_sector_ar (b := places l m) p14 (byD_length _) (by omega) ?_
       have w7 : IntKind.i64.wrap (2 + (m : Int)) = 2 + (m : Int) := wrap_i64 (by omega) (by omega)
       simp [p3, w7];obtain ⟨zs, hzs⟩ : ∃ zs, zs = rowD wrD (logData l l.length ++ logIdx l (m + 1)) := ⟨_, rfl⟩;have hst : rowD wrD (logData l l.length ++ logIdx l m) ++ [D.agg [.int .i64 (2 + (m : Int)), .sl (byD (sect (places l m)))]] = zs := by
        rw [hzs, logIdx_succ]; simp [rowD]; rfl
       have hfit : fits zs.length 32 := by
        rw [hzs, rowD_length, List.length_append, logData_length, logIdx_length]; unfold fits; unfold lists at j2; omega
       refine NewSl.grow (i5.kept ((p10.set p12).alloc.set (i := S3.next) p10.2.1)) (Nat.zero_le _) hst hfit ?_;intro i S4 s1 s2 s3 s4 s5 s6 s7 s8 s9;simp [p2, p5, p6];refine ⟨m + 1, ⟨by omega, wrap_i64 (by omega) (by omega), ?_⟩, by omega⟩
       rw [← hzs];exact .inr ⟨i, s2, s3, rfl, s1⟩
    ·have hm : m = lists l.length := by omega
     subst hm;simp;refine NewSl.close i5 ?_;exact h
end Go.VM
