/- Chapter 2: many places are written at once. No condition. -/
import Derived.Test.YtmahmajoelmmeaaGreatJc
namespace Go.VM
open Go.Proofs
set_option maxRecDepth 4000
attribute [-simp] Int.not_lt Int.not_le Nat.not_lt Nat.not_le
theorem wrong_ok {d : Dk} {l : List Wr} (h : d.wrong l = 0) : l.length ≤ 150 ∧ ∀ k, k < l.length → 0 ≤ (nth l k).pos ∧ (nth l k).pos < d.many ∧ (nth l k).data.length = 64 ∧ (nth l k).pos ∉ poss (l.take k) := by
 unfold Dk.wrong at h;split at h
 ·cases h
 ·rename_i hx;split at h
  ·cases h
  ·refine ⟨by omega, fun k hk => ?_⟩
   have hb : bad d l k = false := by
    cases hb : bad d l k with
    | false => rfl
    | true => exact absurd (List.any_eq_true.2 ⟨k, List.mem_range.2 hk, hb⟩) hx
   simp [bad] at hb;exact ⟨by omega, by omega, hb.2.2.1, hb.2.2.2⟩
def landing (l : List Wr) : List Wr := l.map fun w => ⟨157 + w.pos, w.data⟩
def Dk.commit (d : Dk) (l : List Wr) : Int × Dk :=
 if d.wrong l ≠ 0 ∨ l = [] then (d.wrong l, d) else
 if (d.writes (logOf l)).1 ≠ 0 then d.writes (logOf l) else
 if ((d.writes (logOf l)).2.writes [⟨1, markB l.length⟩]).1 ≠ 0 then (d.writes (logOf l)).2.writes [⟨1, markB l.length⟩] else
 ((d.writes (logOf l)).2.writes [⟨1, markB l.length⟩]).2.lands (landing l)
theorem logOf_length {l : List Wr} : (logOf l).length = l.length + lists l.length := by rw [logOf, List.length_append, logData_length, logIdx_length]
theorem landing_next {l : List Wr} {k : Nat} (h : k < l.length) : landing (l.take (k + 1)) = landing (l.take k) ++ [⟨157 + (nth l k).pos, (nth l k).data⟩] := by rw [takeN h]; simp [landing]
set_option maxHeartbeats 1000000 in
theorem jour_Commit {S : St} {id n : Nat} {d : Dk} {l : List Wr} {Q : LV → St → Prop} (hI : IsD S id d) (hw : Ok d (n + 320)) (hl : l.length ≤ 1000000)
  (h : ∀ S', IsD S' id (d.commit l).2 → Mod S S' id → Q (.d (.int .i64 (d.commit l).1)) S') : SQ cf 45 [.ptr id 0, .d (.sl (rowD wrD l))] S Q := by
 refine S_intro Tryz.func45 rfl rfl (Nat.le_of_ble_eq_true rfl) ?_;simp;refine jour_wrong hI hw hl fun S1 hI1 hM1 => ?_;simp;refine f_intro (fun j1 => ?_) (fun j1 => ?_)
 ·simp [j1];intro _;refine f_intro (fun j2 => ?_) (fun j2 => ?_)
  ·rw [Dk.commit, if_pos (.inr j2)] at h;simp [j2];rw [j1] at h;exact h _ hI1 hM1
  ·obtain ⟨w1, w2⟩ := wrong_ok j1;have hlp : 0 < l.length := List.length_pos_iff.2 j2;rw [Dk.commit, if_neg (by rintro (h | h); exact h j1; rw [h] at hlp; cases hlp)] at h
   simp [j2];refine jour_log w1 ?_;have hll : (logOf l).length ≤ 155 := by rw [logOf_length]; unfold lists; omega
   have hw1 : Ok d ((n + 157) + (logOf l).length + 1) := hw.less (by omega)
   simp;refine jour_writes hI1 hw1 (by omega) fun S2 hI2 hM2 => ?_
   have hw2 := hw1.writes;simp;refine f_intro (fun j3 => ?_) (fun j3 => ?_)
   ·rw [if_neg (fun h => h j3)] at h;simp [j3];intro _;refine jour_made ?_;have hw3 : Ok (d.writes (logOf l)).2 ((n + 155) + [(⟨1, markB l.length⟩ : Wr)].length + 1) := hw2;simp;refine jour_writes (l := [⟨1, markB l.length⟩]) hI2 hw3 (by simp) fun S3 hI3 hM3 => ?_
    have hw4 := hw3.writes;simp;refine f_intro (fun j4 => ?_) (fun j4 => ?_)
    ·rw [if_neg (fun h => h j4)] at h;simp [j4];intro _;refine X_loop (fun (k : Nat) e S' => k ≤ l.length ∧ e 0 = .ptr id 0 ∧ e 41 = .d (.sl (rowD wrD l)) ∧ e 42 = .d (.int .i64 l.length) ∧ e 43 = .d (.int .i64 k) ∧ Kept S3 S' ∧ NewSl S3 S' (e 8) 2 (rowD wrD (landing (l.take k)))) (fun k => l.length - k) 0 ?_ ?_
     ·simp;exact ⟨Kept.refl _, .inl ⟨rfl, rfl⟩⟩
     ·intro k e S4 hJ;obtain ⟨g1, g2, g3, g4, g5, g6, g7⟩ := hJ;simp [g4, g5];refine f_intro (fun j5 => ?_) (fun j5 => ?_)
      ·obtain ⟨b1, b2, b3, b4⟩ := w2 k j5;have hmm := hw.wf.many;have e1 : IntKind.i64.wrap (157 + (nth l k).pos) = 157 + (nth l k).pos := by
        unfold Dk.many at b2;exact wrap_i64 (by omega) (by omega)
       simp [g3, g5, j5, e1];obtain ⟨zs, hzs⟩ : ∃ zs, zs = rowD wrD (landing (l.take (k + 1))) := ⟨_, rfl⟩;have hst : rowD wrD (landing (l.take k)) ++ [D.agg [.int .i64 (157 + (nth l k).pos), .sl (byD (nth l k).data)]] = zs := by
        rw [hzs, landing_next j5]; simp [rowD]; rfl
       have hfit : fits zs.length 32 := by
        rw [hzs, rowD_length]; unfold fits; simp [landing]; omega
       refine NewSl.grow g7.alloc g6.alloc.2.1 hst hfit ?_;intro i S5 s1 s2 s3 s4 s5 s6 s7 s8 s9;simp [g2, g3, g4, g5];refine ⟨k + 1, ⟨by omega, wrap_i64 (by omega) (by omega), s4 g6.alloc, ?_⟩, by omega⟩
       rw [← hzs];exact .inr ⟨i, s2, s3, rfl, s1⟩
      ·have hk : k = l.length := by omega
       subst hk;rw [List.take_length] at g7;have hwl : Ok ((d.writes (logOf l)).2.writes [⟨1, markB l.length⟩]).2 (n + (landing l).length + 3) := hw4.less (by simp [landing]; omega)
       have hln : (landing l).length ≤ 1000000 := by simp [landing]; omega
       have hI5 := hI3.kept g6;have hM5 := ((hM1.trans hM2).trans hM3).trans (g6.mod id);have hge : S.next ≤ S3.next := ((hM1.trans hM2).trans hM3).2.1;rcases g7 with ⟨g7, g8⟩ | ⟨i0, g8, g9, g7, g10⟩
       ·simp [g2, g7];rw [← g8];refine jour_lands hI5 hwl hln fun S6 hI6 hM6 => ?_;simp;exact h _ hI6 (hM5.trans hM6)
       ·have qi : ¬ id = i0 := fun e => by
         obtain ⟨_, _, _, _, h2, _⟩ := hI5;rw [e, g10] at h2; cases h2
        simp [g2, g7, g10];refine jour_lands (hI5.of (by simp [qi]) (by simp; exact hI5.1)) hwl hln fun S6 hI6 hM6 => ?_
        simp;refine h _ hI6 (Mod.trans ?_ hM6);exact hM5.set (.inr (by omega))
    ·rw [if_pos j4] at h;simp [j4];exact h _ hI3 ((hM1.trans hM2).trans hM3)
   ·rw [if_pos j3] at h;simp [j3];exact h _ hI2 (hM1.trans hM2)
 ·rw [Dk.commit, if_pos (.inl j1)] at h;simp [j1];exact h _ hI1 hM1
end Go.VM
