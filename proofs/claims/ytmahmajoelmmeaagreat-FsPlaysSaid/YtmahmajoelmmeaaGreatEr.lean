/- Chapter 1: the reference's disk. No condition. -/
import Derived.Test.YtmahmajoelmmeaaGreatDl
namespace Go.VM
open Go.Proofs
set_option maxRecDepth 4000
attribute [-simp] Int.not_lt Int.not_le Nat.not_lt Nat.not_le
def IsR (S : St) (id : Nat) (d : Dk) : Prop := id < S.next ∧ ∃ c0 c1 c4, S.obj id = .cells [c0, c1, .d (.int .i64 d.ops), .d (.int .i64 d.pos), c4, .d (.bool d.armed), .d (.bool d.down)] ∧
 SlC 1 c0 (rowD sb d.lasts) ∧ SlC 2 c1 (rowD wrD d.waits) ∧ SlC 1 c4 (boD d.keep)
theorem IsR.of {S S' : St} {id : Nat} {d : Dk} (h : IsR S id d) (ho : S'.obj id = S.obj id) (hn : id < S'.next) : IsR S' id d := by
 obtain ⟨_, c0, c1, c3, h1, h2⟩ := h;exact ⟨hn, c0, c1, c3, ho.trans h1, h2⟩
theorem IsR.kept {S S' : St} {id : Nat} {d : Dk} (h : IsR S id d) (k : Kept S S') : IsR S' id d := h.of (k.1 id h.1) (Nat.lt_of_lt_of_le h.1 k.2.1)
theorem IsR.mod {S S' : St} {id i : Nat} {d : Dk} (h : IsR S id d) (k : Mod S S' i) (hne : id ≠ i) : IsR S' id d := h.of (k.1 id h.1 hne) (Nat.lt_of_lt_of_le h.1 k.2.1)
theorem ref_Restart {S : St} {id : Nat} {d : Dk} {Q : LV → St → Prop} (hI : IsR S id d) (h : ∀ S', IsR S' id d.restart → Mod S S' id → Q (.tup []) S') : SQ cf 26 [.ptr id 0] S Q := by
 obtain ⟨hid, c0, c1, c4, h1, h2, h3, h4⟩ := hI;refine S_intro Tryz.func26 rfl rfl (Nat.le_of_ble_eq_true rfl) ?_;simp [h1];refine h _ ⟨hid, c0, _, c4, by simp [Dk.restart], h2, .inl ⟨rfl, rfl⟩, h4⟩ ?_
 exact (Mod.refl S id).set (.inl rfl)
theorem ref_lasts {S : St} {id : Nat} {w : Wr} {l : List (List UInt8)} {v0 : Nat} {cs : List LV} {Q : LV → St → Prop} (hid : id < S.next) (h1 : S.obj id = .cells (.own v0 1 (rowD sb l) false :: cs)) (hw : 0 ≤ w.pos ∧ w.pos < l.length) (hd : w.data.length = 64)
  (h : ∀ S', S'.obj id = .cells (.own v0 1 (rowD sb (l.set w.pos.toNat w.data)) false :: cs) → Mod S S' id → Q (.tup []) S') : SQ cf 147 [.ptr id 0, .d (wrD w)] S Q := by
 refine S_intro Tryz.func147 rfl rfl (Nat.le_of_ble_eq_true rfl) ?_;have q1 : ¬ id = S.next := by omega
 have q2 : ¬ S.next = id := by omega
 simp [wrD];refine X_draw (by decide) ?_
 have q4 : ∀ k m, ¬ id = S.next + k + m := fun k m => by omega
 have q5 : ∀ k m, ¬ S.next + k + m = id := fun k m => by omega
 have q6 : ∀ m, ¬ S.next = S.next + 1 + m := fun m => by omega
 simp [h1, q1, q2, q4, q5, q6];refine ⟨by omega, hw, by omega, by decide, h _ (by simp) ?_⟩
 exact (Mod.refl S id).of (fun j hj hne => by simp [hne, show ¬ j = S.next from by omega, show ∀ k m, ¬ j = S.next + k + m from fun k m => by omega]) (by simp; omega) (by simp) rfl
theorem ref_Arm {S : St} {id : Nat} {d : Dk} {c : Cr} {Q : LV → St → Prop} (hI : IsR S id d) (hc : c.keep.length ≤ 1000000) {v : LV} (hv : v = .d (crD c) ∨ v = .agg [.d (.int .i64 c.pos), .d (.sl (boD c.keep))]) (h : ∀ S', IsR S' id (d.arm c) → Mod S S' id → Q (.tup []) S') : SQ cf 25 [.ptr id 0, v] S Q := by
 obtain ⟨hid, c0, c1, c4, h1, h2, h3, h4⟩ := hI;refine S_intro Tryz.func25 rfl rfl (Nat.le_of_ble_eq_true rfl) ?_;rcases hv with rfl | rfl
 ·have q1 : ¬ id = S.next := by omega
  have q2 : ¬ S.next = id := by omega
  have q3 : ∀ k, ¬ id = S.next + k := fun k => by omega
  simp [crD, boD];refine X_draw (by decide) ?_
  have q4 : ∀ k m, ¬ id = S.next + k + m := fun k m => by omega
  have q5 : ∀ k m, ¬ S.next + k + m = id := fun k m => by omega
  have q6 : ∀ m, ¬ S.next = S.next + 1 + m := fun m => by omega
  have q7 : ∀ m, ¬ S.next + 1 + m = S.next := fun m => by omega
  simp [h1, q1, q2, q4, q5, q6];refine ⟨by omega, ⟨by decide, by decide⟩, h _ ⟨by simp; omega, c0, c1, .own (S.clk + 1100) 1 (rowD bo c.keep) false, by simp [Dk.arm], h2, h3, .inr ⟨_, rfl⟩⟩ ?_⟩
  exact (Mod.refl S id).of (fun j hj hne => by simp [hne, show ¬ j = S.next from by omega, show ∀ k m, ¬ j = S.next + k + m from fun k m => by omega]) (by simp; omega) (by simp) rfl
 ·have q1 : ¬ id = S.next := by omega
  have q2 : ¬ S.next = id := by omega
  have q3 : ∀ k, ¬ id = S.next + k := fun k => by omega
  simp [boD];refine X_draw (by decide) ?_
  have q4 : ∀ k m, ¬ id = S.next + k + m := fun k m => by omega
  have q5 : ∀ k m, ¬ S.next + k + m = id := fun k m => by omega
  have q6 : ∀ m, ¬ S.next = S.next + 1 + m := fun m => by omega
  have q7 : ∀ m, ¬ S.next + 1 + m = S.next := fun m => by omega
  simp [h1, q1, q2, q4, q5, q6];refine ⟨by omega, ⟨by decide, by decide⟩, h _ ⟨by simp; omega, c0, c1, .own (S.clk + 1100) 1 (rowD bo c.keep) false, by simp [Dk.arm], h2, h3, .inr ⟨_, rfl⟩⟩ ?_⟩
  exact (Mod.refl S id).of (fun j hj hne => by simp [hne, show ¬ j = S.next from by omega, show ∀ k m, ¬ j = S.next + k + m from fun k m => by omega]) (by simp; omega) (by simp) rfl
theorem ref_crash {S : St} {id : Nat} {d : Dk} {Q : LV → St → Prop} (hI : IsR S id d) (hw : ∀ w ∈ d.waits, (0 ≤ w.pos ∧ w.pos < d.lasts.length) ∧ w.data.length = 64) (hf : d.waits.length ≤ 1000000) (ho : 0 ≤ d.ops ∧ d.ops ≤ 1000000)
  (h : ∀ S', IsR S' id d.falls.2 → Mod S S' id → Q (.d (.bool d.falls.1)) S') : SQ cf 146 [.ptr id 0] S Q := by
 obtain ⟨hid, c0, c1, c4, h1, h2, h3, h4⟩ := hI;refine S_intro Tryz.func146 rfl rfl (Nat.le_of_ble_eq_true rfl) ?_;simp;refine X_draw (by decide) ?_
 have wo : IntKind.i64.wrap (d.ops + 1) = d.ops + 1 := wrap_i64 (by omega) (by omega)
 have fin : (d.armed = false ∨ d.ops < d.pos) → Q (.d (.bool false)) (St.set ⟨S.obj, S.next + 1700, S.clk + 1700, S.esc⟩ id (.cells [c0, c1, .d (.int .i64 (d.ops + 1)), .d (.int .i64 d.pos), c4, .d (.bool d.armed), .d (.bool d.down)])) := by
  intro hc;have e : d.falls = (false, { d with ops := d.ops + 1 }) := by
   unfold Dk.falls;rw [if_pos hc]
  rw [e] at h;refine h _ ⟨by simp; omega, c0, c1, c4, by simp, h2, h3, h4⟩ ?_
  exact (Mod.refl S id).of (fun j hj hne => by simp [hne]) (by simp) (by simp) rfl
 cases ha : d.armed with
 | false =>
  simp [h1, ha, wo];rw [ha] at fin;exact fin (.inl rfl)
 | true =>
  simp [h1, ha];by_cases hlt : d.ops < d.pos
  ·simp [hlt, h1, wo];exact fin (.inr hlt)
  ·have e : d.falls = (true, { d.last (kept d.keep) with down := true }) := by
    unfold Dk.falls;rw [if_neg (by simp [ha]; omega)]
   rw [e] at h;simp [hlt];have fin2 : ∀ S' c0', id < S'.next → S'.obj id = .cells [c0', .lit [], .d (.int .i64 d.ops), .d (.int .i64 d.pos), c4, .d (.bool true), .d (.bool true)] → SlC 1 c0' (rowD sb (land (kept d.keep) d.waits d.lasts d.waits.length)) → Mod S S' id → Q (.d (.bool true)) S' := fun S' c0' i1 i2 i3 i4 => h S' ⟨i1, c0', .lit [], c4, by simpa [Dk.last, ha] using i2, i3, .inl ⟨rfl, rfl⟩, h4⟩ i4
   clear h fin;rcases h3 with ⟨rfl, h3⟩ | ⟨v, rfl⟩
   ·have hz : d.waits = [] := by
     cases hd : d.waits with
     | nil => rfl
     | cons b l => rw [hd] at h3; cases h3
    rw [hz] at fin2;refine X_loop (fun (i : Nat) e S' => e 0 = .ptr id 0 ∧ e 3 = .d (.int .i64 0) ∧ S' = ⟨S.obj, S.next + 1700, S.clk + 1700, S.esc⟩) (fun i => i) 0 ?_ ?_
    ·simp
    ·intro i e S' hJ;obtain ⟨g1, g2, rfl⟩ := hJ;simp [g1, g2, h1];refine fin2 _ c0 (by simp; omega) (by simp [ha]) (by simpa [land] using h2) ?_
     exact (Mod.refl S id).of (fun j hj hne => by simp [hne]) (by simp) (by simp) rfl
   ·by_cases hz : d.waits.length = 0
    ·have hz2 : d.waits = [] := List.eq_nil_of_length_eq_zero hz;rw [hz2] at fin2;refine X_loop (fun (i : Nat) e S' => e 0 = .ptr id 0 ∧ e 3 = .d (.int .i64 0) ∧ S' = ⟨S.obj, S.next + 1700, S.clk + 1700, S.esc⟩) (fun i => i) 0 ?_ ?_
     ·simp
     ·intro i e S' hJ;obtain ⟨g1, g2, rfl⟩ := hJ;simp [g1, g2, h1, hz2];refine fin2 _ c0 (by simp; omega) (by simp [ha]) (by simpa [land] using h2) ?_
      exact (Mod.refl S id).of (fun j hj hne => by simp [hne]) (by simp) (by simp) rfl
    ·obtain ⟨v0, rfl⟩ : ∃ v0, c0 = .own v0 1 (rowD sb d.lasts) false := by
      rcases h2 with ⟨_, h2⟩ | h2
      ·have q : d.lasts.length = 0 := by rw [← rowD_length (enc := sb), h2]; rfl
       have := (hw _ (nth_mem (i := 0) (l := d.waits) (by omega))).1
       omega
      ·exact h2
     refine X_loop (fun (k : Nat) e S' => k ≤ d.waits.length ∧ e 0 = .ptr id 0 ∧ e 3 = .d (.int .i64 k) ∧ Mod S S' id ∧
      S'.obj id = .cells [.own v0 1 (rowD sb (land (kept d.keep) d.waits d.lasts k)) false, .own v 2 (rowD wrD d.waits) false, .d (.int .i64 d.ops), .d (.int .i64 d.pos), c4, .d (.bool true), .d (.bool d.down)]) (fun k => d.waits.length - k) 0 ?_ ?_
     ·simp [h1, land, ha];exact (Mod.refl S id).of (fun j hj hne => by simp) (by simp) (by simp) rfl
     ·intro k e S' hJ;obtain ⟨g1, g2, g3, gM, g5⟩ := hJ;have hidk : id < S'.next := Nat.lt_of_lt_of_le hid gM.2.1;simp [g2, g3, g5];intro _;refine f_intro (fun j1 => ?_) (fun j1 => ?_)
      ·rcases h4 with ⟨rfl, h4⟩ | ⟨v4, rfl⟩
       ·have hz4 : d.keep = [] := by
         cases hd : d.keep with
         | nil => rfl
         | cons b l => rw [hd] at h4; cases h4
        have hk0 : ¬ (k : Int) < 0 := by omega
        have hkk : kept d.keep k = false := by simp [kept, hz4]
        simp [g2, g3, g5, hk0];refine ⟨k + 1, ⟨by omega, wrap_i64 (by omega) (by omega), gM, ?_⟩, by omega⟩
        rw [land_succ, hkk]; rfl
       ·unfold boD at g5;simp [g2, g3, g5];intro _;refine f_intro (fun j2 => ?_) (fun j2 => ?_)
        ·cases hb : nth d.keep k with
         | true =>
          have hkk : kept d.keep k = true := by simp [kept, j2, hb]
          simp [g2, g3, g5, j1, j2, hb, bo];refine ref_lasts (w := nth d.waits k) (by simpa using hidk) (by simpa using g5) ?_ ?_ fun S2 i1 i2 => ?_
          ·rw [land_length]; exact (hw _ (nth_mem j1)).1
          ·exact (hw _ (nth_mem j1)).2
          ·simp [g2, g3];refine ⟨k + 1, ⟨by omega, wrap_i64 (by omega) (by omega), gM.trans i2, ?_⟩, by omega⟩
           rw [land_succ, hkk]; simpa [boD] using i1
         | false =>
          have hkk : kept d.keep k = false := by simp [kept, j2, hb]
          simp [g2, g3, g5, j1, j2, hb, bo];refine ⟨k + 1, ⟨by omega, wrap_i64 (by omega) (by omega), gM, ?_⟩, by omega⟩
          rw [land_succ, hkk]; exact ⟨rfl, rfl⟩
        ·have hkk : kept d.keep k = false := by simp [kept, j2]
         simp [g2, g3, g5, j1, j2];refine ⟨k + 1, ⟨by omega, wrap_i64 (by omega) (by omega), gM, ?_⟩, by omega⟩
         rw [land_succ, hkk]; exact ⟨rfl, rfl⟩
      ·have hk : k = d.waits.length := by omega
       subst hk;simp [g2, g5];exact fin2 _ _ (by simpa using hidk) (by simp) (.inr ⟨v0, rfl⟩) (gM.set (.inl rfl))
theorem ref_Write {S : St} {id n : Nat} {d : Dk} {i : Int} {b : List UInt8} {Q : LV → St → Prop} (hI : IsR S id d) (hw : WfD d (n + 1))
  (h : ∀ S', IsR S' id (d.write i b).2 → Mod S S' id → Q (.d (.int .i64 (d.write i b).1)) S') : SQ cf 126 [.ptr id 0, .d (.int .i64 i), .d (.sl (byD b))] S Q := by
 have hI0 := hI;obtain ⟨hid, c0, c1, c4, h1, h2, h3, h4⟩ := hI;refine S_intro Tryz.func126 rfl rfl (Nat.le_of_ble_eq_true rfl) ?_;simp [h1]
 cases hd : d.down with
 | true =>
  have e : d.write i b = (6, d) := by simp [Dk.write, hd]
  rw [e] at h;simp;exact h _ hI0 (Mod.refl _ _)
 | false =>
  simp;have hbad : ¬ (0 ≤ i ∧ i < d.lasts.length ∧ b.length = 64) → Q (.d (.int .i64 1)) S := by
   intro hc;have e : d.write i b = (1, d) := by
    simp [Dk.write, hd, Dk.has];omega
   rw [e] at h;exact h _ hI0 (Mod.refl _ _)
  refine f_intro (fun k1 => ?_) (fun k1 => ?_)
  ·simp [k1];exact hbad (by omega)
  ·simp [k1, h1];rcases h2 with ⟨rfl, h2⟩ | ⟨v0, rfl⟩
   ·have hz : d.lasts.length = 0 := by rw [← rowD_length (enc := sb), h2]; rfl
    simp [show 0 ≤ i from by omega]
    exact hbad (by omega)
   ·simp;intro _;refine f_intro (fun k2 => ?_) (fun k2 => ?_)
    ·simp [k2];exact hbad (by omega)
    ·simp [k2];intro _;refine f_intro (fun k3 => ?_) (fun k3 => ?_)
     ·have hb : b.length = 64 := by omega
      have hi : d.has i = true := by simp [Dk.has]; omega
      simp [k3];refine ref_crash hI0 hw.wait (by have := hw.few; omega) (by have := hw.ops; omega) fun S1 hI1 hM1 => ?_
      cases hfl : d.falls.1 with
      | true =>
       have e : d.write i b = (6, d.falls.2) := by simp [Dk.write, hd, hi, hb, hfl]
       rw [e] at h;simp;exact h _ hI1 hM1
      | false =>
       have e : d.write i b = (0, { d.falls.2 with waits := d.falls.2.waits ++ [⟨i, b⟩] }) := by simp [Dk.write, hd, hi, hb, hfl]
       rw [e] at h;have hwf := Dk.falls_wf hw;clear h1;obtain ⟨hid, c0, c1, c4, h1, h2, h3, h4⟩ := hI1;have q1 : ∀ m, ¬ id = S1.next + m := fun m => by omega
       have q2 : ∀ m, ¬ S1.next + m = id := fun m => by omega
       simp;refine X_draw (by decide) ?_
       have q3 : ∀ j, j < S.next → j ≠ id → ∀ m, ¬ j = S1.next + m := fun j _ _ m => by have := hM1.2.1; omega
       rcases h3 with ⟨rfl, h3⟩ | ⟨v, rfl⟩
       ·have hz : d.falls.2.waits = [] := by
         cases hz : d.falls.2.waits with
         | nil => rfl
         | cons w l => rw [hz] at h3; cases h3
        simp [h1, q1, q2, hb];refine ⟨by decide, h _ ⟨by simp; omega, c0, .own (S1.clk + 1400) 2 (rowD wrD [⟨i, b⟩]) false, c4, by simp [rowD_one, wrD], h2, .inr ⟨_, by rw [hz]; rfl⟩, h4⟩ ?_⟩
        exact hM1.of (fun j hj hne => by simp [hne, q3 j hj hne]) (by simp) (by simp) rfl
       ·simp [h1, q1, q2, hb];refine ⟨by have := hwf.few; omega, by decide, h _ ⟨by simp; omega, c0, .own (S1.clk + 1400) 2 (rowD wrD (d.falls.2.waits ++ [⟨i, b⟩])) false, c4, by simp [rowD_snoc, wrD], h2, .inr ⟨_, rfl⟩, h4⟩ ?_⟩
        exact hM1.of (fun j hj hne => by simp [hne, q3 j hj hne]) (by simp) (by simp) rfl
     ·simp [k3];exact hbad (by omega)
theorem ref_Flush {S : St} {id n : Nat} {d : Dk} {Q : LV → St → Prop} (hI : IsR S id d) (hw : WfD d (n + 1))
  (h : ∀ S', IsR S' id d.flush.2 → Mod S S' id → Q (.d (.int .i64 d.flush.1)) S') : SQ cf 127 [.ptr id 0] S Q := by
 have hI0 := hI;obtain ⟨hid, c0, c1, c4, h1, h2, h3, h4⟩ := hI;refine S_intro Tryz.func127 rfl rfl (Nat.le_of_ble_eq_true rfl) ?_
 cases hd : d.down with
 | true =>
  have e : d.flush = (6, d) := by simp [Dk.flush, hd]
  rw [e] at h;simp [h1, hd];exact h _ hI0 (Mod.refl _ _)
 | false =>
  simp [h1, hd];refine ref_crash hI0 hw.wait (by have := hw.few; omega) (by have := hw.ops; omega) fun S1 hI1 hM1 => ?_
  cases hfl : d.falls.1 with
  | true =>
   have e : d.flush = (6, d.falls.2) := by simp [Dk.flush, hd, hfl]
   rw [e] at h;simp;exact h _ hI1 hM1
  | false =>
   have e : d.flush = (0, d.falls.2.last fun _ => true) := by simp [Dk.flush, hd, hfl]
   rw [e] at h;have hwf := Dk.falls_wf hw;generalize d.falls.2 = dd at h hwf hI1;clear h1;obtain ⟨hid, c0, c1, c4, h1, h2, h3, h4⟩ := hI1;have fin2 : ∀ S' c0', id < S'.next → S'.obj id = .cells [c0', .lit [], .d (.int .i64 dd.ops), .d (.int .i64 dd.pos), c4, .d (.bool dd.armed), .d (.bool dd.down)] → SlC 1 c0' (rowD sb (land (fun _ => true) dd.waits dd.lasts dd.waits.length)) → Mod S S' id → Q (.d (.int .i64 0)) S' := fun S' c0' i1 i2 i3 i4 => h S' ⟨i1, c0', .lit [], c4, by simpa [Dk.last] using i2, i3, .inl ⟨rfl, rfl⟩, h4⟩ i4
   simp;rcases h3 with ⟨rfl, h3⟩ | ⟨v, rfl⟩
   ·have hz : dd.waits = [] := by
     cases hd : dd.waits with
     | nil => rfl
     | cons b l => rw [hd] at h3; cases h3
    rw [hz] at fin2;refine X_loop (fun (i : Nat) e S' => e 0 = .ptr id 0 ∧ e 3 = .d (.int .i64 0) ∧ S' = S1) (fun i => i) 0 ?_ ?_
    ·simp
    ·intro i e S' hJ;obtain ⟨g1, g2, rfl⟩ := hJ;simp [g1, g2, h1];exact fin2 _ c0 (by simpa using hid) (by simp) (by simpa [land] using h2) (hM1.set (.inl rfl))
   ·by_cases hz : dd.waits.length = 0
    ·have hz2 : dd.waits = [] := List.eq_nil_of_length_eq_zero hz;rw [hz2] at fin2;refine X_loop (fun (i : Nat) e S' => e 0 = .ptr id 0 ∧ e 3 = .d (.int .i64 0) ∧ S' = S1) (fun i => i) 0 ?_ ?_
     ·simp
     ·intro i e S' hJ;obtain ⟨g1, g2, rfl⟩ := hJ;simp [g1, g2, h1, hz2];exact fin2 _ c0 (by simpa using hid) (by simp) (by simpa [land] using h2) (hM1.set (.inl rfl))
    ·obtain ⟨v0, rfl⟩ : ∃ v0, c0 = .own v0 1 (rowD sb dd.lasts) false := by
      rcases h2 with ⟨_, h2⟩ | h2
      ·have q : dd.lasts.length = 0 := by rw [← rowD_length (enc := sb), h2]; rfl
       have := (hwf.wait _ (nth_mem (i := 0) (l := dd.waits) (by omega))).1
       omega
      ·exact h2
     refine X_loop (fun (k : Nat) e S' => k ≤ dd.waits.length ∧ e 0 = .ptr id 0 ∧ e 3 = .d (.int .i64 k) ∧ Mod S S' id ∧ id < S'.next ∧
      S'.obj id = .cells [.own v0 1 (rowD sb (land (fun _ => true) dd.waits dd.lasts k)) false, .own v 2 (rowD wrD dd.waits) false, .d (.int .i64 dd.ops), .d (.int .i64 dd.pos), c4, .d (.bool dd.armed), .d (.bool dd.down)]) (fun k => dd.waits.length - k) 0 ?_ ?_
     ·simp [h1, land, hM1, hid]
     ·intro k e S' hJ;obtain ⟨g1, g2, g3, gM, hidk, g5⟩ := hJ;have hf := hwf.few;simp [g2, g3, g5];intro _;refine f_intro (fun j1 => ?_) (fun j1 => ?_)
      ·simp [g2, g3, g5, j1];refine ref_lasts (w := nth dd.waits k) (by simpa using hidk) (by simpa using g5) ?_ ?_ fun S2 i1 i2 => ?_
       ·rw [land_length]; exact (hwf.wait _ (nth_mem j1)).1
       ·exact (hwf.wait _ (nth_mem j1)).2
       ·simp [g2, g3];refine ⟨k + 1, ⟨by omega, wrap_i64 (by omega) (by omega), gM.trans i2, Nat.lt_of_lt_of_le hidk i2.2.1, ?_⟩, by omega⟩
        rw [land_succ]; simpa using i1
      ·have hk : k = dd.waits.length := by omega
       subst hk;simp [g2, g5];exact fin2 _ _ (by simpa using hidk) (by simp) (.inr ⟨v0, rfl⟩) (gM.set (.inl rfl))
theorem ref_Read {S : St} {id n : Nat} {d : Dk} {i : Int} {Q : LV → St → Prop} (hI : IsR S id d) (hw : WfD d n)
  (h : ∀ v S', TQ (closeV v) S' (fun v' S2 => v' = .d (.sl (byD (d.read i))) ∧ IsR S2 id d) → Q v S') : SQ cf 87 [.ptr id 0, .d (.int .i64 i)] S Q := by
 have hI0 := hI;obtain ⟨hid, c0, c1, c4, h1, h2, h3, h4⟩ := hI;refine S_intro Tryz.func87 rfl rfl (Nat.le_of_ble_eq_true rfl) ?_;have hbad : d.has i = false → Q (.lit []) S := fun hc => h _ _ ⟨by simp [Dk.read, hc, byD], hI0⟩
 simp;refine f_intro (fun k1 => ?_) (fun k1 => ?_)
 ·simp [k1];exact hbad (by simp [Dk.has]; omega)
 ·simp [k1, h1];rcases h2 with ⟨rfl, h2⟩ | ⟨v0, rfl⟩
  ·have hz : d.lasts.length = 0 := by rw [← rowD_length (enc := sb), h2]; rfl
   simp [show 0 ≤ i from by omega]
   exact hbad (by simp [Dk.has]; omega)
  ·simp;intro _;refine f_intro (fun k2 => ?_) (fun k2 => ?_)
   ·simp [k2];exact hbad (by simp [Dk.has]; omega)
   ·have hi : d.has i = true := by simp [Dk.has]; omega
    have hir : i.toNat < d.lasts.length := by omega
    have hov : ∀ k, (over (d.waits.take k) i (nth d.lasts i.toNat)).length = 64 := by
     intro k;have : ∀ (ws : List Wr) (b : List UInt8), b.length = 64 → (∀ w ∈ ws, w.data.length = 64) → (over ws i b).length = 64 := by
      intro ws
      induction ws with
      | nil => intro b hb _; exact hb
      | cons w ws ih =>
       intro b hb hws;refine ih _ ?_ fun w' hw' => hws w' (by simp [hw'])
       show (if w.pos = i then w.data else b).length = 64;split
       ·exact hws w (by simp)
       ·exact hb
     exact this _ _ (hw.last _ (nth_mem hir)) fun w hw2 => (hw.wait w (List.mem_of_mem_take hw2)).2
    have fin : d.read i = over d.waits i (nth d.lasts i.toNat) := by simp [Dk.read, hi]
    have hfull : (over d.waits i (nth d.lasts i.toNat)).length = 64 := by have := hov d.waits.length; rwa [List.take_length] at this
    have end1 : Q (.ar (.arr S.next) 1 0 64) (S.alloc (.arr 1 (byD (d.read i)) false)) := by
     refine h _ _ ?_;have hlen : 0 + 64 ≤ (byD (d.read i)).length := by rw [fin]; simp [hfull]
     have hsub : sub (byD (d.read i)) 0 64 = byD (d.read i) := by
      have := sub_all (xs := byD (d.read i)) (Nat.le_refl _)
      rwa [show (byD (d.read i)).length = 64 from by rw [fin]; simp [hfull]] at this
     simp only [closeV];rw [TQ_bind, toD_ar, arrT_arr, TQ_get];simp only [alloc_at, if_true, onArr_arr];rw [if_pos hlen, hsub, setT_arr];refine ⟨rfl, hI0.of ?_ ?_⟩
     ·have q1 : ¬ id = S.next := by omega
      simp [q1]
     ·simp; omega
    simp [k2, h1, hir, show 0 ≤ i from by omega]
    refine ⟨by omega, ?_⟩
    have e0 : Env → Prop := fun e => e 0 = .ptr id 0 ∧ e 1 = .d (.int .i64 i);rcases h3 with ⟨rfl, h3⟩ | ⟨v, rfl⟩
    ·have hz : d.waits = [] := by
      cases hd : d.waits with
      | nil => rfl
      | cons b l => rw [hd] at h3; cases h3
     rw [hz] at fin hfull;refine X_loop (fun (k : Nat) e S' => S' = S ∧ e 0 = .ptr id 0 ∧ e 5 = .d (.sl (byD (nth d.lasts i.toNat))) ∧ e 6 = .d (.int .i64 0)) (fun k => k) 0 ?_ ?_
     ·simp
     ·intro k e S' hJ;obtain ⟨rfl, g0, g1, g2⟩ := hJ;have hfull' : (nth d.lasts i.toNat).length = 64 := hfull;simp [g0, g1, g2, h1, hfull'];rw [fin] at end1;exact end1
    ·refine X_loop (fun (k : Nat) e S' => k ≤ d.waits.length ∧ e 0 = .ptr id 0 ∧ e 1 = .d (.int .i64 i) ∧ e 5 = .d (.sl (byD (over (d.waits.take k) i (nth d.lasts i.toNat)))) ∧ e 6 = .d (.int .i64 k) ∧ S' = S) (fun k => d.waits.length - k) 0 ?_ ?_
     ·simp [over]
     ·intro k e S' hJ;obtain ⟨g1, g2, g3, g4, g5, rfl⟩ := hJ;simp [g2, g5, h1];intro _;refine f_intro (fun j1 => ?_) (fun j1 => ?_)
      ·have hsn : over (d.waits.take (k + 1)) i (nth d.lasts i.toNat) = if (nth d.waits k).pos = i then (nth d.waits k).data else over (d.waits.take k) i (nth d.lasts i.toNat) := by
        rw [List.take_add_one, nth_get j1];simp [over]
       have hf := hw.few;simp [g2, g3, g5, h1, j1];refine f_intro (fun j2 => ?_) (fun j2 => ?_)
       ·simp [j2, g2, g3, g5, h1, j1];refine ⟨k + 1, ⟨by omega, ?_, wrap_i64 (by omega) (by omega)⟩, by omega⟩
        rw [hsn, if_pos j2]
       ·simp [j2, g2, g3, g4, g5];refine ⟨k + 1, ⟨by omega, ?_, wrap_i64 (by omega) (by omega)⟩, by omega⟩
        rw [hsn, if_neg j2]
      ·have hk : k = d.waits.length := by omega
       subst hk;rw [List.take_length] at g4;simp [g4, hfull];rw [fin] at end1;exact end1
theorem ref_New {S : St} {n : Int} {Q : LV → St → Prop} (h1 : 1 ≤ n → n ≤ 2000 → ∀ S' id, S.next ≤ id → IsR S' id (Dk.new n.toNat) → Kept S S' → Q (.ptr id 0) S') (h0 : ¬ (1 ≤ n ∧ n ≤ 2000) → Q (.d .nilP) S) : SQ cf 30 [.d (.int .i64 n)] S Q := by
 refine S_intro Tryz.func30 rfl rfl (Nat.le_of_ble_eq_true rfl) ?_;simp;refine f_intro (fun k1 => ?_) (fun k1 => ?_)
 ·simp [k1];exact h0 (by omega)
 ·simp [k1];refine f_intro (fun k2 => ?_) (fun k2 => ?_)
  ·simp [k2];exact h0 (by omega)
  ·simp [k2];refine X_loop (fun (k : Nat) e S' => k ≤ n.toNat ∧ e 0 = .d (.int .i64 n) ∧ e 3 = .ptr S.next 0 ∧ e 4 = .d (.int .i64 k) ∧ Kept S S' ∧ S.next < S'.next ∧
    ∃ c, S'.obj S.next = .cells [c, .lit [], .d (.int .i64 0), .d (.int .i64 0), .lit [], .d (.bool false), .d (.bool false)] ∧ SlC 1 c (rowD sb (List.replicate k (zeros 64)))) (fun k => n.toNat - k) 0 ?_ ?_
   ·simp;exact ⟨(Kept.refl S).alloc, .inl ⟨rfl, rfl⟩⟩
   ·intro k e S' hJ;obtain ⟨g1, g2, g3, g4, gK, gN, c, g5, g6⟩ := hJ;simp [g2, g4];refine f_intro (fun j1 => ?_) (fun j1 => ?_)
    ·simp;refine X_draw (by decide) ?_
     have q : ∀ m, ¬ S.next = S'.next + m := fun m => by omega
     have q2 : ∀ m, ¬ S'.next + m = S.next := fun m => by omega
     rcases g6 with ⟨rfl, g6⟩ | ⟨v, rfl⟩
     ·have hk0 : k = 0 := by
       cases k with
       | zero => rfl
       | succ k => cases g6
      subst hk0;simp [g2, g3, g4, g5, q, q2];refine ⟨by decide, 1, ⟨by omega, rfl, ?_, ?_⟩, by omega⟩
      ·exact gK.of (fun j hj => by simp [show ¬ j = S.next from by omega, show ∀ m, ¬ j = S'.next + m from fun m => by omega]) (by simp) (by simp <;> omega) rfl
      ·exact ⟨by omega, .inr ⟨_, rfl⟩⟩
     ·simp [g2, g3, g4, g5, q, q2];refine ⟨by omega, by decide, k + 1, ⟨by omega, wrap_i64 (by omega) (by omega), ?_, ?_⟩, by omega⟩
      ·exact gK.of (fun j hj => by simp [show ¬ j = S.next from by omega, show ∀ m, ¬ j = S'.next + m from fun m => by omega]) (by simp) (by simp <;> omega) rfl
      ·rw [List.replicate_succ', rowD_snoc];exact ⟨by omega, .inr ⟨_, rfl⟩⟩
    ·have hk : n.toNat = k := by omega
     simp [g3];exact h1 (by omega) (by omega) S' S.next (by omega) ⟨gN, c, .lit [], .lit [], by simpa [Dk.new] using g5, by rw [hk]; exact g6, .inl ⟨rfl, rfl⟩, .inl ⟨rfl, rfl⟩⟩ gK
theorem IsR.refs {S : St} {id : Nat} {d : Dk} (h : IsR S id d) : objRefs (S.obj id) = [] ∧ ∀ R, objTame R (S.obj id) = true := by
 obtain ⟨_, c0, c1, c4, h1, h2, h3, h5⟩ := h;rw [h1];refine ⟨by simp [h2.tame.1, h3.tame.1, h5.tame.1], fun R => by simp [h2.tame.2 R, h3.tame.2 R, h5.tame.2 R]⟩
theorem IsR.stamp {S S' : St} {id k : Nat} {d : Dk} (h : IsR S id d) (ho : S'.obj id = stampO k (S.obj id)) (hn : id < S'.next) : IsR S' id d := by
 obtain ⟨_, c0, c1, c4, h1, h2, h3, h4⟩ := h;refine ⟨hn, Go.VM.stamp k c0, Go.VM.stamp k c1, Go.VM.stamp k c4, ?_, h2.stamp k, h3.stamp k, h4.stamp k⟩;rw [ho, h1];rfl
theorem IsR.small {S : St} {id : Nat} {d : Dk} (h : IsR S id d) : IsR (small [(id, S.obj id)]) id d := h.of (by simp) (by simp)
theorem ShD_R {f : FuncId} {ls : List LV} {S : St} {id : Nat} {d d' : Dk} {x : D} {K : LV → St → List Nat → List Nat → Prop} (hI : IsR S id d) (hr : ls.flatMap refs = [id]) (ha : ls.all (argTame [id]) = true)
  (h : ∀ S0, IsR S0 id d → SQ cf f ls S0 fun r S1 => TQ (closeV r) S1 fun v S2 => v = .d x ∧ IsR S2 id d')
  (hK : ∀ S2, IsR S2 id d' → (∀ j, j ≠ id → S2.obj j = S.obj j) → S2.next = S.next → S2.clk = S.clk + 1 → S2.esc = S.esc → K (.d x) S2 [id] [id]) : ShD cf f ls S K := by
 refine ShD_1 hr rfl hI.refs.1 (hI.refs.2 _) ha ?_;obtain ⟨n, hn⟩ := h _ hI.small;refine ⟨n, holds_mono (fun r hr => ?_) hn⟩;refine TQ_mono hr fun v S2 h1 => ?_;obtain ⟨rfl, h1⟩ := h1;refine ⟨rfl, h1.refs.2 _, hK _ ?_ (fun j hj => by simp [hj]) rfl rfl rfl⟩
 refine h1.stamp (k := S.clk) ?_ hI.1;show (if id = id then _ else _) = _;rw [if_pos rfl]
theorem shR_Read {S : St} {id n : Nat} {d : Dk} {i : Int} {K : LV → St → List Nat → List Nat → Prop} (hI : IsR S id d) (hw : WfD d n) (hK : ∀ S2, IsR S2 id d → (∀ j, j ≠ id → S2.obj j = S.obj j) → S2.next = S.next → S2.clk = S.clk + 1 → S2.esc = S.esc → K (.d (.sl (byD (d.read i)))) S2 [id] [id]) :
  ShD cf 87 [.ptr id 0, .d (.int .i64 i)] S K := ShD_R hI rfl (by simp) (fun S0 h0 => ref_Read h0 hw fun v S' hv => hv) hK
theorem shR_Write {S : St} {id n : Nat} {d : Dk} {i : Int} {b : List UInt8} {K : LV → St → List Nat → List Nat → Prop} (hI : IsR S id d) (hw : WfD d (n + 1)) (hK : ∀ S2, IsR S2 id (d.write i b).2 → (∀ j, j ≠ id → S2.obj j = S.obj j) → S2.next = S.next → S2.clk = S.clk + 1 → S2.esc = S.esc → K (.d (.int .i64 (d.write i b).1)) S2 [id] [id]) :
  ShD cf 126 [.ptr id 0, .d (.int .i64 i), .d (.sl (byD b))] S K := ShD_R hI rfl (by simp) (fun S0 h0 => ref_Write h0 hw fun S' h1 _ => ⟨rfl, h1⟩) hK
end Go.VM
