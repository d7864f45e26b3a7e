/- Chapter 5: what the program does, all or none. No condition. -/
import Derived.Test.YtmahmajoelmmeaaGreatFi
namespace Go.VM
open Go.Proofs
set_option maxRecDepth 4000
attribute [-simp] Int.not_lt Int.not_le Nat.not_lt Nat.not_le
def doesL : Ch → List FOp → Int × Ch
 | C, [] => (0, C)
 | C, o :: os => if (C.does o).1 = 0 then doesL (C.does o).2 os else C.does o
def sortF (l : List Fl) : List Fl := l.mergeSort fun a b => leS a.name b.name
def doP (fl : List Fl) (many : Int) (ops : List FOp) : Int × List Wr × List Fl :=
 if (doesL (beginC fl many) ops).1 ≠ 0 then ((doesL (beginC fl many) ops).1, [], fl)
 else if ((doesL (beginC fl many) ops).2.lay fl).1 = false then (5, [], fl)
 else (0, ((doesL (beginC fl many) ops).2.lay fl).2.l, sortF (((doesL (beginC fl many) ops).2.lay fl).2.files.map (·.2)))
def doD (d : Dk) (fl : List Fl) (ops : List FOp) : Int × Dk × List Fl :=
 if (doP fl d.many ops).1 ≠ 0 then ((doP fl d.many ops).1, d, fl)
 else if (d.commit (doP fl d.many ops).2.1).1 ≠ 0 then ((d.commit (doP fl d.many ops).2.1).1, (d.commit (doP fl d.many ops).2.1).2, fl)
 else (0, (d.commit (doP fl d.many ops).2.1).2, (doP fl d.many ops).2.2)
theorem commit_nil {d : Dk} : d.commit [] = (0, d) := by
 have : d.wrong [] = 0 := by simp [Dk.wrong]
 rw [Dk.commit, if_pos (.inr rfl), this]
theorem jour_Commit0 {S : St} {id n : Nat} {d : Dk} {Q : LV → St → Prop} (hI : IsD S id d) (hw : Ok d (n + 320))
  (h : ∀ S', IsD S' id d → Mod S S' id → Q (.d (.int .i64 0)) S') : SQ cf 45 [.ptr id 0, .lit []] S Q := by
 refine S_intro Tryz.func45 rfl rfl (Nat.le_of_ble_eq_true rfl) ?_;simp;refine jour_wrong (l := []) hI hw (by simp) fun S1 hI1 hM1 => ?_
 have hz : d.wrong [] = 0 := by simp [Dk.wrong]
 simp [hz];exact h _ hI1 hM1
theorem sh_Commit0 {S : St} {id n : Nat} {d : Dk} {K : LV → St → List Nat → List Nat → Prop} (hI : IsD S id d) (hw : Ok d (n + 320)) (hK : ∀ S2, IsD S2 id d → (∀ j, j ≠ id → S2.obj j = S.obj j) → S2.next = S.next → S2.clk = S.clk + 1 → S2.esc = S.esc → K (.d (.int .i64 0)) S2 [id] [id]) :
  ShD cf 45 [.ptr id 0, .lit []] S K := ShD_D (d' := d) (x := .int .i64 0) hI rfl (by simp) (fun S0 h0 => jour_Commit0 h0 hw fun S' h1 _ => ⟨h1, rfl⟩) hK
theorem sh_Commit {S : St} {id n : Nat} {d : Dk} {l : List Wr} {K : LV → St → List Nat → List Nat → Prop} (hI : IsD S id d) (hw : Ok d (n + 320)) (hl : l.length ≤ 1000000) (hK : ∀ S2, IsD S2 id (d.commit l).2 → (∀ j, j ≠ id → S2.obj j = S.obj j) → S2.next = S.next → S2.clk = S.clk + 1 → S2.esc = S.esc → K (.d (.int .i64 (d.commit l).1)) S2 [id] [id]) :
  ShD cf 45 [.ptr id 0, .d (.sl (rowD wrD l))] S K := ShD_D (d' := (d.commit l).2) (x := .int .i64 (d.commit l).1) hI rfl (by simp) (fun S0 h0 => jour_Commit h0 hw hl fun S' h1 _ => ⟨h1, rfl⟩) hK
theorem do_mac : doAlt.mac = doMac := rfl
theorem doMac_some {e : Env} {S : St} {id fid : Nat} {ks : Option IntKind} {es : List (D × D)} {c0 : LV} (h1 : e 51 = .mp id) (h2 : e 0 = .ptr fid 0) (h3 : S.obj id = .mp ks es) (h4 : S.obj fid = .cells [c0, .lit []]) (h5 : id < S.next ∧ fid < S.next ∧ id ≠ fid ∧ es.length ≤ 1000000)
  (h6 : (∀ x ∈ es.map (·.2), fileK x ≠ none) ∧ ((es.map (·.2)).map keyK).Nodup) : doMac e S = some (doEnv e, doSt S fid c0 (es.map (·.2))) := by
 unfold doMac;simp only [h1, h2, h3, h4];rw [if_pos ⟨h5.1, h5.2.1, h5.2.2.1, h5.2.2.2, trivial, h6.1, h6.2⟩]
theorem doSt_fid {S : St} {fid : Nat} {c0 : LV} {fs : List D} (h : fid < S.next) : (doSt S fid c0 fs).obj fid = .cells [c0, if fs = [] then .lit [] else .own (S.clk + 1100 * fs.length - 100) 5 (fs.mergeSort leK) false] := by
 simp [doSt, h]
theorem sort_row (l : List Fl) : (l.map flD).mergeSort leK = rowD flD (sortF l) := by
 show _ = (sortF l).map flD;unfold sortF;rw [List.map_mergeSort (s := leK) (f := flD)];intro a _ b _;rfl
theorem files_row (l : List (List UInt8 × Fl)) : (mapK flD l).map (·.2) = (l.map (·.2)).map flD := by simp [mapK]
set_option maxHeartbeats 4000000 in
theorem fs_Do {S : St} {fid id n : Nat} {fl : List Fl} {d : Dk} {ops : List FOp} {Q : LV → St → Prop} (hI : IsD S id d) (hF : IsF S fid id fl) (hl : fl.length ≤ 1000000 ∧ ∀ x ∈ fl, x.size ≤ 1000000) (hw : Ok d (n + 320)) (hops : ops.length ≤ 1000 ∧ ∀ o ∈ ops, o.data.length ≤ 1000000)
  (hfine : ∀ C, doesL (beginC fl d.many) ops = (0, C) → Fine C 0 ∧ C.put.length ≤ 1000 ∧ ((C.lay fl).1 = true → (C.lay fl).2.l.length ≤ 150 ∧ ((C.lay fl).2.files.map (·.2.name)).Nodup ∧ (C.lay fl).2.files.length ≤ 1000000))
  (h : ∀ S', IsD S' id (doD d fl ops).2.1 → IsF S' fid id (doD d fl ops).2.2 → (∀ j, j < S.next → j ≠ id → j ≠ fid → S'.obj j = S.obj j) → S.next ≤ S'.next → S.clk ≤ S'.clk → S'.esc = S.esc → Q (.d (.int .i64 (doD d fl ops).1)) S') : SQ cf 12 [.ptr fid 0, .d (.sl (rowD fopD ops))] S Q := by
 have hF0 := hF;obtain ⟨⟨hid, hne⟩, c, hc, hs⟩ := hF;have hidd := hI.1;refine S_alt Tryz.func12 rfl rfl (Nat.le_of_ble_eq_true rfl) (q := doAlt) rfl (c' := .seq _ (.seq (.seq _ (.cond _ (.seq _ .ret) .skip)) (.seq _ (.seq (.seq _ (.block _ _)) (.seq (.seq _ (.cond _ (.seq _ .ret) .skip)) (.seq (.seq _ (.seq _ (.cond _ (.seq _ .ret) .skip))) (.seq _ (.region _ (List.toArray [_, _, _, _]) false)))))))) rfl (p := .seq _ _) rfl ?_;simp;refine fs_begin hI hF0 hl (n := n + 320) hw fun S1 cid m1 m2 m3 k1 k2 k3 k4 k5 k6 => ?_;simp;intro _;have hfop : ∀ o, (LV.d (fopD o)).cells = fopL o := fun _ => rfl;have hsz : sized 3 (rowD fopD ops) := rowD_sized fun _ => rfl;have hcl0 := k2.lt;have hlate : ∀ S9 b, Up cid m1 m2 m3 S1 S9 → doD d fl ops = (b, d, fl) → Q (.d (.int .i64 b)) S9 := by
  intro S9 b hu he;rw [he] at h;refine h S9 (k1.of (hu.1 id k1.1 (by omega) (by omega) (by omega) (by omega)) (by have := hu.2.1; have := k1.1; omega)) (hF0.of (by rw [hu.1 fid (by omega) (by omega) (by omega) (by omega) (by omega), k3 fid hid (Ne.symm hne)]) (by have := hu.2.1; omega)) (fun j hj h1 h2 => ?_) (by have := hu.2.1; omega) (by have := hu.2.2.1; omega) (by rw [hu.2.2.2, k6])
  rw [hu.1 j (by omega) (by omega) (by omega) (by omega) (by omega), k3 j hj h1]
 refine X_loop (fun (k : Nat) e S' => k ≤ ops.length ∧ e 0 = .ptr fid 0 ∧ e 5 = .ptr cid 0 ∧ e 16 = .d (.sl (rowD fopD ops)) ∧ e 17 = .d (.int .i64 ops.length) ∧ e 18 = .d (.int .i64 k) ∧
  (∃ C', ChAt S' S.next cid m1 m2 m3 C' ∧ doesL C' (ops.drop k) = doesL (beginC fl d.many) ops) ∧ Up cid m1 m2 m3 S1 S') (fun k => ops.length - k) 0 ?_ ?_
 ·simp;exact ⟨⟨_, k2, rfl⟩, Up.refl _ _ _ _ _⟩
 ·intro k e S' hk;obtain ⟨i1, i2, i3, i4, i5, i6, ⟨C', i7, i8⟩, i9⟩ := hk;simp [i5, i6];refine f_intro (fun j1 => ?_) (fun j1 => ?_)
  ·have hk : k < ops.length := by omega
   have hdrop := drop_cons hk;rw [hdrop] at i8;have hdl : (nth ops k).data.length ≤ 1000000 := hops.2 _ (nth_mem hk);have hfc : ∀ x, (fopD x).cells = [.bool x.drop, .str x.name, .sl (byD x.data)] := fun _ => rfl;simp [i3, i4, i6, hk, hfc];have hnx9 := i9.2.1;refine fs_does (o := nth ops k) (i7.of (S' := S'.alloc _) (fun j hj => by simp [show ¬ j = S'.next by omega]) (by simp)) hdl fun S2 w1 w2 => ?_
   have i8' : doesL C' (nth ops k :: ops.drop (k + 1)) = if (C'.does (nth ops k)).1 = 0 then doesL (C'.does (nth ops k)).2 (ops.drop (k + 1)) else C'.does (nth ops k) := rfl;rw [i8'] at i8;have hup : Up cid m1 m2 m3 S' S2 := ⟨fun j hj h1 h2 h3 h4 => by rw [w2.1 j (by simp; omega) h1 h2 h3 h4]; simp [show ¬ j = S'.next by omega], by have := w2.2.1; simp at this; omega, by have := w2.2.2.1; simpa using this, w2.2.2.2⟩
   simp;refine f_intro (fun j2 => ?_) (fun j2 => ?_)
   ·rw [if_pos j2] at i8;simp [i2, i3, i4, i5, i6];exact ⟨k + 1, ⟨by omega, wrap_i64 (by omega) (by omega), ⟨_, w1, i8⟩, i9.trans hup⟩, by omega⟩
   ·rw [if_neg j2] at i8;simp;refine hlate _ _ (i9.trans hup) ?_;have hd : doP fl d.many ops = ((C'.does (nth ops k)).1, [], fl) := by unfold doP; rw [← i8, if_pos j2]
    unfold doD;rw [hd, if_pos j2]
  ·have : k = ops.length := by omega
   subst this;rw [List.drop_length] at i8;have i8' : doesL (beginC fl d.many) ops = (0, C') := i8.symm;obtain ⟨hf1, hf2, hf3⟩ := hfine C' i8';have hcl := k2.lt;have hFs : IsF S' fid id fl := hF0.of (by rw [i9.1 fid (by omega) (by omega) (by omega) (by omega) (by omega), k3 fid hid (Ne.symm hne)]) (by have := i9.2.1; omega)
   simp [i2, i3];refine fs_lay hFs hid i7 hl.1 hf2 hf1 fun S2 w1 w2 => ?_;have hup := i9.trans w2;simp;refine f_intro (fun j2 => ?_) (fun j2 => ?_)
   ·skip
    simp;refine hlate _ _ hup ?_;have hd : doP fl d.many ops = (5, [], fl) := by unfold doP; rw [i8', if_neg (by simp), if_pos (by simpa using j2)]
    unfold doD;rw [hd, if_pos (by simp)]
   ·simp;refine X_draw (by decide) ?_
    have j2' : (C'.lay fl).1 = true := by simpa using j2
    obtain ⟨hf4, hf5, hf6⟩ := hf3 j2';have hd : doP fl d.many ops = (0, (C'.lay fl).2.l, sortF ((C'.lay fl).2.files.map (·.2))) := by unfold doP; rw [i8', if_neg (by simp), if_neg (by simp [j2'])]
    have hw0 := w1;obtain ⟨⟨⟨_, p1⟩, ⟨_, p2⟩, ⟨_, p3⟩, _, p4⟩, hnn, ⟨c9, v1, v2⟩, v3, v4, v5⟩ := w1;have hnx := hup.2.1;have hI2 : IsD S2 id d := k1.of (hup.1 id k1.1 (by omega) (by omega) (by omega) (by omega)) (by have := k1.1; omega)
    have hF2 : S2.obj fid = .cells [.ptr id 0, c] := by rw [hup.1 fid (by omega) (by omega) (by omega) (by omega) (by omega), k3 fid hid (Ne.symm hne)]; exact hc
    have aa0 : ¬ id = S2.next := by omega
    have aa1 : ¬ S2.next = id := by omega
    have aa2 : ∀ m, ¬ id = S2.next + m := fun m => by omega
    have aa3 : ∀ m, ¬ S2.next + m = id := fun m => by omega
    have aa4 : ∀ m k, ¬ id = S2.next + m + k := fun m k => by omega
    have aa5 : ∀ m k, ¬ S2.next + m + k = id := fun m k => by omega
    have aa6 : ∀ m k n, ¬ id = S2.next + m + k + n := fun m k n => by omega
    have aa7 : ∀ m k n, ¬ S2.next + m + k + n = id := fun m k n => by omega
    have aa8 : ∀ m k n l, ¬ id = S2.next + m + k + n + l := fun m k n l => by omega
    have aa9 : ∀ m k n l, ¬ S2.next + m + k + n + l = id := fun m k n l => by omega
    have ab0 : ¬ fid = S2.next := by omega
    have ab1 : ¬ S2.next = fid := by omega
    have ab2 : ∀ m, ¬ fid = S2.next + m := fun m => by omega
    have ab3 : ∀ m, ¬ S2.next + m = fid := fun m => by omega
    have ab4 : ∀ m k, ¬ fid = S2.next + m + k := fun m k => by omega
    have ab5 : ∀ m k, ¬ S2.next + m + k = fid := fun m k => by omega
    have ab6 : ∀ m k n, ¬ fid = S2.next + m + k + n := fun m k n => by omega
    have ab7 : ∀ m k n, ¬ S2.next + m + k + n = fid := fun m k n => by omega
    have ab8 : ∀ m k n l, ¬ fid = S2.next + m + k + n + l := fun m k n l => by omega
    have ab9 : ∀ m k n l, ¬ S2.next + m + k + n + l = fid := fun m k n l => by omega
    have ac0 : ¬ cid = S2.next := by omega
    have ac1 : ¬ S2.next = cid := by omega
    have ac2 : ∀ m, ¬ cid = S2.next + m := fun m => by omega
    have ac3 : ∀ m, ¬ S2.next + m = cid := fun m => by omega
    have ac4 : ∀ m k, ¬ cid = S2.next + m + k := fun m k => by omega
    have ac5 : ∀ m k, ¬ S2.next + m + k = cid := fun m k => by omega
    have ac6 : ∀ m k n, ¬ cid = S2.next + m + k + n := fun m k n => by omega
    have ac7 : ∀ m k n, ¬ S2.next + m + k + n = cid := fun m k n => by omega
    have ac8 : ∀ m k n l, ¬ cid = S2.next + m + k + n + l := fun m k n l => by omega
    have ac9 : ∀ m k n l, ¬ S2.next + m + k + n + l = cid := fun m k n l => by omega
    have hfiles : (C'.lay fl).2.files.length ≤ 1000000 := hf6;have hfin : ∀ (S6 : St) (d2 : Dk), IsD S6 id d2 → S6.obj fid = .cells [.ptr id 0, .lit []] → (∀ j, j < S.next → j ≠ id → j ≠ fid → S6.obj j = S.obj j) → S2.next ≤ S6.next → S2.clk ≤ S6.clk → S6.esc = S2.esc → doD d fl ops = (0, d2, sortF ((C'.lay fl).2.files.map (·.2))) →
      Q (.d (.int .i64 0)) (doSt S6 fid (.ptr id 0) ((mapK flD (C'.lay fl).2.files).map (·.2))) := by
     intro S6 d2 q1 q2 q3 q4 q5 q6 q7;rw [q7] at h;have hlt6 : fid < S6.next := by omega
     refine h _ (q1.of ?_ (by simp [doSt]; omega)) ⟨⟨by simp [doSt]; omega, hne⟩, _, doSt_fid hlt6, ?_⟩ (fun j hj h1 h2 => ?_) (by simp [doSt]; omega) (by simp [doSt]; have := hup.2.2.1; omega) ?_
     ·simp [doSt, show id < S6.next by omega, show ¬ id = fid from hne]
     ·rw [files_row];by_cases h0 : (((C'.lay fl).2.files.map (·.2)).map flD) = []
      ·rw [if_pos h0];refine .inl ⟨rfl, ?_⟩;rw [← sort_row, h0]; simp
      ·rw [if_neg h0];exact .inr ⟨_, by rw [sort_row]⟩
     ·simp [doSt, show j < S6.next by omega, h2]
      exact q3 j hj h1 h2
     ·show S6.esc = S.esc;rw [q6, hup.2.2.2, k6]
    have hmacc : (∀ x ∈ (mapK flD (C'.lay fl).2.files).map (·.2), fileK x ≠ none) ∧ (((mapK flD (C'.lay fl).2.files).map (·.2)).map keyK).Nodup := by
     rw [files_row];refine ⟨fun x hx => ?_, ?_⟩
     ·obtain ⟨y, _, rfl⟩ := List.mem_map.1 hx;simp [flD, fileK]
     ·have e : (((C'.lay fl).2.files.map (·.2)).map flD).map keyK = (C'.lay fl).2.files.map (·.2.name) := by simp [keyK, flD, fileK, Function.comp_def]
      rw [e]; exact hf5
    rcases v2 with ⟨rfl, v2⟩ | ⟨ver, rfl⟩
    ·simp [i2, i3, hF2, v1];have hl0 : (C'.lay fl).2.l = [] := by
      have := congrArg List.length v2;rw [rowD_length] at this;exact List.eq_nil_of_length_eq_zero this
     refine sh_Commit0 (hI2.of ?_ ?_) hw fun S3 c1 c2 c3 c4 c5 => ?_
     ·simp
     ·simp [startD]; omega
     simp at c2 c3 c4 c5;simp [c3, c4];have hS3c : S3.obj cid = .cells [.mp m1, .mp m2, .mp m3, .d (.sl (inD (C'.lay fl).2.free)), .lit []] := by rw [c2 cid (by omega)]; simp [v1]
     have hS3f : S3.obj fid = .cells [.ptr id 0, c] := by rw [c2 fid (by omega)]; simp [hF2]
     have hS3m : S3.obj m1 = .mp none (mapK flD (C'.lay fl).2.files) := by rw [c2 m1 (by omega)]; simp [v3]
     refine ⟨⟨.inr (by omega), .inr (by omega)⟩, ?_⟩
     have hdd : doD d fl ops = (0, d, sortF ((C'.lay fl).2.files.map (·.2))) := by
      unfold doD;rw [hd, if_neg (by simp)]
      simp only [hl0, commit_nil];simp
     simp [i2, i3, hS3c, hS3f, show ¬ cid = fid by omega]
     rw [do_mac];have hidm : ¬ id = m1 := by omega
     refine ⟨_, _, doMac_some (id := m1) (fid := fid) (ks := none) (es := mapK flD (C'.lay fl).2.files) (c0 := .ptr id 0) (by simp) (by simp [i2]) (by simp [hS3m, show ¬ m1 = fid by omega]) (by simp) ⟨by simp; omega, by simp; omega, by omega, by simpa [mapK] using hfiles⟩ hmacc, ?_⟩
     refine hfin _ d (c1.of (by simp [show ¬ id = fid from hne]) (by simp; omega)) (by simp) (fun j hj h1 h2 => ?_) (by simp) (by simp) (show S3.esc = S2.esc from c5) hdd
     have hjj : ¬ j = cid := by omega
     simp [h2, c2 j h1];rw [hup.1 j (by omega) (by omega) (by omega) (by omega) (by omega), k3 j hj h1]
    ·simp [i2, i3, hF2, v1];refine sh_Commit (hI2.of ?_ ?_) hw (by omega) fun S3 c1 c2 c3 c4 c5 => ?_
     ·simp [show ¬ id = cid by omega]
     ·simp [startD]; omega
     simp at c2 c3 c4 c5;simp [c3, c4];have hS3c : S3.obj cid = .cells [.mp m1, .mp m2, .mp m3, .d (.sl (inD (C'.lay fl).2.free)), .own ver 2 (rowD wrD (C'.lay fl).2.l) true] := by rw [c2 cid (by omega)]; simp
     have hS3f : S3.obj fid = .cells [.ptr id 0, c] := by rw [c2 fid (by omega)]; simp [hF2, show ¬ fid = cid by omega]
     have hS3m : S3.obj m1 = .mp none (mapK flD (C'.lay fl).2.files) := by rw [c2 m1 (by omega)]; simp [v3, Ne.symm hnn.1.1]
     refine ⟨⟨by decide, .inr ⟨by omega, by omega⟩⟩, ?_⟩
     refine f_intro (fun j3 => ?_) (fun j3 => ?_)
     ·have hdd : doD d fl ops = (0, (d.commit (C'.lay fl).2.l).2, sortF ((C'.lay fl).2.files.map (·.2))) := by
       unfold doD;rw [hd, if_neg (by simp), if_neg (by simpa using j3)]
      simp [i2, i3, hS3c, hS3f, show ¬ cid = fid by omega]
      rw [do_mac];have hidm : ¬ id = m1 := by omega
      refine ⟨_, _, doMac_some (id := m1) (fid := fid) (ks := none) (es := mapK flD (C'.lay fl).2.files) (c0 := .ptr id 0) (by simp) (by simp [i2]) (by simp [hS3m, show ¬ m1 = fid by omega]) (by simp) ⟨by simp; omega, by simp; omega, by omega, by simpa [mapK] using hfiles⟩ hmacc, ?_⟩
      refine hfin _ _ (c1.of (by simp [show ¬ id = fid from hne]) (by simp; omega)) (by simp) (fun j hj h1 h2 => ?_) (by simp) (by simp) (show S3.esc = S2.esc from c5) hdd
      have hjj : ¬ j = cid := by omega
      simp [h2, c2 j h1, hjj];rw [hup.1 j (by omega) (by omega) (by omega) (by omega) (by omega), k3 j hj h1]
     ·simp;have hdd : doD d fl ops = ((d.commit (C'.lay fl).2.l).1, (d.commit (C'.lay fl).2.l).2, fl) := by
       unfold doD;rw [hd, if_neg (by simp), if_pos (by simpa using j3)]
      rw [hdd] at h;refine h _ (c1.of rfl (by simp; omega)) (hF0.of (by rw [hc]; exact hS3f) (by simp; omega)) (fun j hj h1 h2 => ?_) (by simp; omega) (by simp; have := hup.2.2.1; omega) ((show S3.esc = S2.esc from c5).trans (hup.2.2.2.trans k6))
      have hjj : ¬ j = cid := by omega
      show S3.obj j = S.obj j;simp [c2 j h1, hjj];rw [hup.1 j (by omega) (by omega) (by omega) (by omega) (by omega), k3 j hj h1]
end Go.VM
