/- Chapter 5: what the laws use. No condition. -/
import Derived.Test.YtmahmajoelmmeaaGreatGh
import Derived.Test.YtmahmajoelmmeaaGreatKb
section
namespace Go.VM
open Go.Proofs
set_option maxRecDepth 4000
attribute [-simp] Int.not_lt Int.not_le Nat.not_lt Nat.not_le
theorem IsG.stamp {S S' : St} {gid id k : Nat} {fl : List Fl} (h : IsG S gid id fl) (ho : S'.obj gid = stampO k (S.obj gid)) (hn : gid < S'.next) : IsG S' gid id fl := by
 obtain ⟨⟨_, h0⟩, c, h1, h2⟩ := h;refine ⟨⟨hn, h0⟩, Go.VM.stamp k c, ?_, h2.stamp k⟩;rw [ho, h1];rfl
theorem ShD_G {f : FuncId} {ls : List LV} {S : St} {fid id : Nat} {d d' : Dk} {fl fl' : List Fl} {x : D} {K : LV → St → List Nat → List Nat → Prop} (hI : IsR S id d) (hF : IsG S fid id fl) (hr : ls.flatMap refs = [fid]) (ha : ls.all (argTame [id, fid]) = true)
  (h : ∀ S0, IsR S0 id d → IsG S0 fid id fl → SQ cf f ls S0 fun r S1 => TQ (closeV r) S1 fun v S2 => v = .d x ∧ IsR S2 id d' ∧ IsG S2 fid id fl')
  (hK : ∀ S2, IsR S2 id d' → IsG S2 fid id fl' → (∀ j, j ≠ id → j ≠ fid → S2.obj j = S.obj j) → S2.next = S.next → S2.clk = S.clk + 1 → S2.esc = S.esc → K (.d x) S2 [fid, id] [id, fid]) : ShD cf f ls S K := by
 have hne : fid ≠ id := Ne.symm hF.lt.2;refine ShD_2 hr hne rfl rfl hF.refs.1 hI.refs.1 (hF.refs.2 _ (by simp)) (hI.refs.2 _) ha ?_
 obtain ⟨n, hn⟩ := h (small [(id, S.obj id), (fid, S.obj fid)]) (hI.of (by simp [small]) (by simp [small, nextOf]; omega)) (hF.of (by simp [small, Ne.symm hne]) (by simp [small, nextOf]; omega))
 refine ⟨n, holds_mono (fun r hr => ?_) hn⟩;refine TQ_mono hr fun v S2 h1 => ?_;obtain ⟨rfl, h2, h3⟩ := h1;refine ⟨rfl, h2.refs.2 _, h3.refs.2 _ (by simp), hK _ ?_ ?_ (fun j hj hj2 => by simp [hj, hj2]) rfl rfl rfl⟩
 ·refine h2.stamp (k := S.clk) ?_ hI.1;show (if id = fid then _ else if id = id then _ else _) = _;rw [if_neg (Ne.symm hne), if_pos rfl]
 ·refine h3.stamp (k := S.clk) ?_ hF.lt.1;show (if fid = fid then _ else _) = _;rw [if_pos rfl]
theorem doE_eq {d : Dk} {fl : List Fl} {ops : List FOp} (hw : Wl fl d.many) : doE d fl ops = doD d fl ops := by
 unfold doE doD;rw [doP_eq hw]
theorem mount_eq {d : Dk} {n : Nat} (hok : Ok d (n + 200)) : mountG d = mountD d ∧ ((mountD d).1 = 0 → Wl (mountD d).2.2 d.many) ∧ (mountD d).2.1.many = d.many ∧ Ok (mountD d).2.1 n := by
 obtain ⟨h1, h2⟩ := filesD_eq (d := d.openD.2) hok.openD;have hm := openD_many (d := d);rw [hm] at h2;unfold mountG mountD;rw [h1] at h2 ⊢;by_cases h0 : d.openD.1 = 0
 ·rw [if_neg (fun k => k h0)];exact ⟨rfl, h2, hm, hok.openD⟩
 ·rw [if_pos h0];exact ⟨rfl, fun k => absurd k h0, hm, hok.openD⟩
theorem do_many {d : Dk} {fl : List Fl} {ops : List FOp} : (doD d fl ops).2.1.many = d.many := by
 unfold doD;split
 ·rfl
 ·split <;> exact commit_many
theorem doD_ok {d : Dk} {n : Nat} {fl : List Fl} {ops : List FOp} (h : Ok d (n + 320)) : Ok (doD d fl ops).2.1 n := by
 unfold doD;split
 ·exact h.less (by omega)
 ·split <;> exact h.commit
theorem do_wl {d : Dk} {fl : List Fl} {ops : List FOp} (hw : Wl fl d.many) : Wl (doD d fl ops).2.2 (doD d fl ops).2.1.many := by
 rw [do_many];unfold doD;rw [doP_eq hw];split
 ·exact hw
 ·split
  ·exact hw
  ·exact doR_wl hw
theorem wl_small {fl : List Fl} {many : Int} (h : Wl fl many) : fl.length ≤ 40 ∧ ∀ x ∈ fl, x.size ≤ 600 ∧ x.data.length ≤ 600 := by
 refine ⟨h.len, fun x hx => ?_⟩;have h1 := h.data hx;have h2 := (h.fil x hx).2.1;omega
theorem sum_mem {l : List Nat} {n : Nat} (h : n ∈ l) : n ≤ l.sum := by
 induction l with
 | nil => cases h
 | cons m l ih =>
  rw [List.sum_cons];rcases List.mem_cons.1 h with rfl | h
  ·omega
  ·have := ih h;omega
theorem heavy_no {l : List FOp} (h : heavyB l = false) : l.length ≤ 20 ∧ ∀ o ∈ l, o.data.length ≤ 4000 := by
 unfold heavyB at h;rw [Bool.or_eq_false_iff, decide_eq_false_iff_not, decide_eq_false_iff_not] at h;refine ⟨by omega, fun o ho => ?_⟩
 have h1 : min l.length 30 = l.length := by omega
 have h2 := h.2;rw [h1] at h2;have h3 : o.data.length + o.name.length ≤ heavyN l l.length := by
  unfold heavyN;rw [List.take_of_length_le (Nat.le_refl _)];exact sum_mem (List.mem_map_of_mem (f := fun o : FOp => o.data.length + o.name.length) ho)
 omega
theorem fs_DoW {S : St} {fid id n : Nat} {fl : List Fl} {d : Dk} {ops : List FOp} {Q : LV → St → Prop} (hI : IsD S id d) (hF : IsF S fid id fl) (hw : Wl fl d.many) (hok : Ok d (n + 320)) (hops : ops.length ≤ 1000 ∧ ∀ o ∈ ops, o.data.length ≤ 1000000)
  (h : ∀ S', IsD S' id (doD d fl ops).2.1 → IsF S' fid id (doD d fl ops).2.2 → (∀ j, j < S.next → j ≠ id → j ≠ fid → S'.obj j = S.obj j) → S.next ≤ S'.next → S.clk ≤ S'.clk → S'.esc = S.esc → Q (.d (.int .i64 (doD d fl ops).1)) S') : SQ cf 12 [.ptr fid 0, .d (.sl (rowD fopD ops))] S Q := by
 obtain ⟨h1, h2⟩ := wl_small hw;exact fs_Do hI hF ⟨by omega, fun x hx => by have := (h2 x hx).1; omega⟩ hok hops (fun C hC => do_fine hw hops.1 C hC) h
theorem ref5_DoW {S : St} {gid id n : Nat} {fl : List Fl} {d : Dk} {ops : List FOp} {Q : LV → St → Prop} (hI : IsR S id d) (hF : IsG S gid id fl) (hw : Wl fl d.many) (hok : Ok d (n + 320)) (hops : ops.length ≤ 1000 ∧ ∀ o ∈ ops, o.data.length ≤ 1000000)
  (h : ∀ S', IsR S' id (doD d fl ops).2.1 → IsG S' gid id (doD d fl ops).2.2 → (∀ j, j < S.next → j ≠ id → j ≠ gid → S'.obj j = S.obj j) → S.next ≤ S'.next → S.clk ≤ S'.clk → S'.esc = S.esc → Q (.d (.int .i64 (doD d fl ops).1)) S') : SQ cf 21 [.ptr gid 0, .d (.sl (rowD fopD ops))] S Q := by
 obtain ⟨h1, h2⟩ := wl_small hw;rw [← doE_eq hw] at h;exact ref5_Do hI hF ⟨by omega, fun x hx => by have := (h2 x hx).2; omega⟩ hok ⟨by omega, hops.2⟩ h
theorem sh_Do {S : St} {fid id n : Nat} {fl : List Fl} {d : Dk} {ops : List FOp} {K : LV → St → List Nat → List Nat → Prop} (hI : IsD S id d) (hF : IsF S fid id fl) (hw : Wl fl d.many) (hok : Ok d (n + 320)) (hops : ops.length ≤ 1000 ∧ ∀ o ∈ ops, o.data.length ≤ 1000000)
  (hK : ∀ S2, IsD S2 id (doD d fl ops).2.1 → IsF S2 fid id (doD d fl ops).2.2 → (∀ j, j ≠ id → j ≠ fid → S2.obj j = S.obj j) → S2.next = S.next → S2.clk = S.clk + 1 → S2.esc = S.esc → K (.d (.int .i64 (doD d fl ops).1)) S2 [fid, id] [id, fid]) : ShD cf 12 [.ptr fid 0, .d (.sl (rowD fopD ops))] S K :=
 ShD_F hI hF rfl (by simp) (fun S0 h0 h1 => fs_DoW h0 h1 hw hok hops fun S' k1 k2 _ _ _ _ => ⟨rfl, k1, k2⟩) hK
theorem shG_Do {S : St} {gid id n : Nat} {fl : List Fl} {d : Dk} {ops : List FOp} {K : LV → St → List Nat → List Nat → Prop} (hI : IsR S id d) (hF : IsG S gid id fl) (hw : Wl fl d.many) (hok : Ok d (n + 320)) (hops : ops.length ≤ 1000 ∧ ∀ o ∈ ops, o.data.length ≤ 1000000)
  (hK : ∀ S2, IsR S2 id (doD d fl ops).2.1 → IsG S2 gid id (doD d fl ops).2.2 → (∀ j, j ≠ id → j ≠ gid → S2.obj j = S.obj j) → S2.next = S.next → S2.clk = S.clk + 1 → S2.esc = S.esc → K (.d (.int .i64 (doD d fl ops).1)) S2 [gid, id] [id, gid]) : ShD cf 21 [.ptr gid 0, .d (.sl (rowD fopD ops))] S K :=
 ShD_G hI hF rfl (by simp) (fun S0 h0 h1 => ref5_DoW h0 h1 hw hok hops fun S' k1 k2 _ _ _ _ => ⟨rfl, k1, k2⟩) hK
theorem fmt_ok {p : Nat} {n : Nat} (h : p ≤ 300) (hn : n ≤ 900000) : Ok (fmtD p) n := by
 have h0 : Ok (Dk.new (157 + p)) (n + 3000) := new_ok (by omega) (by omega)
 unfold fmtD;split
 ·exact h0.less (by omega)
 ·exact h0.format
end Go.VM
end
section
namespace Go.VM
open Go.Proofs
set_option maxRecDepth 4000
attribute [-simp] Int.not_lt Int.not_le Nat.not_lt Nat.not_le
def knownOps : List FOp := [⟨false, [97], [49]⟩, ⟨false, [98], [50]⟩, ⟨true, [97], []⟩]
def knownFl : List Fl := [⟨0, [98], 1, [40], [50], false⟩]
theorem known_do : (doR [] 60 knownOps).1 = 0 ∧ (doR [] 60 knownOps).2.2 = knownFl := by decide +kernel
theorem known_left : (leftOf' knownFl 60).length = 19 := by decide +kernel
theorem law5_known {Q : LV → Prop} (h : Q (.d (.bool true))) : VQ cf 15 [] Q := by
 refine V_intro rfl (S_intro Tryz.func15 rfl rfl (Nat.le_of_ble_eq_true rfl) ?_);simp;refine law5_disk (p := 60) (by decide) fun S1 a c ha hc hne hI hR hK => ?_
 obtain ⟨s1, s3⟩ := fmt_sd (p := 60) (by decide)
 have o1 : Ok (fmtD 60) 10000 := fmt_ok (by decide) (by decide)
 have hmt := mount_sd s1;obtain ⟨a1, a2, a3, -, c', a5⟩ := do_sd (ops := knownOps) s1;have s3' : (fmtD 60).many = 60 := s3;rw [s3'] at a1 a2;rw [known_do.1] at a1;rw [known_do.2] at a2;simp;refine fs_Mount hI (n := 9800) o1 (fun he => absurd (by rw [hmt]) he) fun _ S2 fid hf hI2 hF2 hM2 => ?_
 rw [hmt] at hI2 hF2;simp;refine law5_put (by decide) ?_
 simp;refine law5_put (by decide) ?_
 simp;refine law5_drop ?_;simp;refine ⟨⟨rfl, rfl, rfl⟩, ?_⟩;refine fs_DoW (n := 9000) (ops := knownOps) hI2 hF2 s1.wl (o1.less (by omega)) (by decide) fun S3 hI3 hF3 ho3 hn3 hc3 he3 => ?_
 rw [a1];rw [a2] at hF3;simp;refine fs_List hF3 (by decide) fun v S4 hK4 hN4 => ?_
 simp;refine TQ_mono hN4.toD fun x S5 hx => ?_;obtain ⟨rfl, hx2, hx3, hx4, hx5⟩ := hx;simp;refine ref5_Same (a := listF knownFl) (b := [⟨[98], [50]⟩]) (by decide) ?_
 simp;refine f_intro (fun j1 => ?_) (fun j1 => absurd rfl j1);have hI5 : IsD S5 a (doD (fmtD 60) [] knownOps).2.1 := hI3.of ((hx2 _ hI3.1).trans (hK4.1 _ hI3.1)) (by have := hI3.1; have := hK4.2.1; omega)
 have hF5 : IsF S5 fid a knownFl := hF3.of ((hx2 _ hF3.lt.1).trans (hK4.1 _ hF3.lt.1)) (by have := hF3.lt.1; have := hK4.2.1; omega)
 have o5 : Ok (doD (fmtD 60) [] knownOps).2.1 1000 := doD_ok (o1.less (by omega))
 simp [j1];refine fs_Left (n := 1000) hI5 hF5 (by decide) o5 fun S6 hI6 hF6 hM6 => ?_
 rw [a3, s3', known_left];simp;exact h
end Go.VM
end
section
namespace Go.VM
open Go.Proofs
set_option maxRecDepth 4000
attribute [-simp] Int.not_lt Int.not_le Nat.not_lt Nat.not_le
def LstR (S : St) (lo hi : Nat) (v : LV) (sz : Nat) (xs : List D) : Prop := hi ≤ S.next ∧ ((v = .lit [] ∧ xs = []) ∨ ∃ b ver fz, (lo ≤ b ∧ b < hi) ∧ v = .ar (.cell b 0 ver) sz 0 xs.length ∧ S.obj b = .cells [.own ver sz xs fz])
theorem SlN.r {S S' : St} {v : LV} {sz : Nat} {xs : List D} (h : SlN S S' v sz xs) : LstR S' S.next S'.next v sz xs := by
 rcases h with h | ⟨b, ver, h1, h2, h3, h4⟩
 ·exact ⟨Nat.le_refl _, .inl h⟩
 ·exact ⟨Nat.le_refl _, .inr ⟨b, ver, false, ⟨h1, h2⟩, h3, h4⟩⟩
theorem LstR.of {S S' : St} {lo hi : Nat} {v : LV} {sz : Nat} {xs : List D} (h : LstR S lo hi v sz xs) (ho : ∀ j, lo ≤ j → j < hi → S'.obj j = S.obj j) (hn : S.next ≤ S'.next) : LstR S' lo hi v sz xs := by
 obtain ⟨h0, h | ⟨b, ver, fz, h1, h2, h3⟩⟩ := h
 ·exact ⟨by omega, .inl h⟩
 ·exact ⟨by omega, .inr ⟨b, ver, fz, h1, h2, (ho b h1.1 h1.2).trans h3⟩⟩
theorem LstR.toD {S : St} {lo hi : Nat} {v : LV} {sz : Nat} {xs : List D} (h : LstR S lo hi v sz xs) : TQ (Go.VM.toD v) S fun x S2 => x = .sl xs ∧ (∀ j, (j < lo ∨ hi ≤ j) → S2.obj j = S.obj j) ∧ S2.next = S.next ∧ S2.clk = S.clk ∧ S2.esc = S.esc ∧ LstR S2 lo hi v sz xs := by
 obtain ⟨h0, ⟨rfl, rfl⟩ | ⟨b, ver, fz, h1, rfl, h4⟩⟩ := h
 ·exact ⟨rfl, fun _ _ => rfl, rfl, rfl, rfl, h0, .inl ⟨rfl, rfl⟩⟩
 ·rw [toD_ar, arrT_cell, TQ_get, h4];simp only [onCells_cells, List.getElem?_cons_zero, onOwn_own, if_true, Nat.zero_add, Nat.le_refl, setT_cell]
  cases fz with
  | true =>
   simp only [if_true];rw [sub_all (Nat.le_refl _)];exact ⟨rfl, fun _ _ => rfl, rfl, rfl, rfl, h0, .inr ⟨b, ver, true, h1, rfl, h4⟩⟩
  | false =>
   simp only [Bool.false_eq_true, if_false];rw [sub_all (Nat.le_refl _), TQ_bind, TQ_get, h4];exact ⟨rfl, fun j hj => by simp [show ¬ j = b by omega], rfl, rfl, rfl, h0, .inr ⟨b, ver, true, h1, rfl, by simp⟩⟩
end Go.VM
end
