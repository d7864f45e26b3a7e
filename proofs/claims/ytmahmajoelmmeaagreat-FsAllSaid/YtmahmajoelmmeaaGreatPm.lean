/- Law FsAll. No condition. -/
import Derived.Test.YtmahmajoelmmeaaGreatPa
namespace Go.VM
open Go.Proofs
set_option maxRecDepth 4000
attribute [-simp] Int.not_lt Int.not_le Nat.not_lt Nat.not_le
def ArrR (S : St) (lo hi : Nat) (v : LV) (sz : Nat) (xs : List D) : Prop := hi ≤ S.next ∧ ((v = .lit [] ∧ xs = []) ∨ ∃ b fz, (lo ≤ b ∧ b < hi) ∧ v = .ar (.arr b) sz 0 xs.length ∧ S.obj b = .arr sz xs fz)
theorem NewSl.r {S S' : St} {v : LV} {sz : Nat} {xs : List D} (h : NewSl S S' v sz xs) : ArrR S' S.next S'.next v sz xs := by
 rcases h with h | ⟨b, h1, h2, h3, h4⟩
 ·exact ⟨Nat.le_refl _, .inl h⟩
 ·exact ⟨Nat.le_refl _, .inr ⟨b, false, ⟨h1, h2⟩, h3, h4⟩⟩
theorem ArrR.of {S S' : St} {lo hi : Nat} {v : LV} {sz : Nat} {xs : List D} (h : ArrR S lo hi v sz xs) (ho : ∀ j, lo ≤ j → j < hi → S'.obj j = S.obj j) (hn : S.next ≤ S'.next) : ArrR S' lo hi v sz xs := by
 obtain ⟨h0, h | ⟨b, fz, h1, h2, h3⟩⟩ := h
 ·exact ⟨by omega, .inl h⟩
 ·exact ⟨by omega, .inr ⟨b, fz, h1, h2, (ho b h1.1 h1.2).trans h3⟩⟩
theorem ArrR.toD {S : St} {lo hi : Nat} {v : LV} {sz : Nat} {xs : List D} (h : ArrR S lo hi v sz xs) : TQ (Go.VM.toD v) S fun x S2 => x = .sl xs ∧ (∀ j, (j < lo ∨ hi ≤ j) → S2.obj j = S.obj j) ∧ S2.next = S.next ∧ S2.clk = S.clk ∧ S2.esc = S.esc ∧ ArrR S2 lo hi v sz xs := by
 obtain ⟨h0, ⟨rfl, rfl⟩ | ⟨b, fz, h1, rfl, h4⟩⟩ := h
 ·exact ⟨rfl, fun _ _ => rfl, rfl, rfl, rfl, h0, .inl ⟨rfl, rfl⟩⟩
 ·rw [toD_ar, arrT_arr, TQ_get, h4, onArr_arr];simp only [Nat.zero_add, Nat.le_refl, if_true]
  cases fz with
  | true =>
   simp only [if_true];rw [sub_all (Nat.le_refl _)];exact ⟨rfl, fun _ _ => rfl, rfl, rfl, rfl, h0, .inr ⟨b, true, h1, rfl, h4⟩⟩
  | false =>
   simp only [Bool.false_eq_true, if_false, setT_arr];rw [sub_all (Nat.le_refl _)];exact ⟨rfl, fun j hj => by simp [show ¬ j = b by omega], rfl, rfl, rfl, h0, .inr ⟨b, true, h1, rfl, by simp⟩⟩
structure Two (S : St) (a c fid gid : Nat) (o : Obj) (d x : Dk) (f g : List Fl) : Prop where
 d : IsD S a d
 x : IsR S c x
 f : IsF S fid a f
 g : IsG S gid c g
 o : S.obj 0 = o
theorem Two.of {S S' : St} {a c fid gid : Nat} {o : Obj} {d x : Dk} {f g : List Fl} (h : Two S a c fid gid o d x f g) (ho : ∀ j, j = 0 ∨ j = a ∨ j = c ∨ j = fid ∨ j = gid → S'.obj j = S.obj j) (hn : S.next ≤ S'.next) : Two S' a c fid gid o d x f g := by
 obtain ⟨h1, h2, h3, h4, h5⟩ := h;have k1 := h1.1;have k2 := h2.1;have k3 := h3.lt.1;have k4 := h4.lt.1;exact ⟨h1.of (ho _ (by simp)) (by omega), h2.of (ho _ (by simp)) (by omega), h3.of (ho _ (by simp)) (by omega), h4.of (ho _ (by simp)) (by omega), (ho 0 (by simp)).trans h5⟩
theorem Two.kept {S S' : St} {a c fid gid : Nat} {o : Obj} {d x : Dk} {f g : List Fl} (h : Two S a c fid gid o d x f g) (hk : Kept S S') : Two S' a c fid gid o d x f g :=
 h.of (fun j hj => hk.1 j (by have := h.d.1; have := h.x.1; have := h.f.lt.1; have := h.g.lt.1; omega)) hk.2.1
def Ne4 (a c fid gid : Nat) : Prop := (1 ≤ a ∧ 1 ≤ c ∧ 1 ≤ fid ∧ 1 ≤ gid) ∧ a ≠ c ∧ a ≠ fid ∧ a ≠ gid ∧ c ≠ fid ∧ c ≠ gid ∧ fid ≠ gid
theorem Two.doF {S : St} {a c fid gid n : Nat} {o : Obj} {d x : Dk} {f g : List Fl} {ops : List FOp} {Q : LV → St → Prop} (h : Two S a c fid gid o d x f g) (hne : Ne4 a c fid gid) (hw : Wl f d.many) (hok : Ok d (n + 320)) (hops : ops.length ≤ 1000 ∧ ∀ o ∈ ops, o.data.length ≤ 1000000)
  (hQ : ∀ S', Two S' a c fid gid o (doD d f ops).2.1 x (doD d f ops).2.2 g → (∀ j, j < S.next → j ≠ a → j ≠ fid → S'.obj j = S.obj j) → S.next ≤ S'.next → Q (.d (.int .i64 (doD d f ops).1)) S') : SQ cf 12 [.ptr fid 0, .d (.sl (rowD fopD ops))] S Q := by
 obtain ⟨⟨e1, e2, e3, e4⟩, e5, e6, e7, e8, e9, e10⟩ := hne;obtain ⟨k1, k2, k3, k4, k5⟩ := h;have l1 := k1.1;have l2 := k2.1;have l4 := k4.lt.1;exact fs_DoW k1 k3 hw hok hops fun S' hI' hF' ho hn _ _ => hQ S' ⟨hI', k2.of (ho c l2 (Ne.symm e5) e8) (by omega), hF', k4.of (ho gid l4 (Ne.symm e7) (Ne.symm e10)) (by omega), (ho 0 (by omega) (by omega) (by omega)).trans k5⟩ ho hn
theorem Two.doG {S : St} {a c fid gid n : Nat} {o : Obj} {d x : Dk} {f g : List Fl} {ops : List FOp} {Q : LV → St → Prop} (h : Two S a c fid gid o d x f g) (hne : Ne4 a c fid gid) (hw : Wl g x.many) (hok : Ok x (n + 320)) (hops : ops.length ≤ 1000 ∧ ∀ o ∈ ops, o.data.length ≤ 1000000)
  (hQ : ∀ S', Two S' a c fid gid o d (doD x g ops).2.1 f (doD x g ops).2.2 → (∀ j, j < S.next → j ≠ c → j ≠ gid → S'.obj j = S.obj j) → S.next ≤ S'.next → Q (.d (.int .i64 (doD x g ops).1)) S') : SQ cf 21 [.ptr gid 0, .d (.sl (rowD fopD ops))] S Q := by
 obtain ⟨⟨e1, e2, e3, e4⟩, e5, e6, e7, e8, e9, e10⟩ := hne;obtain ⟨k1, k2, k3, k4, k5⟩ := h;have l1 := k1.1;have l2 := k2.1;have l3 := k3.lt.1;exact ref5_DoW k2 k4 hw hok hops fun S' hI' hF' ho hn _ _ => hQ S' ⟨k1.of (ho a l1 e5 e7) (by omega), hI', k3.of (ho fid l3 (Ne.symm e8) e10) (by omega), hF', (ho 0 (by omega) (by omega) (by omega)).trans k5⟩ ho hn
theorem Two.mod {S S' : St} {a c fid gid : Nat} {o : Obj} {d x d' : Dk} {f g : List Fl} (h : Two S a c fid gid o d x f g) (hne : Ne4 a c fid gid) (hM : Mod S S' a) (hI : IsD S' a d') : Two S' a c fid gid o d' x f g := by
 obtain ⟨⟨e1, e2, e3, e4⟩, e5, e6, e7, e8, e9, e10⟩ := hne;obtain ⟨k1, k2, k3, k4, k5⟩ := h;have l1 := k1.1;have l2 := k2.1;have l3 := k3.lt.1;have l4 := k4.lt.1;have l5 := hM.2.1;exact ⟨hI, k2.of (hM.1 c l2 (Ne.symm e5)) (by omega), k3.of (hM.1 fid l3 (Ne.symm e6)) (by omega), k4.of (hM.1 gid l4 (Ne.symm e7)) (by omega), (hM.1 0 (by omega) (by omega)).trans k5⟩
set_option maxHeartbeats 4000000 in
theorem law_FsAll {first next : List FOp} {cr : Cr} (h1 : (∀ o ∈ first, okOp o) ∧ first.length * 48 ≤ lim) (h2 : (∀ o ∈ next, okOp o) ∧ next.length * 48 ≤ lim) (_ : (Lit.int .i64 cr.pos).wf = true ∧ ((∀ a ∈ cr.keep, True) ∧ cr.keep.length * 1 ≤ lim) ∧ True) :
  VQ cf 7 [.sl (rowD fopD first), .sl (rowD fopD next), crD cr] fun v => v = .d (.bool true) := by
 refine V_intro rfl (S_intro Tryz.func7 rfl rfl (Nat.le_of_ble_eq_true rfl) ?_);unfold crD boD;simp;refine law5_heavy (l := first) (okOp_len h1.1) ?_
 cases hv1 : heavyB first
 case true => simp; done
 simp;refine law5_heavy (l := next) (okOp_len h2.1) ?_
 cases hv2 : heavyB next
 case true => simp; done
 simp;intro _;refine f_intro (fun k1 => ?_) (fun k1 => ?_)
 ·simp [k1]
 simp [k1];refine law5_disk (p := 200) (by decide) fun S1 a c ha hc hne hI hR hK => ?_
 have ob : S1.obj 0 = .cells [.d (.int .i64 cr.pos), .d (.sl (rowD bo cr.keep))] := (hK.1 0 (by simp)).trans (by simp)
 have ha1 : 1 ≤ a := by simpa using ha
 have hc1 : 1 ≤ c := by simpa using hc
 obtain ⟨s1, s2, s3⟩ := fmt_sr (p := 200) (by decide)
 have o1 : Ok (fmtD 200) (10000 + 200) := fmt_ok (by decide) (by decide)
 have hmt := mount_sr s1 s2.down;obtain ⟨hmg, -, -, -⟩ := mount_eq o1;generalize fmtD 200 = d0 at s1 s2 s3 o1 hI hR hmt hmg;simp;refine fs_Mount hI o1 (fun he => absurd (by rw [hmt]) he) fun _ S2 fid hf hI2 hF2 hM2 => ?_
 rw [hmt] at hI2 hF2;replace hI2 : IsD S2 a d0 := hI2;replace hF2 : IsF S2 fid a [] := hF2;have la := hI.1;have lc := hR.1;have hfa := hF2.lt;have nx1 := hM2.2.1;have hR2 := hR.mod hM2 (Ne.symm hne);simp;refine ref5_Mount hR2 o1 (fun he => absurd (by rw [hmg, hmt]) he) fun _ S3 gid hg hR3 hG3 hM3 => ?_
 rw [hmg, hmt] at hR3 hG3;replace hR3 : IsR S3 c d0 := hR3;replace hG3 : IsG S3 gid c [] := hG3;have hga := hG3.lt;have nx2 := hM3.2.1;have hT3 : Two S3 a c fid gid (.cells [.d (.int .i64 cr.pos), .d (.sl (rowD bo cr.keep))]) d0 d0 [] [] := ⟨hI2.mod hM3 hne, hR3, hF2.of (hM3.1 _ hfa.1 (by omega)) (by omega), hG3, by rw [hM3.1 0 (by omega) (by omega), hM2.1 0 (by omega) (by omega), ob]⟩
 have q3 : fid ≠ gid := by omega
 clear hI hR hI2 hF2 hR2 hR3 hG3 ob hM2 hM3 hK hmt hmg;obtain ⟨ob, hob⟩ : ∃ ob, ob = Obj.cells [.d (.int .i64 cr.pos), .d (.sl (rowD bo cr.keep))] := ⟨_, rfl⟩;rw [← hob] at hT3;have hN : Ne4 a c fid gid := ⟨by omega, hne, by omega, by omega, by omega, by omega, q3⟩
 obtain ⟨v1, v2⟩ := heavy_no hv1;obtain ⟨v3, v4⟩ := heavy_no hv2;have p1 : first.length ≤ 1000 ∧ ∀ o ∈ first, o.data.length ≤ 1000000 := ⟨by omega, fun o ho => by have := v2 o ho; omega⟩
 have p2 : next.length ≤ 1000 ∧ ∀ o ∈ next, o.data.length ≤ 1000000 := ⟨by omega, fun o ho => by have := v4 o ho; omega⟩
 obtain ⟨-, -, a3, a4, -, c1, a5⟩ := do_sr (ops := first) s1 s2;have o2 : Ok (doD d0 [] first).2.1 9000 := doD_ok (o1.less (by omega))
 simp;refine hT3.doF (n := 9000) hN s1.wl (o1.less (by omega)) p1 fun S4 hT4 _ _ => ?_
 simp;refine hT4.doG (n := 9000) hN s1.wl (o1.less (by omega)) p1 fun S5 hT5 _ _ => ?_
 clear hT3 hT4;generalize doD d0 [] first = r at hT5 a3 a4 a5 o2;obtain ⟨er, d1, fl1⟩ := r;simp only at hT5 a3 a4 a5 o2 ⊢;simp;refine ref5_List hT5.g (wl_list a5.wl) fun w S6 hK6 hN6 => ?_;have hT6 := hT5.kept hK6;have hW6 := hN6.r;have b6 : a < S5.next ∧ c < S5.next ∧ fid < S5.next ∧ gid < S5.next := ⟨hT5.d.1, hT5.x.1, hT5.f.lt.1, hT5.g.lt.1⟩;simp;refine dev_Restart hT6.d fun S7 hI7 hM7 => ?_;have hT7 := hT6.mod hN hM7 hI7;have hW7 : ArrR S7 S5.next S6.next w 2 (rowD fiD (listF fl1)) := hW6.of (fun j g1 g2 => hM7.1 j g2 (by omega)) hM7.2.1
 have hk9 : cr.keep.length ≤ 1000000 := by omega
 simp [hT7.o, hob];refine dev_Arm (d := d1.restart) (c := cr) hT7.d hk9 (.inr (.inr (by unfold boD; rfl))) fun S8 hI8 hM8 => ?_
 have hT8 := hT7.mod hN hM8 hI8;have hn7 := hM7.2.1;have hW8 : ArrR S8 S5.next S6.next w 2 (rowD fiD (listF fl1)) := hW7.of (fun j g1 g2 => hM8.1 j (by have := hW7.1; omega) (by omega)) hM8.2.1
 have o3 : Ok d1 (8000 + 320) := o2.less (by omega)
 have o4 : Ok (d1.restart.arm cr) (8000 + 320) := by
  have := (o2.less (n := 9000) (m := 9000) (by omega))
  exact ⟨(o3.wf.restart (by omega)).arm, hk9⟩
 obtain ⟨z1, z2, z3⟩ := all_fs (a := cr) (ops := next) a5;have hwl : Wl fl1 (d1.restart.arm cr).many := a5.wl;simp;refine hT8.doF (n := 8000) hN hwl o4 p2 fun S9 hT9 ho9 hn9 => ?_;have hn8 := hM8.2.1;have hW9 : ArrR S9 S5.next S6.next w 2 (rowD fiD (listF fl1)) := hW8.of (fun j g1 g2 => ho9 j (by have := hW8.1; omega) (by omega) (by omega)) hn9
 simp;refine hT9.doG (n := 8000) hN a5.wl o3 p2 fun S10 hT10 ho10 hn10 => ?_;have hW10 : ArrR S10 S5.next S6.next w 2 (rowD fiD (listF fl1)) := hW9.of (fun j g1 g2 => ho10 j (by have := hW9.1; omega) (by omega) (by omega)) hn10
 obtain ⟨y1, y2, -, -, -, -⟩ := do_sr (ops := next) a5 a4;rw [y2] at hT10;rw [y1];have o5 : Ok (doD (d1.restart.arm cr) fl1 next).2.1 8000 := doD_ok o4;have hwr : Wl (doR fl1 d1.many next).2.2 d1.many := doR_wl a5.wl;generalize doD (d1.restart.arm cr) fl1 next = q at z1 z2 z3 hT10 o5;generalize doR fl1 d1.many next = q' at z1 z3 hT10 hwr;obtain ⟨ep, d3, fl3⟩ := q;obtain ⟨eq, w', fl4⟩ := q';simp only at z1 z2 z3 hT10 o5 hwr ⊢;simp [-X_seq];refine PX_seqcut (fun e' S' => e' 7 = .ptr a 0 ∧ e' 11 = .ptr gid 0 ∧ e' 13 = w ∧ e' 14 = .d (.int .i64 ep) ∧ S' = S10) ?_ fun e2 S2 hE => ?_
 ·simp;refine f_intro (fun j1 => ?_) (fun j1 => ?_)
  ·simp [j1]
  ·have e1 : ep = eq := z1.elim (fun e => absurd e j1) id;rw [e1] at j1;simp [e1, j1]
 obtain ⟨u7, u11, u13, u14, rfl⟩ := hE;have b10 := hT10;simp [u7];refine dev_Restart hT10.d fun S11 hI11 hM11 => ?_;have hT11 := hT10.mod hN hM11 hI11;have hW11 : ArrR S11 S5.next S6.next w 2 (rowD fiD (listF fl1)) := hW10.of (fun j g1 g2 => hM11.1 j (by have := hW10.1; omega) (by omega)) hM11.2.1
 have o6 : Ok d3.restart (7000 + 200) := ⟨(o5.less (n := 8000) (m := 7200) (by omega)).wf.restart (by omega), o5.keep⟩
 obtain ⟨-, t2, t3, t4⟩ := mount_eq o6;have hwm := t2 z2;simp [u7];refine fs_Mount hT11.d o6 (fun he => absurd z2 he) fun _ S12 mid hmid hI12 hF12 hM12 => ?_;have hT12 := hT11.mod hN hM12 hI12;have hW12 : ArrR S12 S5.next S6.next w 2 (rowD fiD (listF fl1)) := hW11.of (fun j g1 g2 => hM12.1 j (by have := hW11.1; omega) (by omega)) hM12.2.1
 generalize mountD d3.restart = r9 at z2 z3 hI12 hF12 hwm t3 t4 hT12;obtain ⟨em, d5, flm⟩ := r9;simp only at z2 z3 hI12 hF12 hwm t3 t4 hT12 ⊢;simp;refine fs_List hF12 (wl_list hwm) fun v S13 hK13 hN13 => ?_;have hT13 := hT12.kept hK13;have hV13 := hN13.r;have hW13 : ArrR S13 S5.next S6.next w 2 (rowD fiD (listF fl1)) := hW12.of (fun j g1 g2 => hK13.1 j (by have := hW12.1; omega)) hK13.2.1
 simp [u11];refine ref5_List hT13.g (wl_list hwr) fun v' S14 hK14 hN14 => ?_;have hV14 : LstR S14 S12.next S13.next v 2 (rowD fiD (listF flm)) := hV13.of (fun j g1 g2 => hK14.1 j g2) hK14.2.1;have hU14 := hN14.r;have hW14 : ArrR S14 S5.next S6.next w 2 (rowD fiD (listF fl1)) := hW13.of (fun j g1 g2 => hK14.1 j (by have := hW13.1; omega)) hK14.2.1
 simp;refine TQ_mono hV14.toD fun x S15 hx => ?_;obtain ⟨rfl, x1, x2, -, -, x5⟩ := hx;have hU15 : ArrR S15 S13.next S14.next v' 2 (rowD fiD (listF fl4)) := hU14.of (fun j g1 g2 => x1 j (.inr g1)) (by omega)
 have hW15 : ArrR S15 S5.next S6.next w 2 (rowD fiD (listF fl1)) := hW14.of (fun j g1 g2 => x1 j (.inl (by have := hW12.1; omega))) (by omega)
 simp;refine TQ_mono hU15.toD fun x S16 hx => ?_;obtain ⟨rfl, y3, y4, -, -, -⟩ := hx;have hV16 : LstR S16 S12.next S13.next v 2 (rowD fiD (listF flm)) := x5.of (fun j g1 g2 => y3 j (.inl g2)) (by omega)
 have hW16 : ArrR S16 S5.next S6.next w 2 (rowD fiD (listF fl1)) := hW15.of (fun j g1 g2 => y3 j (.inl (by have := hW13.1; omega))) (by omega)
 have m1 := wl_list hwm;have m2 := wl_list hwr;have m3 := wl_list a5.wl;simp;refine ref5_Same (by simp [listF]; omega) ?_
 simp;by_cases hsm : listF flm = listF fl4
 ·simp [hsm];refine law5_known ?_;simp
 ·have z4 : ep ≠ 0 ∧ flm = fl1 := z3.elim (fun e => absurd (by rw [e]) hsm) id
  simp [hsm, u13, u14, z4.1];refine TQ_mono hV16.toD fun x S17 hx => ?_;obtain ⟨rfl, x1, x2, -, -, -⟩ := hx;have hW17 : ArrR S17 S5.next S6.next w 2 (rowD fiD (listF fl1)) := hW16.of (fun j g1 g2 => x1 j (.inl (by have := hW12.1; omega))) (by omega)
  simp;refine TQ_mono hW17.toD fun x S18 hx => ?_;obtain ⟨rfl, -, -, -, -, -⟩ := hx;simp;refine ref5_Same (by simp [listF]; omega) ?_
  rw [z4.2] at hsm ⊢;simp;refine law5_known ?_;simp
end Go.VM
