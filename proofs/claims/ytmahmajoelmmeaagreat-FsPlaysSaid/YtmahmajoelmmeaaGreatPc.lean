/- Law FsPlays. No condition. -/
import Derived.Test.YtmahmajoelmmeaaGreatPa
namespace Go.VM
open Go.Proofs
set_option maxRecDepth 4000
attribute [-simp] Int.not_lt Int.not_le Nat.not_lt Nat.not_le
structure Act5 where
 kind : Int
 ops : List FOp
 crash : Cr
 name : List UInt8
 deriving Inhabited, DecidableEq
def act5D (x : Act5) : D := .agg [.int .i64 x.kind, .sl (rowD fopD x.ops), .int .i64 x.crash.pos, .sl (boD x.crash.keep), .str x.name]
theorem act5D_cells (x : Act5) : (act5D x).cells = [.int .i64 x.kind, .sl (rowD fopD x.ops), .int .i64 x.crash.pos, .sl (boD x.crash.keep), .str x.name] := rfl
attribute [simp] act5D_cells
def okOp (o : FOp) : Prop := True ∧ (o.name.length ≤ lim ∧ ((∀ c ∈ o.data, True) ∧ o.data.length * 1 ≤ lim) ∧ True) ∧ True
def Both (S : St) (a c : Nat) (d : Dk) (vf vg : LV) : Prop := (vf = .d .nilP ∧ vg = .d .nilP) ∨ ∃ fid gid fl, vf = .ptr fid 0 ∧ vg = .ptr gid 0 ∧ IsF S fid a fl ∧ IsG S gid c fl ∧ Wl fl d.many ∧ fid ≠ c ∧ gid ≠ a ∧ fid ≠ gid
theorem Both.keep {S S' : St} {a c : Nat} {d : Dk} {vf vg : LV} (h : Both S a c d vf vg) (ho : ∀ j, j < S.next → S'.obj j = S.obj j) (hn : S.next ≤ S'.next) : Both S' a c d vf vg := by
 rcases h with h | ⟨fid, gid, fl, h1, h2, h3, h4, h5⟩
 ·exact .inl h
 ·exact .inr ⟨fid, gid, fl, h1, h2, h3.of (ho _ h3.lt.1) (by have := h3.lt.1; omega), h4.of (ho _ h4.lt.1) (by have := h4.lt.1; omega), h5⟩
theorem Both.new {S : St} {a c : Nat} {d : Dk} {vf vg : LV} (h : Both S a c d vf vg) {y : Nat} (hy : S.next ≤ y) : vf ≠ .ptr y 0 ∧ vg ≠ .ptr y 0 := by
 rcases h with ⟨rfl, rfl⟩ | ⟨fid, gid, fl, rfl, rfl, h3, h4, -⟩
 ·exact ⟨fun e => (by cases e), fun e => (by cases e)⟩
 ·have h5 := h3.lt.1;have h6 := h4.lt.1;exact ⟨fun e => (by cases e; omega), fun e => (by cases e; omega)⟩
theorem Both.modA {S S' : St} {a c : Nat} {d d' : Dk} {vf vg : LV} (h : Both S a c d vf vg) (hM : Mod S S' a) (hm : d'.many = d.many) : Both S' a c d' vf vg := by
 rcases h with h | ⟨fid, gid, fl, h1, h2, h3, h4, h5, h6, h7, h8⟩
 ·exact .inl h
 ·have k := hM.2.1;exact .inr ⟨fid, gid, fl, h1, h2, h3.of (hM.1 _ h3.lt.1 (Ne.symm h3.lt.2)) (by have := h3.lt.1; omega), h4.of (hM.1 _ h4.lt.1 h7) (by have := h4.lt.1; omega), by rw [hm]; exact h5, h6, h7, h8⟩
theorem Both.modC {S S' : St} {a c : Nat} {d d' : Dk} {vf vg : LV} (h : Both S a c d vf vg) (hM : Mod S S' c) (hm : d'.many = d.many) : Both S' a c d' vf vg := by
 rcases h with h | ⟨fid, gid, fl, h1, h2, h3, h4, h5, h6, h7, h8⟩
 ·exact .inl h
 ·have k := hM.2.1;exact .inr ⟨fid, gid, fl, h1, h2, h3.of (hM.1 _ h3.lt.1 h6) (by have := h3.lt.1; omega), h4.of (hM.1 _ h4.lt.1 (Ne.symm h4.lt.2)) (by have := h4.lt.1; omega), by rw [hm]; exact h5, h6, h7, h8⟩
theorem byD_none {b : List UInt8} (h : byD b = []) : b = [] := by
 cases b with
 | nil => rfl
 | cons c b => cases h
theorem SlN.conv {S S' : St} {v : LV} {b : List UInt8} {K : LV → St → Prop} (h : SlN S S' v 1 (byD b)) (hK : K (.d (.str b)) S') : TQ (convertT Tryz.prog 40 9 v) S' K := by
 rcases h with ⟨rfl, hb⟩ | ⟨i, ver, h1, h2, rfl, h4⟩
 ·have := byD_none hb;subst this;simp;exact hK
 ·simp [h4];exact hK
theorem NewSl.conv {S S' : St} {v : LV} {b : List UInt8} {K : LV → St → Prop} (h : NewSl S S' v 1 (byD b)) (hK : K (.d (.str b)) S') : TQ (convertT Tryz.prog 40 9 v) S' K := by
 rcases h with ⟨rfl, hb⟩ | ⟨i, h1, h2, rfl, h4⟩
 ·have := byD_none hb;subst this;simp;exact hK
 ·simp [h4];exact hK
theorem SlN.toDX {S S1 S' : St} {v : LV} {sz : Nat} {xs : List D} (h : SlN S S1 v sz xs) (ho : ∀ j, j < S1.next → S'.obj j = S1.obj j) (_ : S1.next ≤ S'.next) : TQ (Go.VM.toD v) S' fun x S2 => x = .sl xs ∧ (∀ j, (j < S.next ∨ S1.next ≤ j) → S2.obj j = S'.obj j) ∧ S2.next = S'.next ∧ S2.clk = S'.clk ∧ S2.esc = S'.esc := by
 rcases h with ⟨rfl, rfl⟩ | ⟨b, ver, h1, h2, rfl, h4⟩
 ·exact ⟨rfl, fun _ _ => rfl, rfl, rfl, rfl⟩
 ·have h5 := (ho b h2).trans h4;rw [toD_ar, arrT_cell, TQ_get, h5];simp only [onCells_cells, List.getElem?_cons_zero, onOwn_own, if_true, Nat.zero_add, Nat.le_refl, Bool.false_eq_true, if_false, setT_cell];rw [sub_all (Nat.le_refl _), TQ_bind, TQ_get, h5];exact ⟨rfl, fun j hj => by simp [show ¬ j = b by omega], rfl, rfl, rfl⟩
theorem NewSl.toDY {S S1 S' : St} {v : LV} {sz : Nat} {xs : List D} (h : NewSl S S1 v sz xs) (ho : ∀ j, S.next ≤ j → j < S1.next → S'.obj j = S1.obj j) (hn : S1.next ≤ S'.next) : TQ (Go.VM.toD v) S' fun x S2 => x = .sl xs ∧ (∀ j, j < S.next → S2.obj j = S'.obj j) ∧ S2.next = S'.next ∧ S2.clk = S'.clk ∧ S2.esc = S'.esc := by
 refine TQ_mono (h.up ho hn).toDK fun x S2 hx => ?_;obtain ⟨h1, h2, h3, h4, h5, -⟩ := hx;refine ⟨h1, fun j hj => h2 j fun c e => ?_, h3, h4, h5⟩;rcases h with ⟨rfl, -⟩ | ⟨i, i1, -, rfl, -⟩
 ·cases e
 ·cases e
  omega
def actC (x : Act5) : Obj := .cells [.d (.int .i64 x.kind), .d (.sl (rowD fopD x.ops)), .d (.int .i64 x.crash.pos), .d (.sl (boD x.crash.keep)), .d (.str x.name)]
def MidM (S : St) (a c : Nat) (d : Dk) (vf ve : LV) : Prop := IsD S a (mountD d).2.1 ∧ IsR S c d ∧ ve = .d (.int .i64 (mountD d).1) ∧ (((mountD d).1 ≠ 0 ∧ vf = .d .nilP) ∨ ((mountD d).1 = 0 ∧ ∃ fid, vf = .ptr fid 0 ∧ IsF S fid a (mountD d).2.2 ∧ fid ≠ c))
theorem fs_MountM {S : St} {a c n : Nat} {d : Dk} {Q : LV → St → Prop} (hI : IsD S a d) (hR : IsR S c d) (hne : a ≠ c) (hok : Ok d (n + 200)) (h : ∀ vf ve S', MidM S' a c d vf ve → Mod S S' a → Q (.tup [vf, ve]) S') : SQ cf 11 [.ptr a 0] S Q := by
 refine fs_Mount hI hok (fun he S3 hI3 hM3 => ?_) (fun he S3 fid hf hI3 hF3 hM3 => ?_)
 ·exact h _ _ S3 ⟨hI3, hR.mod hM3 hne.symm, rfl, .inl ⟨he, rfl⟩⟩ hM3
 ·have := hR.1;exact h _ _ S3 ⟨hI3, hR.mod hM3 hne.symm, by rw [he], .inr ⟨he, fid, rfl, hF3, by omega⟩⟩ hM3
theorem ref5_MountM {S : St} {a c n : Nat} {d : Dk} {vf ve : LV} {Q : LV → St → Prop} (hM : MidM S a c d vf ve) (hne : a ≠ c) (hok : Ok d (n + 200)) (h : ∀ vg S', IsD S' a (mountD d).2.1 → IsR S' c (mountD d).2.1 → Both S' a c (mountD d).2.1 vf vg → Mod S S' c → Q (.tup [vg, ve]) S') : SQ cf 20 [.ptr c 0] S Q := by
 obtain ⟨e1, e2, e3, e4⟩ := mount_eq hok;obtain ⟨hI, hR, rfl, hf⟩ := hM;rw [← e3] at e2;rw [← e1] at e2 hI hf h;refine ref5_Mount hR hok (fun he S3 hR3 hM3 => ?_) (fun he S3 gid hg hR3 hG3 hM3 => ?_)
 ·rcases hf with ⟨-, rfl⟩ | ⟨h0, -⟩
  ·exact h _ S3 (hI.mod hM3 hne) hR3 (.inl ⟨rfl, rfl⟩) hM3
  ·exact absurd h0 he
 ·rcases hf with ⟨h0, -⟩ | ⟨-, fid, rfl, hF, hfc⟩
  ·exact absurd he h0
  ·have h1 := hF.lt.1;have h2 := hI.1;have := h _ S3 (hI.mod hM3 hne) hR3 (.inr ⟨fid, gid, _, rfl, rfl, hF.of (hM3.1 fid h1 hfc) (by have := hM3.2.1; omega), hG3, e2 he, hfc, by omega, by omega⟩) hM3
   rw [he] at this;exact this
set_option maxHeartbeats 4000000 in
theorem law_FsPlays {places : Int} {l : List Act5} (_ : (Lit.int .i64 places).wf = true) (hl0 : (∀ x ∈ l, (Lit.int .i64 x.kind).wf = true ∧ ((∀ o ∈ x.ops, okOp o) ∧ x.ops.length * 48 ≤ lim) ∧ ((Lit.int .i64 x.crash.pos).wf = true ∧ ((∀ a ∈ x.crash.keep, True) ∧ x.crash.keep.length * 1 ≤ lim) ∧ True) ∧ x.name.length ≤ lim ∧ True) ∧ l.length * 80 ≤ lim) :
  VQ cf 8 [.int .i64 places, .sl (rowD act5D l)] fun v => v = .d (.bool true) := by
 refine V_intro rfl (S_intro Tryz.func8 rfl rfl (Nat.le_of_ble_eq_true rfl) ?_);simp;refine f_intro (fun k1 => ?_) (fun k1 => ?_)
 ·simp [k1]
 simp [k1];refine f_intro (fun k2 => ?_) (fun k2 => ?_)
 ·simp [k2]
 simp [k2];intro _;refine f_intro (fun k3 => ?_) (fun k3 => ?_)
 ·simp [k3]
 obtain ⟨p, rfl⟩ : ∃ p : Nat, places = p := ⟨places.toNat, by omega⟩
 simp [k3];refine law5_disk (p := p) (by omega) fun S1 a c ha hc hne hI hR hK => ?_
 simp [-X_seq];have o1 : Ok (fmtD p) (80000 + 200) := fmt_ok (by omega) (by omega)
 refine PX_seqcut (fun e S => e 1 = .d (.sl (rowD act5D l)) ∧ e 5 = .ptr a 0 ∧ e 6 = .ptr c 0 ∧ MidM S a c (fmtD p) (e 7) (e 8)) ?_ fun e0 S0 hE => ?_
 ·simp;refine fs_MountM hI hR hne o1 fun vf ve S2 hm hM => ?_;simp;exact hm
 obtain ⟨e1, e5, e6, hm⟩ := hE;refine PX_seqcut (fun e S => e 1 = .d (.sl (rowD act5D l)) ∧ e 5 = .ptr a 0 ∧ e 6 = .ptr c 0 ∧ ∃ d er, IsD S a d ∧ IsR S c d ∧ Ok d 80000 ∧ e 8 = .d (.int .i64 er) ∧ e 10 = .d (.int .i64 er) ∧ Both S a c d (e 7) (e 9)) ?_ fun e2 S2 hE => ?_
 ·simp [e6];refine ref5_MountM hm hne o1 fun vg S3 hI3 hR3 hB3 hM => ?_;simp [e1, e5, e6];exact ⟨_, hI3, hR3, (mount_eq o1).2.2.2, ⟨_, hm.2.2.1⟩, hB3⟩
 clear hm e1 e5 e6 hI hR o1;obtain ⟨e1, e5, e6, d0, er, hI, hR, hok, e8, e10, hB⟩ := hE;simp;refine X_loop (fun (k : Nat) e S => k ≤ l.length ∧ e 1 = .d (.sl (rowD act5D l)) ∧ e 5 = .ptr a 0 ∧ e 6 = .ptr c 0 ∧ e 11 = .d (.int .i64 k) ∧
  ∃ d er, IsD S a d ∧ IsR S c d ∧ Ok d (80000 - 4000 * k) ∧ e 8 = .d (.int .i64 er) ∧ e 10 = .d (.int .i64 er) ∧ Both S a c d (e 7) (e 9)) (fun k => l.length - k) 0 ?_ ?_
 ·simp [e1, e5, e6];exact ⟨d0, hI, hR, hok, er, e8, e10, hB⟩
 clear hI hR hok e8 e10 hB e1 e5 e6 er d0;intro k e S hJ;obtain ⟨g1, g2, g3, g4, g5, d, er, hI, hR, hok, g8, g10, hB⟩ := hJ;simp [g2, g5];intro _;refine f_intro (fun j1 => ?_) (fun j1 => ?_)
 ·have hk16 : k < 16 := by omega
  simp [-X_seq, -X_block];refine PX_seqcut (fun e S => e 1 = .d (.sl (rowD act5D l)) ∧ e 5 = .ptr a 0 ∧ e 6 = .ptr c 0 ∧ e 11 = .d (.int .i64 k) ∧ ∃ d er, IsD S a d ∧ IsR S c d ∧ Ok d (80000 - 4000 * (k + 1)) ∧ e 8 = .d (.int .i64 er) ∧ e 10 = .d (.int .i64 er) ∧ Both S a c d (e 7) (e 9)) ?_ fun e3 S3 hE => ?_
  ·simp [-X_seq];obtain ⟨vf, hvf⟩ : ∃ vf, e 7 = vf := ⟨_, rfl⟩;obtain ⟨vg, hvg⟩ : ∃ vg, e 9 = vg := ⟨_, rfl⟩;rw [hvf, hvg] at hB;refine PX_seqcut (fun e' S' => e' 1 = .d (.sl (rowD act5D l)) ∧ e' 5 = .ptr a 0 ∧ e' 6 = .ptr c 0 ∧ e' 11 = .d (.int .i64 k) ∧ e' 7 = vf ∧ e' 9 = vg ∧ S' = S) ?_ fun e3 S3 hE => ?_
   ·simp [g8, g10];rcases hB with ⟨rfl, rfl⟩ | ⟨fid, gid, fl, rfl, rfl, -⟩
    ·simp [hvf, hvg, g2, g3, g4, g5]
    ·simp [hvf, hvg, g2, g3, g4, g5]
   obtain ⟨f1, f5, f6, f11, f7, f9, rfl⟩ := hE;clear g2 g3 g4 g5 g8 g10;have hx := hl0.1 _ (nth_mem j1);have hba := hI.1;have hbc := hR.1;refine PX_seqcut (fun e' S' => e' 1 = .d (.sl (rowD act5D l)) ∧ e' 5 = .ptr a 0 ∧ e' 6 = .ptr c 0 ∧ e' 11 = .d (.int .i64 k) ∧ e' 7 = vf ∧ e' 9 = vg ∧ e' 12 = .ptr S3.next 0 ∧ S'.obj S3.next = actC (nth l k) ∧ S'.next = S3.next + 1 ∧ ∀ j, j < S3.next → S'.obj j = S3.obj j) ?_ fun e4 S4 hE => ?_
   ·simp [f1, f11, j1];refine ⟨f5, f6, f7, f9, rfl, fun j hj => ?_⟩;simp [show ¬ j = S3.next by omega]
   generalize nth l k = x at hx hE;clear f1 f5 f6 f11 f7 f9;obtain ⟨f1, f5, f6, f11, f7, f9, f12, fo, fn, fk⟩ := hE;replace hI := hI.of (fk a hba) (S' := S4) (by omega)
   replace hR := hR.of (fk c hbc) (S' := S4) (by omega)
   have hnew := hB.new (Nat.le_refl _);replace hB := hB.keep fk (by omega)
   generalize S3.next = y at f12 fo fn fk hnew hba hbc;refine PX_seqcut (fun e' S' => e' 1 = .d (.sl (rowD act5D l)) ∧ e' 5 = .ptr a 0 ∧ e' 6 = .ptr c 0 ∧ e' 11 = .d (.int .i64 k) ∧ e' 7 = vf ∧ e' 9 = vg ∧ e' 12 = .ptr y 0 ∧ S' = S4 ∧ heavyB x.ops = false ∧ x.crash.keep.length ≤ 200) ?_ fun e5 S5 hE => ?_
   ·simp [f12, fo, actC];refine law5_heavy (l := x.ops) (fun o ho => ?_) ?_
    ·obtain ⟨-, ⟨m1, ⟨-, m2⟩, -⟩, -⟩ := hx.2.1.1 o ho;exact ⟨by simpa [lim] using m2, m1⟩
    simp
    cases hv : heavyB x.ops
    ·simp [f12, fo, actC, boD];intro _;refine f_intro (fun m1 => ?_) (fun m1 => ?_)
     ·simp [m1]
     ·simp [m1, f1, f5, f6, f11, f7, f9, f12];omega
    ·simp
   obtain ⟨b1, b5, b6, b11, b7, b9, b12, rfl, hv, hkp⟩ := hE;clear f1 f5 f6 f11 f7 f9 f12;obtain ⟨v1, v2⟩ := heavy_no hv;obtain ⟨N, hN⟩ : ∃ N, N = 80000 - 4000 * (k + 1) := ⟨_, rfl⟩;have q1 : Ok d (N + 3000) := hok.less (by omega)
   refine PX_seqcut (fun e' S' => e' 1 = .d (.sl (rowD act5D l)) ∧ e' 5 = .ptr a 0 ∧ e' 6 = .ptr c 0 ∧ e' 11 = .d (.int .i64 k) ∧ ∃ d', IsD S' a d' ∧ IsR S' c d' ∧ Ok d' N ∧ Both S' a c d' (e' 7) (e' 9)) ?_ fun e6 S6 hE => ?_
   ·have hactC : actC x = .cells [.d (.int .i64 x.kind), .d (.sl (rowD fopD x.ops)), .d (.int .i64 x.crash.pos), .d (.sl (boD x.crash.keep)), .d (.str x.name)] := rfl;rw [hactC] at fo;simp [b12, fo];refine f_intro (fun m1 => ?_) (fun m1 => ?_)
    ·rcases hB with ⟨rfl, rfl⟩ | ⟨fid, gid, fl, rfl, rfl, hF, hG, hW, n1, n2, n3⟩
     ·simp [b12, fo, m1, b9];exact ⟨b1, b5, b6, b11, d, hI, hR, q1.less (by omega), .inl ⟨b7, rfl⟩⟩
     ·simp [m1, b9];have la := hI.1;have lc := hR.1;have lf := hF.lt;have lg := hG.lt;have y1 : ¬ y = a := by omega
      have y2 : ¬ y = c := by omega
      have y3 : ¬ y = fid := fun e => hnew.1 (by rw [e])
      have y4 : ¬ y = gid := fun e => hnew.2 (by rw [e])
      have q2 : Ok d (N + 2680 + 320) := q1;have hops : x.ops.length ≤ 1000 ∧ ∀ o ∈ x.ops, o.data.length ≤ 1000000 := ⟨by omega, fun o ho => by have := v2 o ho; omega⟩
      refine X_drawM [0, 0, 2, 7, 0, 0, 32, 127, 255, 511] (by decide +kernel) (by decide +kernel) ?_
      simp [b7, b12, fo];refine sh_Do (hI.of rfl (by simp; omega)) (hF.of rfl (by simp; omega)) hW q2 hops fun S6 hI6 hF6 ho6 hn6 hc6 he6 => ?_
      have o6 := ho6 y y1 y3;simp at o6 hn6 hc6;rw [fo] at o6;simp [hn6, hc6, b9, b12, o6];have hR6 : IsR S6 c d := hR.of (ho6 c (Ne.symm hne) (Ne.symm n1)) (by omega)
      have hG6 : IsG S6 gid c fl := hG.of (ho6 gid n2 (Ne.symm n3)) (by omega)
      refine shG_Do (hR6.of rfl (by simp; omega)) (hG6.of rfl (by simp; omega)) hW q2 hops fun S7 hR7 hG7 ho7 hn7 hc7 he7 => ?_
      simp at hn7 hc7;have hI7 := hI6.of (S' := S7) (ho7 a hne (Ne.symm n2)) (by omega)
      have hF7 := hF6.of (S' := S7) (ho7 fid n1 n3) (by omega)
      have q3 : Ok (doD d fl x.ops).2.1 N := (doD_ok (n := N + 2680) q2).less (by omega)
      have q4 := do_wl (ops := x.ops) hW;generalize doD d fl x.ops = r at hI7 hF7 hR7 hG7 q3 q4;simp [hn7, hc7];refine ⟨by simp [hne, n1, Ne.symm n2, n3, y1, y2, y3, y4, Ne.symm y1, Ne.symm y3], ?_⟩
      have hI8 : IsD ⟨S7.obj, S5.next + 1000, S5.clk + 1000, S7.esc⟩ a r.2.1 := hI7.of rfl (by show a < S5.next + 1000; omega)
      have hR8 : IsR ⟨S7.obj, S5.next + 1000, S5.clk + 1000, S7.esc⟩ c r.2.1 := hR7.of rfl (by show c < S5.next + 1000; omega)
      refine f_intro (fun m9 => ?_) (fun m9 => ?_)
      ·simp [m9, b1, b5, b6, b11];exact ⟨_, hI8, hR8, q3, .inl ⟨rfl, rfl⟩⟩
      ·simp [m9, b1, b5, b6, b11, b7, b9];exact ⟨_, hI8, hR8, q3, .inr ⟨fid, gid, _, rfl, rfl, hF7.of rfl (by show fid < S5.next + 1000; omega), hG7.of rfl (by show gid < S5.next + 1000; omega), q4, n1, n2, n3⟩⟩
    ·simp [b12, fo, m1];refine f_intro (fun m2 => ?_) (fun m2 => ?_)
     ·simp [b5, b12, fo, m2];refine dev_Arm (d := d) (c := x.crash) hI (by omega) (.inr (.inr rfl)) fun S5' hI5 hM5 => ?_
      have o5 := hM5.1 y (by omega) (by omega)
      rw [fo] at o5;simp [b6, b12, o5];refine ref_Arm (d := d) (c := x.crash) (hR.mod hM5 (Ne.symm hne)) (by omega) (.inr rfl) fun S6 hR6 hM6 => ?_
      simp [b1, b5, b6, b11];exact ⟨_, hI5.mod hM6 hne, hR6, ⟨(q1.less (by omega)).wf.arm, by show x.crash.keep.length ≤ _; omega⟩, by rw [b7, b9]; exact (hB.modA hM5 rfl).modC hM6 rfl⟩
     simp [b12, fo, m2];refine f_intro (fun m3 => ?_) (fun m3 => ?_)
     ·simp [b5, m3];refine dev_Restart (d := d) hI fun S5' hI5 hM5 => ?_;simp [b6];refine ref_Restart (d := d) (hR.mod hM5 (Ne.symm hne)) fun S6 hR6 hM6 => ?_;have q0 : Ok d (N + 200) := q1.less (by omega)
      have q2 : Ok d.restart (N + 200) := ⟨q0.wf.restart (by omega), q0.keep⟩
      simp [b5];refine fs_MountM (hI5.mod hM6 hne) hR6 hne q2 fun vf' ve' S7 hm7 hM7 => ?_;simp [b6];refine ref5_MountM hm7 hne q2 fun vg' S8 hI8 hR8 hB8 hM8 => ?_;have hve := hm7.2.2.1;subst hve;simp [b1, b5, b6, b11];exact ⟨_, hI8, hR8, (mount_eq q2).2.2.2, hB8⟩
     simp [b12, fo, m3];refine f_intro (fun m4 => ?_) (fun m4 => ?_)
     ·rcases hB with ⟨rfl, rfl⟩ | ⟨fid, gid, fl, rfl, rfl, hF, hG, hW, n1, n2, n3⟩
      ·simp [m4, b9];exact ⟨b1, b5, b6, b11, d, hI, hR, q1.less (by omega), .inl ⟨b7, rfl⟩⟩
      ·simp [b12, fo, m4, b9, b7];obtain ⟨w1, w2⟩ := wl_small hW;have hsz : fl.length ≤ 1000000 ∧ ∀ x ∈ fl, x.data.length ≤ 1000000 := ⟨by omega, fun x hx => by have := (w2 x hx).2; omega⟩
       refine fs_Get hF hsz fun v6 S6 hK6 hG6 => ?_;have fo6 : S6.obj y = S5.obj y := hK6.1 y (by omega)
       rw [fo] at fo6
       cases hg : getF fl x.name with
       | none =>
        rw [hg] at hG6
        cases hG6
        simp [b12, fo6, b9];refine ref5_Get (hG.of (hK6.1 _ hG.lt.1) (by have := hG.lt.1; have := hK6.2.1; omega)) hsz fun v8 S8 hK8 hG8 => ?_
        rw [hg] at hG8
        cases hG8
        simp [b1, b5, b6, b11, b7, b9];have hK8' := hK6.trans hK8;exact ⟨d, hI.kept hK8', hR.kept hK8', q1.less (by omega), Both.keep (.inr ⟨fid, gid, fl, rfl, rfl, hF, hG, hW, n1, n2, n3⟩) hK8'.1 hK8'.2.1⟩
       | some b =>
        rw [hg] at hG6;obtain ⟨v7, rfl, hN7⟩ := hG6;simp [b12, fo6, b9];refine ref5_Get (hG.of (hK6.1 _ hG.lt.1) (by have := hG.lt.1; have := hK6.2.1; omega)) hsz fun v8 S8 hK8 hG8 => ?_
        rw [hg] at hG8;obtain ⟨v9, rfl, hN9⟩ := hG8;simp;have hN7' : SlN S5 S8 v7 1 (byD b) := by
         rcases hN7 with h | ⟨i, ver, i1, i2, i3, i4⟩
         ·exact .inl h
         ·exact .inr ⟨i, ver, i1, by have := hK8.2.1; omega, i3, (hK8.1 i i2).trans i4⟩
        refine hN7'.conv ?_;simp;refine hN9.conv ?_;simp [b1, b5, b6, b11, b7, b9];have hK8' := hK6.trans hK8;exact ⟨d, hI.kept hK8', hR.kept hK8', q1.less (by omega), Both.keep (.inr ⟨fid, gid, fl, rfl, rfl, hF, hG, hW, n1, n2, n3⟩) hK8'.1 hK8'.2.1⟩
     ·simp [m4];exact ⟨b1, b5, b6, b11, d, hI, hR, q1.less (by omega), by rw [b7, b9]; exact hB⟩
   obtain ⟨f1, f5, f6, f11, d', hI', hR', hok', hB'⟩ := hE;clear hB hI hR fo;rw [hN] at hok';obtain ⟨vf', hvf'⟩ : ∃ vf, e6 7 = vf := ⟨_, rfl⟩;obtain ⟨vg', hvg'⟩ : ∃ vg, e6 9 = vg := ⟨_, rfl⟩;rw [hvf', hvg'] at hB';rcases hB' with ⟨rfl, rfl⟩ | ⟨fid, gid, fl, rfl, rfl, hF, hG, hW, n1, n2, n3⟩
   ·simp [hvf', hvg', f1, f5, f6, f11];exact ⟨d', hI', hR', hok', .inl ⟨rfl, rfl⟩⟩
   ·simp [hvf', hvg'];obtain ⟨w1, w2⟩ := wl_small hW;have hsz : fl.length ≤ 1000000 ∧ ∀ x ∈ fl, x.data.length ≤ 1000000 := ⟨by omega, fun x hx => by have := (w2 x hx).2; omega⟩
    have hszs : fl.length ≤ 1000000 ∧ ∀ x ∈ fl, x.size ≤ 1000000 := ⟨by omega, fun x hx => by have := (w2 x hx).1; omega⟩
    refine fs_List hF hsz fun v7 S7 hK7 hN7 => ?_;simp [hvg'];refine ref5_List (hG.of (hK7.1 _ hG.lt.1) (by have := hG.lt.1; have := hK7.2.1; omega)) hsz fun v8 S8 hK8 hN8 => ?_
    simp;have hK9 := hK7.trans hK8;refine TQ_mono (hN7.toDX hK8.1 hK8.2.1) fun x S9 hx => ?_;obtain ⟨rfl, x1, x2, x3, x4⟩ := hx;simp;refine TQ_mono (hN8.toDY (fun j j1 j2 => x1 j (.inr j1)) (by omega)) fun x S10 hx => ?_
    obtain ⟨rfl, y1, y2, y3, y4⟩ := hx;have hk10 : Kept S6 S10 := ⟨fun j hj => by rw [y1 j (by have := hK7.2.1; omega), x1 j (.inl hj), hK9.1 j hj], by have := hK9.2.1; omega, by have := hK9.2.2.1; omega, by rw [y4, x4, hK9.2.2.2]⟩
    simp;refine ref5_Same (by simp [listF]; omega) ?_
    simp [hvf'];refine fs_Left (hI'.kept hk10) (hF.of (hk10.1 _ hF.lt.1) (by have := hF.lt.1; have := hk10.2.1; omega)) hszs hok' fun S11 hI11 hF11 hM11 => ?_
    simp [hvg'];have hG10 : IsG S10 gid c fl := hG.of (hk10.1 _ hG.lt.1) (by have := hG.lt.1; have := hk10.2.1; omega)
    refine ref5_Left ((hR'.kept hk10).mod hM11 (Ne.symm hne)) (hG10.of (hM11.1 _ hG10.lt.1 n2) (by have := hG10.lt.1; have := hM11.2.1; omega)) hsz hok' fun S12 hR12 hG12 hM12 => ?_
    rw [hW.left, hW.gnodes];simp [hvf', hvg', f1, f5, f6, f11];exact ⟨d', hI11.mod hM12 hne, hR12, hok', .inr ⟨fid, gid, fl, rfl, rfl, hF11.of (hM12.1 _ hF11.lt.1 n1) (by have := hF11.lt.1; have := hM12.2.1; omega), hG12, hW, n1, n2, n3⟩⟩
  ·obtain ⟨h1, h5, h6, h11, d', er', hI', hR', hok', h8, h10, hB'⟩ := hE;simp [h11, wrap_i64 (show -9223372036854775808 ≤ (k : Int) + 1 by omega) (by omega)]
   exact ⟨k + 1, ⟨by omega, h1, h5, h6, by simp, d', hI', hR', hok', er', h8, h10, hB'⟩, by omega⟩
 ·simp;refine law5_known ?_;simp
end Go.VM
