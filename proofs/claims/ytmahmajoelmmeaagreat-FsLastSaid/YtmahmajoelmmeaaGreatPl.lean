/- Law FsLast. No condition. -/
import Derived.Test.YtmahmajoelmmeaaGreatPg
namespace Go.VM
open Go.Proofs
set_option maxRecDepth 4000
attribute [-simp] Int.not_lt Int.not_le Nat.not_lt Nat.not_le
def lastNs : List (List UInt8) := [[102, 97], [102, 98], [102, 99], [102, 100]]
def lastI (x : FOp) : Nat := x.name.length % 2 ^ 64 &&& 3
def lastN (x : FOp) : List UInt8 := [102, u8 (97 + (lastI x : Nat))]
theorem lastI_le {x : FOp} : lastI x ≤ 3 := Nat.and_le_right
theorem lastN_in {x : FOp} : lastN x ∈ lastNs ∧ isName (lastN x) = true := by
 have h := lastI_le (x := x);unfold lastN;generalize lastI x = n at h;obtain rfl | rfl | rfl | rfl : n = 0 ∨ n = 1 ∨ n = 2 ∨ n = 3 := by omega
 all_goals decide
theorem bytes1 {a : UInt8} : bytesOf? [.int .u8 a.toNat] = some [a] := byD_of (b := [a])
theorem lastI_eq {x : FOp} : u8 (IntKind.i64.wrap (97 + IntKind.i64.wrap ((x.name.length % 2 ^ IntKind.i64.bits &&& 3 % 2 ^ IntKind.i64.bits : Nat) : Int))) = u8 (97 + (lastI x : Nat)) := by
 have h := lastI_le (x := x);have e : (x.name.length % 2 ^ IntKind.i64.bits &&& 3 % 2 ^ IntKind.i64.bits) = lastI x := by
  rw [bits64];rfl
 rw [e, wrap_i64 (n := (lastI x : Int)) (by omega) (by omega), wrap_i64 (by omega) (by omega)]
theorem LstR.convL {S : St} {lo hi : Nat} {v : LV} {b : List UInt8} {K : LV → St → List Nat → List Nat → Prop} (h : LstR S lo hi v 1 (byD b)) (hK : ∀ r, K (.d (.str b)) S r []) : TL (convertT Tryz.prog 40 9 v) S K := by
 obtain ⟨h0, ⟨rfl, hb⟩ | ⟨i, ver, fz, h1, rfl, h4⟩⟩ := h
 ·have hb' : b = [] := by
   cases b with
   | nil => rfl
   | cons c b => cases hb
  subst hb';simp;exact hK _
 ·simp [h4];exact hK _
theorem srt_nth {fl : List Fl} (h : Srt fl) {i : Nat} (hi : i + 1 < fl.length) : (nth (listF fl) i).name < (nth (listF fl) (i + 1)).name := by
 have h1 := List.pairwise_iff_getElem.1 h i (i + 1) (by omega) hi (by omega)
 have e : ∀ j (hj : j < fl.length), (nth (listF fl) j).name = fl[j].name := fun j hj => by simp [nth, listF, hj]
 rw [e i (by omega), e (i + 1) hi]
 exact h1
def LastS (S : St) (a fid k : Nat) : Prop := ∃ d c fl, IsD S a d ∧ IsF S fid a fl ∧ Sd d fl c ∧ d.many = 250 ∧ Few lastNs fl ∧ Ok d (20000 - 400 * k)
set_option maxHeartbeats 4000000 in
theorem law_FsLast {l : List FOp} (h0 : (∀ o ∈ l, okOp o) ∧ l.length * 48 ≤ lim) : VQ cf 5 [.sl (rowD fopD l)] fun v => v = .d (.bool true) := by
 refine V_intro rfl (S_intro Tryz.func5 rfl rfl (Nat.le_of_ble_eq_true rfl) ?_);have hfc : ∀ x, (fopD x).cells = [.bool x.drop, .str x.name, .sl (byD x.data)] := fun _ => rfl;have hfs : sized 3 (rowD fopD l) := rowD_sized fun _ => rfl;simp;intro _;refine f_intro (fun k1 => ?_) (fun k1 => ?_)
 ·simp [k1]
 simp [k1];refine law5_disk (p := 250) (by decide) fun S1 a c ha hc hne hI hR hK => ?_
 obtain ⟨s1, s3⟩ := fmt_sd (p := 250) (by decide)
 have o1 : Ok (fmtD 250) 30000 := fmt_ok (by decide) (by decide)
 have hmt := mount_sd s1;simp;refine fs_Mount hI (n := 29000) (o1.less (by omega)) (fun he => absurd (by rw [hmt]) he) fun _ S2 fid hf hI2 hF2 hM2 => ?_
 rw [hmt] at hI2 hF2;replace hI2 : IsD S2 a (fmtD 250) := hI2;replace hF2 : IsF S2 fid a [] := hF2;replace s3 : (fmtD 250).many = 250 := s3;clear hI hR hK hmt;generalize fmtD 250 = d0 at s1 s3 o1 hI2 hF2;simp;refine X_loop (fun (k : Nat) e S => k ≤ l.length ∧ e 0 = .d (.sl (rowD fopD l)) ∧ e 5 = .ptr fid 0 ∧ e 7 = .d (.int .i64 k) ∧ LastS S a fid k) (fun k => l.length - k) 0 ?_ ?_
 ·simp;exact ⟨d0, _, [], hI2, hF2, s1, s3, ⟨fun x h => (by cases h), fun x h => (by cases h)⟩, o1.less (by omega)⟩
 clear hI2 hF2 s1 s3 o1;intro k e S hJ;obtain ⟨g1, g0, g5, g7, d, c, fl, hI, hF, hs, hm, hfew, hok⟩ := hJ;obtain ⟨N, hN⟩ : ∃ N, N = 20000 - 400 * (k + 1) := ⟨_, rfl⟩;simp [g0, g7];intro _;refine f_intro (fun j1 => ?_) (fun j1 => ?_)
 ·have hk12 : k < 12 := by omega
  simp [g0, g7, j1, hfc];intro _;refine f_intro (fun j2 => ?_) (fun j2 => ?_)
  ·simp [j2]
  simp [-X_seq, j2];obtain ⟨x, hx⟩ : ∃ x, x = nth l k := ⟨_, rfl⟩;rw [← hx] at j2;have hb := h0.1 _ (nth_mem j1);rw [← hx] at hb;obtain ⟨n1, n2⟩ := lastN_in (x := x);obtain ⟨nm, hnm⟩ : ∃ nm, nm = lastN x := ⟨_, rfl⟩;have hnm' : [102, u8 (97 + (lastI x : Nat))] = nm := hnm.symm;refine PX_seqcut (fun e' S' => e' 0 = .d (.sl (rowD fopD l)) ∧ e' 5 = .ptr fid 0 ∧ e' 7 = .d (.int .i64 k) ∧ e' 8 = .d (.str nm) ∧ S' = S) ?_ fun e2 S2 hE => ?_
  ·simp [g0, g7, j1, hfc];intro _;simp [lastI_eq, bytes1, g0, g5, g7];rw [← hx];exact hnm'
  rw [← hnm] at n1 n2;obtain ⟨q0, q5, q7, q8, rfl⟩ := hE;clear g0 g5 g7 hnm hnm';refine PX_seqcut (fun e' S' => e' 0 = .d (.sl (rowD fopD l)) ∧ e' 5 = .ptr fid 0 ∧ e' 7 = .d (.int .i64 k) ∧ e' 8 = .d (.str nm) ∧ e' 10 = .d (.bool (getF fl nm).isSome) ∧ IsD S' a d ∧ IsF S' fid a fl) ?_ fun e3 S3 hE => ?_
  ·simp [q5, q8];refine fs_Get hF (wl_list hs.wl) fun v3 S3 hK3 hG3 => ?_;have hI3 := hI.kept hK3;have hF3 : IsF S3 fid a fl := hF.of (hK3.1 _ hF.lt.1) (by have := hF.lt.1; have := hK3.2.1; omega)
   cases hg : getF fl nm with
   | none =>
    rw [hg] at hG3
    cases hG3
    simp [q0, q5, q7, q8];exact ⟨hI3, hF3⟩
   | some b =>
    rw [hg] at hG3;obtain ⟨v, rfl, -⟩ := hG3;simp [q0, q5, q7, q8];exact ⟨hI3, hF3⟩
  clear q0 q5 q7 q8 hI hF;obtain ⟨q0, q5, q7, q8, q10, hI, hF⟩ := hE;have hops : (⟨x.drop, nm, x.data⟩ : FOp).data.length ≤ 300 := by show x.data.length ≤ 300; omega
  refine PX_seqcut (fun e' S' => e' 0 = .d (.sl (rowD fopD l)) ∧ e' 5 = .ptr fid 0 ∧ e' 7 = .d (.int .i64 k) ∧ e' 8 = .d (.str nm) ∧ e' 10 = .d (.bool (getF fl nm).isSome) ∧ e' 11 = .d (.int .i64 (doR fl 250 [⟨x.drop, nm, x.data⟩]).1) ∧
   ∃ d' c', IsD S' a d' ∧ IsF S' fid a (doR fl 250 [⟨x.drop, nm, x.data⟩]).2.2 ∧ Sd d' (doR fl 250 [⟨x.drop, nm, x.data⟩]).2.2 c' ∧ d'.many = 250 ∧ Ok d' N) ?_ fun e4 S4 hE => ?_
  ·have la := hI.1;have lf := hF.lt.1;refine X_drawM [0, 0, 0, 6, 14, 30, 0, 0, 0, 384, 896, 1920, 3968, 8128, 16382, 32766, 65535, 131071] (by decide +kernel) (by decide +kernel) ?_
   simp [q0, q5, q7, q8, j1, hfc];rw [← hx];have q20 : Ok d (N + 320) := hok.less (by omega)
   refine sh_DoS (ops := [⟨x.drop, nm, x.data⟩]) (hI.of rfl (by simp; omega)) (hF.of rfl (by simp; omega)) hs q20 ⟨by simp, by simp; omega⟩ fun S6 d' c' hI6 hF6 hs6 o6 m6 ho6 hn6 hc6 he6 => ?_
   rw [hm] at hF6 hs6 m6 ⊢;simp at hn6 hc6;simp [hn6, hc6, q0, q5, q7, q8, q10];exact ⟨d', hI6.of rfl (by show a < S3.next + 1800; omega), hF6.of rfl (by show fid < S3.next + 1800; omega), ⟨c', hs6⟩, m6, o6⟩
  clear q0 q5 q7 q8 q10 hI hF hok;obtain ⟨q0, q5, q7, q8, q10, q11, d', c', hI, hF, hs', hm', hok'⟩ := hE;have hw250 : Wl fl 250 := by rw [← hm]; exact hs.wl
  have hp1 := fun (h : x.drop = false) => put_one (b := x.data) hw250 hfew (by decide) n1 n2 (by omega)
  have hd1 := drop_one (n := nm) (b := x.data) hw250 hfew;refine PX_seqcut (fun e' S' => e' 0 = .d (.sl (rowD fopD l)) ∧ e' 5 = .ptr fid 0 ∧ e' 7 = .d (.int .i64 k) ∧ e' 10 = .d (.bool (getF fl nm).isSome) ∧ e' 11 = .d (.int .i64 (doR fl 250 [⟨x.drop, nm, x.data⟩]).1) ∧
   e' 13 = .d (.bool (getF (doR fl 250 [⟨x.drop, nm, x.data⟩]).2.2 nm).isSome) ∧ LstR S' S4.next S'.next (e' 12) 1 (byD ((getF (doR fl 250 [⟨x.drop, nm, x.data⟩]).2.2 nm).getD [])) ∧ IsD S' a d' ∧ IsF S' fid a (doR fl 250 [⟨x.drop, nm, x.data⟩]).2.2) ?_ fun e5 S5 hE => ?_
  ·simp [q5, q8];refine fs_Get hF (wl_list hs'.wl) fun v3 S5 hK3 hG3 => ?_;have hI3 := hI.kept hK3;have hF3 := hF.of (hK3.1 _ hF.lt.1) (S' := S5) (by have := hF.lt.1; have := hK3.2.1; omega)
   cases hg : getF (doR fl 250 [⟨x.drop, nm, x.data⟩]).2.2 nm with
   | none =>
    rw [hg] at hG3
    cases hG3
    simp [q0, q5, q7, q10, q11];exact ⟨⟨Nat.le_refl _, .inl ⟨rfl, rfl⟩⟩, hI3, hF3⟩
   | some b =>
    rw [hg] at hG3;obtain ⟨v, rfl, hN⟩ := hG3;simp [q0, q5, q7, q10, q11];exact ⟨hN.r, hI3, hF3⟩
  clear q0 q5 q7 q8 q10 q11 hI hF hs;obtain ⟨q0, q5, q7, q10, q11, q13, hL, hI, hF⟩ := hE;have hlx : nth l k = x := hx.symm
  cases hdr : x.drop with
  | true =>
   rw [hdr] at q11 q13 hL hF hs';obtain ⟨t1, t2, t3⟩ := hd1;rw [t2] at q13 hL;rcases t1 with ⟨y1, y2, -⟩ | ⟨y1, y2⟩
   ·rw [y1] at q10;rw [y2] at q11;simp [q0, q7, q10, q11, q13, j1, hfc, hlx, hdr];refine hL.lenB ?_;simp [q0, q5, q7];exact ⟨k + 1, ⟨by omega, wrap_i64 (by omega) (by omega), d', c', _, hI, hF, hs', hm', t3, by rw [← hN]; exact hok'⟩, by omega⟩
   ·rw [y1] at q10;rw [y2] at q11;simp [q0, q7, q10, q11, q13, j1, hfc, hlx, hdr];refine hL.lenB ?_;simp [q0, q5, q7];exact ⟨k + 1, ⟨by omega, wrap_i64 (by omega) (by omega), d', c', _, hI, hF, hs', hm', t3, by rw [← hN]; exact hok'⟩, by omega⟩
  | false =>
   rw [hdr] at q11 q13 hL hF hs';obtain ⟨t1, t2, t3⟩ := hp1 hdr;rw [t2] at q13 hL;rw [t1] at q11;simp [q0, q7, j1, hfc, hlx, hdr];refine X_drawM [0, 1, 3, 7, 15, 31, 63, 127, 255, 127, 127, 1663, 3711, 7807, 15999, 32383, 65535, 131071] (by decide +kernel) (by decide +kernel) ?_
   simp [q11, q13];refine LstR.convL (S := startD S5.next S5.clk 8 S5) (hL.of (fun _ _ _ => rfl) (by simp)) fun r => ?_
   simp [q0, q5, q7, j1, hfc, hlx, hdr];have la := hI.1;have lf := hF.lt.1;exact ⟨k + 1, ⟨by omega, wrap_i64 (by omega) (by omega), d', c', _, hI.of rfl (by show a < S5.next + 1800; omega), hF.of rfl (by show fid < S5.next + 1800; omega), hs', hm', t3, by rw [← hN]; exact hok'⟩, by omega⟩
 ·have hkl : k = l.length := by omega
  simp [-X_seq];refine PX_seqcut (fun e' S' => LstR S' S.next S'.next (e' 14) 2 (rowD fiD (listF fl))) ?_ fun e2 S2 hE => ?_
  ·simp [g5];refine fs_List hF (wl_list hs.wl) fun v S6 hK6 hN6 => ?_;simp;exact hN6.r
  have hsrt := hs.wl.srt;have hlen := few_len hfew hsrt;simp;refine X_loop (fun (i : Nat) e' S' => e' 15 = .d (.int .i64 (i + 1 : Nat)) ∧ LstR S' S.next S2.next (e' 14) 2 (rowD fiD (listF fl))) (fun i => fl.length - i) 0 ?_ ?_
  ·simp;exact hE
  clear hE;intro i e' S' hJ;obtain ⟨u15, hE⟩ := hJ;have hE1 := hE;obtain ⟨hh, ⟨u14, hz⟩ | ⟨b, ver, fz, hb2, u14, h4⟩⟩ := hE
  ·simp [u14, u15];refine f_intro (fun j9 => ?_) (fun j9 => ?_)
   ·omega
   ·simp [u14];refine law5_known ?_;simp
  ·have e4 : (listF fl).length = fl.length := by simp [listF]
   have hl4 : fl.length ≤ 4 := hlen;have hfd : ∀ x, (fiD x).cells = [.str x.name, .sl (byD x.data)] := fun _ => rfl;simp [u14, u15];intro _;refine f_intro (fun j9 => ?_) (fun j9 => ?_)
   ·simp [j9];refine X_drawM [0, 0, 2, 7, 15, 31, 0, 0, 192, 448, 960, 2047] (by decide +kernel) (by decide +kernel) ?_
    simp [u14, u15, j9, h4];have wi : IntKind.i64.wrap (i : Int) = (i : Int) := wrap_i64 (by omega) (by omega)
    rw [wi, Int.toNat_natCast];refine ⟨⟨by omega, by omega⟩, by omega, by omega, by omega, ?_⟩
    refine f_intro (fun j8 => ?_) (fun j8 => ?_)
    ·exact absurd (srt_nth hsrt (i := i) (by omega)) j8
    ·simp [u15, j8];exact ⟨i + 1, ⟨by rw [wrap_i64 (by omega) (by omega)]; omega, hE1.of (fun _ _ _ => rfl) (by show S'.next ≤ S'.next + 1200; omega)⟩, by omega⟩
   ·simp [u14, j9];intro _;refine f_intro (fun j8 => ?_) (fun j8 => ?_)
    ·simp [j8];refine law5_known ?_;simp [j8]
    ·omega
end Go.VM
