/- Law FsRefused. No condition. -/
import Derived.Test.YtmahmajoelmmeaaGreatPa
namespace Go.VM
open Go.Proofs
set_option maxRecDepth 4000
attribute [-simp] Int.not_lt Int.not_le Nat.not_lt Nat.not_le
structure Bun (S : St) (a fid mid lo hi : Nat) (v : LV) (d : Dk) (fl : List Fl) : Prop where
 disk : IsD S a d
 f : IsF S fid a fl
 m : IsF S mid a fl
 row : LstR S lo hi v 2 (rowD fiD (listF fl))
 ne : a < lo ∧ fid < lo ∧ (mid < lo ∨ hi ≤ mid)
theorem Bun.of {S S' : St} {a fid mid lo hi : Nat} {v : LV} {d : Dk} {fl : List Fl} (h : Bun S a fid mid lo hi v d fl) (ho : ∀ j, j < S.next → (j < lo ∨ hi ≤ j) → S'.obj j = S.obj j) (hn : S.next ≤ S'.next) (hr : LstR S' lo hi v 2 (rowD fiD (listF fl))) : Bun S' a fid mid lo hi v d fl := by
 obtain ⟨h1, h2, h3, h4, h5, h6, h7⟩ := h;have k1 := h1.1;have k2 := h2.lt.1;have k3 := h3.lt.1;exact ⟨h1.of (ho a k1 (by omega)) (by omega), h2.of (ho fid k2 (by omega)) (by omega), h3.of (ho mid k3 h7) (by omega), hr, h5, h6, h7⟩
theorem Bun.kept {S S' : St} {a fid mid lo hi : Nat} {v : LV} {d : Dk} {fl : List Fl} (h : Bun S a fid mid lo hi v d fl) (hk : Kept S S') : Bun S' a fid mid lo hi v d fl :=
 h.of (fun j hj _ => hk.1 j hj) hk.2.1 (h.row.of (fun j _ hj => hk.1 j (by have := h.row.1; omega)) hk.2.1)
theorem Bun.mod {S S' : St} {a fid mid lo hi : Nat} {v : LV} {d : Dk} {fl : List Fl} (h : Bun S a fid mid lo hi v d fl) (hM : Mod S S' a) (hI : IsD S' a d) : Bun S' a fid mid lo hi v d fl := by
 obtain ⟨h1, h2, h3, h4, h5, h6, h7⟩ := h;have k2 := h2.lt.1;have k3 := h3.lt.1;have k4 := hM.2.1;exact ⟨hI, h2.of (hM.1 _ k2 (Ne.symm h2.lt.2)) (by omega), h3.of (hM.1 _ k3 (Ne.symm h3.lt.2)) (by omega), h4.of (fun j g1 g2 => hM.1 j (by have := h4.1; omega) (by omega)) k4, h5, h6, h7⟩
theorem Bun.pass {S : St} {a fid mid lo hi lo' hi' : Nat} {v v' : LV} {d : Dk} {fl : List Fl} {xs : List D} {K : D → St → Prop} (h : Bun S a fid mid lo hi v d fl) (hL : LstR S lo' hi' v' 2 xs) (hn : a < lo' ∧ fid < lo' ∧ mid < lo' ∧ hi ≤ lo')
  (hK : ∀ S', Bun S' a fid mid lo hi v d fl → S.next = S'.next → K (.sl xs) S') : TQ (toD v') S K := by
 refine TQ_mono hL.toD fun x S9 hx => ?_;obtain ⟨rfl, x1, x2, -, -, -⟩ := hx;obtain ⟨h1, h2, h3, h4, h5, h6, h7⟩ := h;have k1 := h1.1;have k2 := h2.lt.1;have k3 := h3.lt.1;exact hK S9 ⟨h1.of (x1 a (by omega)) (by omega), h2.of (x1 fid (by omega)) (by omega), h3.of (x1 mid (by omega)) (by omega), h4.of (fun j _ _ => x1 j (by omega)) (by omega), h5, h6, h7⟩ x2.symm
theorem Bun.own {S : St} {a fid mid lo hi : Nat} {v : LV} {d : Dk} {fl : List Fl} {K : D → St → Prop} (h : Bun S a fid mid lo hi v d fl) (hK : ∀ S', Bun S' a fid mid lo hi v d fl → S.next = S'.next → K (.sl (rowD fiD (listF fl))) S') : TQ (toD v) S K := by
 refine TQ_mono h.row.toD fun x S9 hx => ?_;obtain ⟨rfl, x1, x2, -, -, x5⟩ := hx;exact hK S9 (h.of (fun j _ hj => x1 j hj) (by omega) x5) x2.symm
theorem Bun.list {S : St} {a fid mid lo hi x : Nat} {v : LV} {d : Dk} {fl : List Fl} {many : Int} {Q : LV → St → Prop} (h : Bun S a fid mid lo hi v d fl) (hw : Wl fl many) (hx : x = fid ∨ x = mid)
  (hQ : ∀ v' lo' hi' S', Bun S' a fid mid lo hi v d fl → LstR S' lo' hi' v' 2 (rowD fiD (listF fl)) → a < lo' ∧ fid < lo' ∧ mid < lo' ∧ hi ≤ lo' → Q v' S') : SQ cf 13 [.ptr x 0] S Q := by
 have hF : IsF S x a fl := by rcases hx with rfl | rfl; exact h.f; exact h.m
 exact fs_List hF (wl_list hw) fun v' S' hK hN => hQ v' _ _ S' (h.kept hK) hN.r ⟨h.disk.1, h.f.lt.1, h.m.lt.1, h.row.1⟩
set_option maxHeartbeats 4000000 in
theorem law_FsRefused {first next : List FOp} {places : Int} (h1 : (∀ o ∈ first, okOp o) ∧ first.length * 48 ≤ lim) (h2 : (∀ o ∈ next, okOp o) ∧ next.length * 48 ≤ lim) (_ : (Lit.int .i64 places).wf = true) :
  VQ cf 3 [.sl (rowD fopD first), .sl (rowD fopD next), .int .i64 places] fun v => v = .d (.bool true) := by
 refine V_intro rfl (S_intro Tryz.func3 rfl rfl (Nat.le_of_ble_eq_true rfl) ?_);simp;refine law5_heavy (l := first) (okOp_len h1.1) ?_
 cases hv1 : heavyB first
 case true => simp; done
 simp;refine law5_heavy (l := next) (okOp_len h2.1) ?_
 cases hv2 : heavyB next
 case true => simp; done
 simp;refine f_intro (fun k1 => ?_) (fun k1 => ?_)
 ·simp [k1]
 simp [k1];refine f_intro (fun k2 => ?_) (fun k2 => ?_)
 ·simp [k2]
 obtain ⟨p, rfl⟩ : ∃ p : Nat, places = p := ⟨places.toNat, by omega⟩
 simp [k2];refine law5_disk (p := p) (by omega) fun S1 a c ha hc hne hI hR hK => ?_
 obtain ⟨s1, s2, s3⟩ := fmt_sr (p := p) (by omega)
 have o1 : Ok (fmtD p) 10000 := fmt_ok (by omega) (by decide)
 have hmt := mount_sr s1 s2.down;simp;refine fs_Mount hI (n := 9800) o1 (fun he => absurd (by rw [hmt]) he) fun _ S2 fid hf hI2 hF2 hM2 => ?_
 rw [hmt] at hI2 hF2;replace hI2 : IsD S2 a (fmtD p) := hI2;replace hF2 : IsF S2 fid a [] := hF2;clear hI hR hK hmt;obtain ⟨v1, v2⟩ := heavy_no hv1;obtain ⟨v3, v4⟩ := heavy_no hv2;simp;refine fs_DoW (n := 9000) hI2 hF2 s1.wl (o1.less (by omega)) ⟨by omega, fun o ho => by have := v2 o ho; omega⟩ fun S3 hI3 hF3 ho3 hn3 hc3 he3 => ?_
 obtain ⟨-, -, a3, a4, -, c1, a5⟩ := do_sr (ops := first) s1 s2;have o3 : Ok (doD (fmtD p) [] first).2.1 9000 := doD_ok (o1.less (by omega))
 generalize doD (fmtD p) [] first = r at hI3 hF3 a3 a4 a5 o3;obtain ⟨er, d1, fl1⟩ := r;simp only at hI3 hF3 a3 a4 a5 o3;have hlt3 := hF3.lt;have hla3 := hI3.1;simp;refine fs_List hF3 (wl_list a5.wl) fun v S4 hK4 hN4 => ?_;have hL := hN4.r;have hI4 := hI3.kept hK4;have hF4 : IsF S4 fid a fl1 := hF3.of (hK4.1 _ hlt3.1) (by have := hK4.2.1; omega)
 have hn4 := hK4.2.1;simp;refine fs_Left hI4 hF4 (wl_size a5.wl) o3 fun S5 hI5 hF5 hM5 => ?_;have hL5 : LstR S5 S3.next S4.next v 2 (rowD fiD (listF fl1)) := hL.of (fun j g1 g2 => hM5.1 j g2 (by omega)) hM5.2.1
 have hn5 := hM5.2.1;simp;refine fs_DoW (n := 8600) hI5 hF5 a5.wl (o3.less (by omega)) ⟨by omega, fun o ho => by have := v4 o ho; omega⟩ fun S6 hI6 hF6 ho6 hn6 hc6 he6 => ?_
 obtain ⟨b1, b2, -, -, b5, -⟩ := do_sr (ops := next) a5 a4;have hb9 := doR_err (fl := fl1) (many := d1.many) (ops := next);simp;refine f_intro (fun j1 => ?_) (fun j1 => ?_)
 ·simp [j1];refine law5_known ?_;simp
 rw [b1] at j1;rw [b5 j1] at hI6;rw [b2, hb9 j1] at hF6;rw [b1];have hL6 : LstR S6 S3.next S4.next v 2 (rowD fiD (listF fl1)) := hL5.of (fun j g1 g2 => ho6 j (by omega) (by omega) (by omega)) hn6
 simp [j1];have hmt := mount_sr a5 a4.down;refine fs_Mount hI6 (n := 8800) o3 (fun he => absurd (by rw [hmt]) he) fun _ S7 mid hmid hI7 hF7 hM7 => ?_
 rw [hmt] at hI7 hF7;replace hI7 : IsD S7 a d1 := hI7;replace hF7 : IsF S7 mid a fl1 := hF7;have hn7 := hM7.2.1;have hlt6 := hF6.lt;have hL7 : LstR S7 S3.next S4.next v 2 (rowD fiD (listF fl1)) := hL6.of (fun j g1 g2 => hM7.1 j (by omega) (by omega)) hn7
 have hF7' : IsF S7 fid a fl1 := hF6.of (hM7.1 _ hlt6.1 (Ne.symm hlt6.2)) (by omega)
 have hB7 : Bun S7 a fid mid S3.next S4.next v d1 fl1 := ⟨hI7, hF7', hF7, hL7, by omega, by omega, .inr (by omega)⟩
 clear hI7 hF7 hF7' hL7 hL6 hL5 hL hI6 hF6 hI5 hF5 hI4 hF4 hI3 hF3 hN4 ho6 ho3;simp;refine hB7.list a5.wl (.inl rfl) fun v8 lo8 hi8 S8 hB8 hL8 hn8 => ?_;simp;refine hB8.pass hL8 hn8 fun S9 hB9 e9 => ?_;simp;refine hB9.own fun S10 hB10 e10 => ?_;simp;refine ref5_Same (by have := wl_list a5.wl; simp [listF]; omega) ?_
 simp;refine fs_Left hB10.disk hB10.f (wl_size a5.wl) o3 fun S11 hI11 _ hM11 => ?_;have hB11 := hB10.mod hM11 hI11;simp;refine hB11.list a5.wl (.inr rfl) fun v12 lo12 hi12 S12 hB12 hL12 hn12 => ?_;simp;refine hB12.pass hL12 hn12 fun S13 hB13 e13 => ?_;simp;refine hB13.own fun S14 hB14 e14 => ?_;simp;refine ref5_Same (by have := wl_list a5.wl; simp [listF]; omega) ?_
 simp;refine fs_Left hB14.disk hB14.m (wl_size a5.wl) o3 fun S15 hI15 _ hM15 => ?_;simp;refine law5_known ?_;simp
end Go.VM
