/- Chapter 5: the document's files of a disk. No condition. -/
import Derived.Test.YtmahmajoelmmeaaGreatGf
namespace Go.VM
open Go.Proofs
set_option maxRecDepth 4000
attribute [-simp] Int.not_lt Int.not_le Nat.not_lt Nat.not_le
theorem ref5_Format {S : St} {id n : Nat} {d : Dk} {Q : LV → St → Prop} (hI : IsR S id d) (hw : Ok d (n + 3000))
  (h : ∀ S', IsR S' id (if d.many < 41 then d else d.format.2) → Mod S S' id → Q (.d (.int .i64 (if d.many < 41 then 5 else d.format.1))) S') : SQ cf 32 [.ptr id 0] S Q := by
 refine S_intro Tryz.func32 rfl rfl (Nat.le_of_ble_eq_true rfl) ?_;simp;refine ref2_Many hI hw.wf.many ?_;simp;refine f_intro (fun j1 => ?_) (fun j1 => ?_)
 ·rw [if_pos (by omega), if_pos (by omega)] at h
  simp;exact h _ hI (Mod.refl _ _)
 ·rw [if_neg (by omega), if_neg (by omega)] at h
  simp;refine ref2_Format hI hw fun S' h1 h2 => ?_;simp;exact h S' h1 h2
theorem NewSl.src {S S' : St} {v : LV} {sz : Nat} {xs : List D} {f : List D → T LV} {K : LV → St → Prop} (hv : NewSl S S' v sz xs) (hs : sized sz xs) (h : TQ (f xs) S' K) : TQ (srcT sz v f) S' K := by
 rcases hv with ⟨rfl, rfl⟩ | ⟨i, h1, h2, rfl, h4⟩
 ·simpa using h
 ·simpa [h4] using ⟨hs, h⟩
theorem BySl.closeN {S S' : St} {v : LV} {b : List UInt8} (h : BySl S S' v b) : TQ (closeV v) S' fun v' S2 => v' = .d (.sl (byD b)) ∧ (∀ j, j < S.next → S2.obj j = S'.obj j) ∧ S2.next = S'.next := by
 rcases h with ⟨rfl, rfl⟩ | ⟨i, n, h1, h2, rfl, xs, h4, h5, rfl⟩
 ·exact ⟨rfl, fun _ _ => rfl, rfl⟩
 ·simp only [closeV];rw [TQ_bind, toD_ar, arrT_arr, TQ_get, h4, onArr_arr];simp [h5];intro j hj;omega
theorem ref5_data {S : St} {id n : Nat} {d : Dk} {x : Nd} {Q : LV → St → Prop} (hI : IsR S id d) (hw : Ok d n) (hl : x.places.length ≤ 1000000) (hz : 0 ≤ x.size ∧ x.size ≤ (held d x.places).length) (hm : ∀ k, (held d (x.places.take k)).length ≤ 1000000)
  (h : ∀ v S', IsR S' id d → Kept S S' → BySl S S' v ((held d x.places).take x.size.toNat) → Q v S') : SQ cf 54 [.ptr id 0, .d (ndD x)] S Q := by
 refine S_intro Tryz.func54 rfl rfl (Nat.le_of_ble_eq_true rfl) ?_;have hid := hI.1;simp [ndD];refine X_loop (fun (k : Nat) e S' => k ≤ x.places.length ∧ e 0 = .ptr id 0 ∧ e 3 = .ptr S.next 0 ∧ e 6 = .d (.int .i64 k) ∧ IsR S' id d ∧ Kept S S' ∧ S.next < S'.next ∧ S'.obj S.next = .cells [.d (.str x.name), .d (.int .i64 x.size), .d (.sl (inD x.places))] ∧ NewSl (S.alloc .dead) S' (e 5) 1 (byD (held d (x.places.take k)))) (fun k => x.places.length - k) 0 ?_ ?_
 ·simp;exact ⟨hI.of (by simp [show ¬ id = S.next by omega]) (by simp; omega), (Kept.refl S).alloc, .inl ⟨rfl, rfl⟩⟩
 ·intro k e S' hk;obtain ⟨g1, g2, g4, g6, g0, g7, g8, g9, g10⟩ := hk;simp [g4, g6, g9];intro _;refine f_intro (fun j1 => ?_) (fun j1 => ?_)
  ·have hk : k < x.places.length := by omega
   simp [g2, g4, g6, hk, g9];refine ref2_Read g0 hw fun S2 v k0 k2 k3 => ?_;have k4 := g7.trans k2;have k5 := g10.kept k2;have hobj : S2.obj S.next = .cells [.d (.str x.name), .d (.int .i64 x.size), .d (.sl (inD x.places))] := (k2.1 _ g8).trans g9;have hnx := g7.2.1;have hnx2 := k2.2.1;simp;refine k3.src (by simp) ?_
   refine k5.grow (show S.next + 1 ≤ S2.next by omega) (zs := byD (held d (x.places.take (k + 1)))) (by rw [held_succ hk]; simp [byD]) (by rw [byD_length]; exact fits1 (hm (k + 1))) fun i S3 m1 m2 m3 m4 m5 m6 m7 m8 m9 => ?_
   refine hold2 ?_;simp [g2, g4, g6];have hne5 : ∀ c, e 5 ≠ .ar (.arr S.next) 1 0 c := by
    intro c hc;rcases g10 with ⟨h0, _⟩ | ⟨i', q1, q2, q3, q4⟩
    ·rw [h0] at hc; cases hc
    ·rw [q3] at hc
     cases hc
     have : S.next + 1 ≤ S.next := q1;omega
   have hK3 : ∀ j, j < S.next → S3.obj j = S2.obj j := fun j hj => m7 j (by omega) fun c hc => by
    rcases g10 with ⟨h0, _⟩ | ⟨i', q1, q2, q3, q4⟩
    ·rw [h0] at hc; cases hc
    ·rw [q3] at hc
     cases hc
     have : S.next + 1 ≤ j := q1;omega
   have m2' : S.next + 1 ≤ i := m2;have hck := k4.2.2.1;refine ⟨k + 1, ⟨by omega, wrap_i64 (by omega) (by omega), k0.of (hK3 id hid) (by omega), ⟨fun j hj => (hK3 j hj).trans (k4.1 j hj), by omega, by omega, by rw [m8]; exact k4.2.2.2⟩, by omega, ?_, .inr ⟨i, m2, m3, by simp, m1⟩⟩, by omega⟩
   rw [m7 S.next (by omega) hne5]
   exact hobj
  ·have : k = x.places.length := by omega
   subst this;rw [List.take_length] at g10;simp [g4, g9];rcases g10 with ⟨g10, g11⟩ | ⟨i, q1, q2, g10, q4⟩
   ·have h0 : held d x.places = [] := by simpa [byD] using g11
    have hx0 : x.size = 0 := by rw [h0] at hz; simp at hz; omega
    simp [g10, hx0];exact h _ _ g0 g7 (.inl ⟨rfl, by rw [h0]; simp⟩)
   ·simp [g10];have q1' : S.next + 1 ≤ i := q1;exact ⟨hz, h _ _ g0 g7 (.inr ⟨i, _, by omega, q2, rfl, _, q4, by omega, rfl⟩)⟩
theorem NewSl.toDK {S S' : St} {v : LV} {sz : Nat} {xs : List D} (hv : NewSl S S' v sz xs) : TQ (Go.VM.toD v) S' fun x S2 => x = .sl xs ∧ (∀ j, (∀ c, v ≠ .ar (.arr j) sz 0 c) → S2.obj j = S'.obj j) ∧ S2.next = S'.next ∧ S2.clk = S'.clk ∧ S2.esc = S'.esc ∧ (v = .lit [] ∨ ∃ i, v = .ar (.arr i) sz 0 xs.length ∧ S2.obj i = .arr sz xs true) := by
 rcases hv with ⟨rfl, rfl⟩ | ⟨b, h1, h2, rfl, h4⟩
 ·exact ⟨rfl, fun _ _ => rfl, rfl, rfl, rfl, .inl rfl⟩
 ·simp [h4];exact ⟨fun j hj h0 => absurd h0.symm hj, rfl⟩
def HasSl (S : St) (id b : Nat) (v : LV) (sz : Nat) (xs : List D) : Prop := (v = .lit [] ∧ xs = []) ∨ ∃ i fz, (i < b ∧ i ≠ id) ∧ v = .ar (.arr i) sz 0 xs.length ∧ S.obj i = .arr sz xs fz
theorem HasSl.of {S S' : St} {id b : Nat} {v : LV} {sz : Nat} {xs : List D} (h : HasSl S id b v sz xs) (ho : ∀ j, j < b → j ≠ id → S'.obj j = S.obj j) : HasSl S' id b v sz xs := by
 rcases h with h | ⟨i, fz, h1, h2, h3⟩
 ·exact .inl h
 ·exact .inr ⟨i, fz, h1, h2, (ho i h1.1 h1.2).trans h3⟩
theorem NewSl.has {S S' : St} {id b : Nat} {v : LV} {sz : Nat} {xs : List D} (h : NewSl S S' v sz xs) (hb : S'.next ≤ b) (hi : id < S.next) : HasSl S' id b v sz xs := by
 rcases h with h | ⟨i, h1, h2, h3, h4⟩
 ·exact .inl h
 ·exact .inr ⟨i, false, ⟨by omega, by omega⟩, h3, h4⟩
def filesG (d : Dk) : Int × List Fl :=
 if d.many < 41 then (13, []) else match scanTo d 40 with
  | none => (13, [])
  | some l => if roomIs (nodesOf l) d.many then (0, (l.map (fillF d)).foldl insF []) else (13, [])
def mountG (d : Dk) : Int × Dk × List Fl := if d.openD.1 ≠ 0 then (d.openD.1, d.openD.2, []) else ((filesG d.openD.2).1, d.openD.2, (filesG d.openD.2).2)
def slotsOf (l : List Fl) : List Int := l.map (·.slot)
theorem foldl_ins_length {l r : List Fl} : (l.foldl insF r).length = r.length + l.length := by
 induction l generalizing r with
 | nil => simp
 | cons x l ih => rw [List.foldl_cons, ih, insF_length, List.length_cons]; omega
set_option maxHeartbeats 4000000 in
theorem ref5_Mount {S : St} {id n : Nat} {d : Dk} {Q : LV → St → Prop} (hI : IsR S id d) (hw : Ok d (n + 200))
  (h0 : (mountG d).1 ≠ 0 → ∀ S', IsR S' id (mountG d).2.1 → Mod S S' id → Q (.tup [.d .nilP, .d (.int .i64 (mountG d).1)]) S')
  (h : (mountG d).1 = 0 → ∀ S' gid, S.next ≤ gid → IsR S' id (mountG d).2.1 → IsG S' gid id (mountG d).2.2 → Mod S S' id → Q (.tup [.ptr gid 0, .d (.int .i64 0)]) S') : SQ cf 20 [.ptr id 0] S Q := by
 refine S_intro Tryz.func20 rfl rfl (Nat.le_of_ble_eq_true rfl) ?_;have hidd := hI.1;simp;refine ref2_Open hI hw fun S1 hI1 hM1 => ?_;have hw1 := hw.openD;simp;refine f_intro (fun j1 => ?_) (fun j1 => ?_)
 ·simp;generalize hd1 : d.openD.2 = d1 at *;have hmd : mountG d = ((filesG d1).1, d1, (filesG d1).2) := by unfold mountG; rw [if_neg (by simpa using j1), hd1]
  rw [hmd] at h h0;refine ref2_Many hI1 hw1.wf.many ?_;simp;refine f_intro (fun j2 => ?_) (fun j2 => ?_)
  ·have hf : filesG d1 = (13, []) := by unfold filesG; rw [if_pos (by omega)]
   rw [hf] at h0;simp;exact h0 (by simp) _ hI1 hM1
  ·have hid1 := hI1.1;have hfil : filesG d1 = match scanTo d1 40 with
     | none => (13, [])
     | some l => if roomIs (nodesOf l) d1.many then (0, (l.map (fillF d1)).foldl insF []) else (13, []) := by unfold filesG; rw [if_neg (by omega)]
   simp;have hnx1 := hM1.2.1;refine X_loop (fun (k : Nat) e S' => k ≤ 40 ∧ e 0 = .ptr id 0 ∧ e 5 = .d (.int .i64 d1.many) ∧ e 8 = .d (.int .i64 k) ∧ (∃ l, scanTo d1 k = some l ∧ NewSl S1 S' (e 6) 3 (rowD ndD (nodesOf l)) ∧ NewSl S1 S' (e 7) 1 (inD (slotsOf l)) ∧ Apart (e 6) (e 7) ∧ l.length ≤ k ∧ ∀ x ∈ l, x.size ≤ 65535 ∧ x.put = false) ∧ IsR S' id d1 ∧ Kept S1 S') (fun k => 40 - k) 0 ?_ ?_
   ·simp;exact ⟨⟨[], rfl, .inl ⟨rfl, rfl⟩, .inl ⟨rfl, rfl⟩, Apart.lit, by simp, by simp⟩, hI1, Kept.refl S1⟩
   ·intro k e S' hk;obtain ⟨i1, i2, i3, i4, ⟨l, i5, i6, i7, i77, i8, i9⟩, i10, i11⟩ := hk;simp [i4];refine f_intro (fun j3 => ?_) (fun j3 => ?_)
    ·have hk : k < 40 := by omega
     simp [i2, i4];refine ref2_Read i10 hw1 fun S2 v k0 k2 k3 => ?_;have hsc : scanTo d1 (k + 1) = if (nodeRead (d1.jread k)).2.2 = false then none else if (nodeRead (d1.jread k)).2.1 then some l else some (l ++ [⟨k, (nodeRead (d1.jread k)).1.name, (nodeRead (d1.jread k)).1.size, (nodeRead (d1.jread k)).1.places, [], false⟩]) := by rw [scanTo, i5]; rfl
     have hsz := nodeRead_size (b := d1.jread k);have hnr : ∀ (Q : LV → Prop), Q (readD (nodeRead (d1.jread k))) → VQ cf 50 [.sl (byD (d1.jread k))] Q := fun Q hQ => ref3_Read hQ;generalize hr : nodeRead (d1.jread k) = r at *;obtain ⟨nd, free, ok⟩ := r;have hnx := k2.2.1;have hck := k2.2.2.1;simp;refine TQ_mono k3.toDK fun x S3 hx => ?_;obtain ⟨rfl, q1, q2, q3, q4, _⟩ := hx;have hI3 : IsR S3 id d1 := k0.of (q1 id fun c => k3.away i10.1) (by have := k0.1; omega)
     have hK3 : Kept S' S3 := k2.of (fun j hj => q1 j fun c => k3.away hj) (by omega) (by omega) q4
     have i63 := i6.kept hK3;have i73 := i7.kept hK3;have i113 := i11.trans hK3;clear q1 q2 q3 q4 k3 k2 k0 hnx hck;refine hold2 ?_;simp;refine hnr _ ?_;simp [readD, ndD];refine f_intro (fun j4 => ?_) (fun j4 => ?_)
     ·have hsn : scanTo d1 (k + 1) = none := by rw [hsc, if_pos j4]
      have hf : filesG d1 = (13, []) := by rw [hfil, scan_none hsn 40 (by omega)]
      rw [hf] at h0;simp;have hM3 : Mod S S3 id := hM1.trans (i113.mod id);exact h0 (by simp) _ (hI3.of (by simp [show ¬ id = S3.next by have := hI3.1; omega]) (by have := hI3.1; simp; omega)) hM3.alloc
     ·simp;have hok : ok = true := by simpa using j4
      have hI3a : IsR (S3.alloc (.cells [LV.d (D.str nd.name), LV.d (D.int IntKind.i64 nd.size), LV.d (D.sl (inD nd.places))])) id d1 := hI3.of (by simp [show ¬ id = S3.next by have := hI3.1; omega]) (by have := hI3.1; simp; omega)
      have hK3a : Kept S1 (S3.alloc (.cells [LV.d (D.str nd.name), LV.d (D.int IntKind.i64 nd.size), LV.d (D.sl (inD nd.places))])) := i113.alloc;have i63a := i63.alloc (o := .cells [LV.d (D.str nd.name), LV.d (D.int IntKind.i64 nd.size), LV.d (D.sl (inD nd.places))]);have i73a := i73.alloc (o := .cells [LV.d (D.str nd.name), LV.d (D.int IntKind.i64 nd.size), LV.d (D.sl (inD nd.places))]);obtain ⟨S4, hS4⟩ : ∃ S4, S4 = S3.alloc (.cells [LV.d (D.str nd.name), LV.d (D.int IntKind.i64 nd.size), LV.d (D.sl (inD nd.places))]) := ⟨_, rfl⟩;rw [← hS4] at hI3a hK3a i63a i73a ⊢;have h4o : S4.obj S3.next = .cells [LV.d (D.str nd.name), LV.d (D.int IntKind.i64 nd.size), LV.d (D.sl (inD nd.places))] := by rw [hS4]; simp
      refine f_intro (fun j5 => ?_) (fun j5 => ?_)
      ·simp only [hok, j5] at hsc;simp at hsc;simp [h4o];have hzn : rowD ndD (nodesOf l) ++ [D.agg [D.str nd.name, D.int IntKind.i64 nd.size, D.sl (inD nd.places)]] = rowD ndD (nodesOf (l ++ [⟨k, nd.name, nd.size, nd.places, [], false⟩])) := by simp [nodesOf, rowD, Fl.nd, ndD]
       have hzs : inD (slotsOf l) ++ [D.int IntKind.i64 (k : Int)] = inD (slotsOf (l ++ [⟨k, nd.name, nd.size, nd.places, [], false⟩])) := by simp [slotsOf, inD]
       refine i63a.grow (b := 48) hK3a.2.1 hzn (by rw [rowD_length]; unfold fits; simp [nodesOf]; omega) fun a S5 a1 a2 a3 a4 a5 a6 a7 a8 a9 => ?_
       refine hold2 ?_;simp [i4];have i74 := i73a.other (v := e 6) (sz' := 3) (S' := S5) i77 (by omega) (fun j hj hc => a7 j hj hc)
       refine i74.grow (b := 8) (by have := hK3a.2.1; omega) hzs (by unfold fits; simp [slotsOf, inD]; omega) fun b S6 b1 b2 b3 b4 b5 b6 b7 b8 b9 => ?_
       refine hold2 ?_;simp [i2, i3, i4];refine ⟨k + 1, ⟨by omega, wrap_i64 (by omega) (by omega), ⟨_, hsc, ?_, .inr ⟨b, b2, b3, by simp [inD], b1⟩, ?_, by simp; omega, fun y hy => ?_⟩, hI3a.of ?_ ?_, b4 (a4 hK3a)⟩, by omega⟩
       ·have hne7 : ∀ c, e 7 ≠ .ar (.arr a) 1 0 c := fun c hc => by
         rcases i73a with ⟨z1, _⟩ | ⟨q, z1, z2, z3, z4⟩
         ·rw [z1] at hc; cases hc
         ·rw [z3] at hc; cases hc; omega
        exact .inr ⟨a, a2, by omega, by rw [rowD_length], (b7 a a3 hne7).trans a1⟩
       ·intro q sz c sz' c' z1 z2
        cases z1
        cases z2
        omega
       ·rcases List.mem_append.1 hy with hy | hy
        ·exact i9 y hy
        ·rw [List.mem_singleton.1 hy]; exact ⟨hsz, rfl⟩
       ·exact (b7 id (by have := hI3a.1; omega) fun c => i74.away hid1).trans (a7 id hI3a.1 fun c => i63a.away hid1)
       ·have := hI3a.1; omega
      ·simp only [hok, j5] at hsc;simp at hsc;simp [i2, i3, i4];exact ⟨k + 1, ⟨by omega, wrap_i64 (by omega) (by omega), ⟨l, hsc, i63a, i73a, i77, by omega, i9⟩, hI3a, hK3a⟩, by omega⟩
    ·have : k = 40 := by omega
     subst this;simp [i3];refine TQ_mono i6.toDK fun x S3 hx => ?_;obtain ⟨rfl, q1, q2, q3, q4, q5⟩ := hx;refine hold2 ?_;simp;refine ref4_Is (nodes_size fun x hx => by have := (i9 x hx).1; omega) ?_
     have hI3 : IsR S3 id d1 := i10.of (q1 id fun c => i6.away hid1) (by have := i10.1; omega)
     have hM3 : Mod S S3 id := hM1.trans ((i11.of (fun j hj => q1 j fun c => i6.away hj) (by omega) (by omega) q4).mod id)
     have h63 : HasSl S3 id S3.next (e 6) 3 (rowD ndD (nodesOf l)) := by
      rcases q5 with q5 | ⟨i, q5, q6⟩
      ·rcases i6 with i6 | ⟨i, z1, z2, z3, z4⟩
       ·exact .inl i6
       ·rw [q5] at z3; cases z3
      ·rcases i6 with ⟨z1, _⟩ | ⟨i', z1, z2, z3, z4⟩
       ·rw [z1] at q5; cases q5
       ·rw [q5] at z3
        cases z3
        exact .inr ⟨i, true, ⟨by omega, by omega⟩, q5, q6⟩
     have h73 : HasSl S3 id S3.next (e 7) 1 (inD (slotsOf l)) := by
      have := i7.has (id := id) (b := S'.next) (Nat.le_refl _) hid1;rw [q2];rcases this with h9 | ⟨i, fz, z1, z2, z3⟩
      ·exact .inl h9
      ·exact .inr ⟨i, fz, z1, z2, (q1 i fun c => fun hc => i77 i 3 c 1 (inD (slotsOf l)).length hc z2).trans z3⟩
     simp;refine f_intro (fun j6 => ?_) (fun j6 => ?_)
     ·have hf : filesG d1 = (13, []) := by rw [hfil, i5]; exact if_neg (by rw [j6]; decide)
      rw [hf] at h0;simp;exact h0 (by simp) _ hI3 hM3
     ·have j6 : roomIs (nodesOf l) d1.many = true := by simpa using j6
      have hf : filesG d1 = (0, (l.map (fillF d1)).foldl insF []) := by rw [hfil, i5]; exact if_pos j6
      rw [hf] at h;clear q1 q2 q3 q4 q5 i6 i7 i77 i10 i11 h0 hnx1;simp [i2, show id ≤ S3.next by have := hI3.1; omega]
      obtain ⟨gid, hgid⟩ : ∃ gid, S3.next = gid := ⟨_, rfl⟩;have hid3 := hI3.1;rw [hgid] at h63 h73 hid3;have hS : S.next ≤ gid := by have := hM3.2.1; omega
      have ndn : ∀ i, i < l.length → nth (nodesOf l) i = (nth l i).nd := fun i hi => by simp [nodesOf, nth, hi]
      have sln : ∀ i, i < l.length → nth (slotsOf l) i = (nth l i).slot := fun i hi => by simp [slotsOf, nth, hi]
      refine X_loop (fun (i : Nat) e S' => i ≤ l.length ∧ e 0 = .ptr id 0 ∧ e 12 = .ptr gid 0 ∧ e 13 = .d (.int .i64 i) ∧ (∃ c, S'.obj gid = .cells [.ptr id 0, c] ∧ SlC 5 c (rowD rfD (((l.map (fillF d1)).take i).foldl insF []))) ∧ IsR S' id d1 ∧ Mod S S' id ∧ gid < S'.next ∧ HasSl S' id gid (e 6) 3 (rowD ndD (nodesOf l)) ∧ HasSl S' id gid (e 7) 1 (inD (slotsOf l))) (fun i => l.length - i) 0 ?_ ?_
      ·simp [hgid, i2];refine ⟨.inl ⟨rfl, rfl⟩, hI3.of (by simp [hgid, show ¬ id = gid by omega]) (by simp; omega), hM3.alloc, h63.of fun j hj _ => by simp [hgid, show ¬ j = gid by omega], h73.of fun j hj _ => by simp [hgid, show ¬ j = gid by omega]⟩
      ·clear h63 h73 hI3 hM3 hgid i2 i3 i4;intro i e S' hJ;obtain ⟨g1, g2, g3, g4, ⟨c, g5, g6⟩, hI4, hM4, g7, g8, g9⟩ := hJ;have hlen : ∀ (Q : LV → St → Prop), Q (.d (.int .i64 l.length)) S' → TQ (lenT Tryz.prog 100 (e 6)) S' Q := by
        intro Q hQ;rcases g8 with ⟨r1, r2⟩ | ⟨q, fz, r1, r2, r3⟩
        ·have hz : l.length = 0 := by have := congrArg List.length r2; rw [rowD_length] at this; simpa [nodesOf] using this
         rw [hz] at hQ;rw [r1];simpa using hQ
        ·rw [r2];simp;have hz : (nodesOf l).length = l.length := by simp [nodesOf]
         rw [hz];exact fun _ => hQ
       simp [g4];refine hlen _ ?_;refine hold2 ?_;simp;refine f_intro (fun j7 => ?_) (fun j7 => ?_)
       ·have hi : i < l.length := by omega
        obtain ⟨a6, f6, u1, u2, u3⟩ : ∃ a f, (a < gid ∧ a ≠ id) ∧ e 6 = .ar (.arr a) 3 0 l.length ∧ S'.obj a = .arr 3 (rowD ndD (nodesOf l)) f := by
         rcases g8 with ⟨r1, r2⟩ | ⟨q, fz, r1, r2, r3⟩
         ·have := congrArg List.length r2;rw [rowD_length] at this;have hz : (nodesOf l).length = l.length := by simp [nodesOf]
          have h00 : ([] : List D).length = 0 := rfl;omega
         ·exact ⟨q, fz, r1, by rw [r2, rowD_length]; simp [nodesOf], r3⟩
        obtain ⟨a7, f7, v1, v2, v3⟩ : ∃ a f, (a < gid ∧ a ≠ id) ∧ e 7 = .ar (.arr a) 1 0 l.length ∧ S'.obj a = .arr 1 (inD (slotsOf l)) f := by
         have hz : (inD (slotsOf l)).length = l.length := by simp [inD, slotsOf]
         rcases g9 with ⟨r1, r2⟩ | ⟨q, fz, r1, r2, r3⟩
         ·have := congrArg List.length r2;have h00 : ([] : List D).length = 0 := rfl;omega
         ·exact ⟨q, fz, r1, by rw [r2, hz], r3⟩
        simp;refine X_drawM [0, 0, 2, 6, 14, 0, 0, 96, 224, 480, 0, 0, 0, 6144, 14336, 31744, 0, 0, 196608, 458752, 0, 0, 3145728, 7340032, 15728640, 33554400, 67108862, 134217727, 268435455, 536870911] (by decide +kernel) (by decide +kernel) ?_
        have hi2 : i < (nodesOf l).length := by simp [nodesOf]; exact hi
        have hi3 : i < (slotsOf l).length := by simp [slotsOf]; exact hi
        simp [g2, g3, g4, g5, u2, u3, hi, hi2, ndn];obtain ⟨w1, w2, w3, w4⟩ := nd_held hw1 j6 (nth_mem hi);refine ShD_R (d' := d1) (x := .sl (byD ((held d1 (nth l i).places).take (nth l i).size.toNat))) (hI4.of rfl ?_) rfl (by simp) (fun S0 q0 => ref5_data (x := (nth l i).nd) q0 hw1 ?_ ⟨w1.1, w2⟩ ?_ fun v9 S9 q1 q2 q3 => ?_) fun S5 k1 k2 k3 k4 k5 => ?_
        ·have := hI4.1; simp [startD]; omega
        ·show (nth l i).places.length ≤ 1000000; omega
        ·intro k;show (held d1 (List.take k (nth l i).places)).length ≤ 1000000;rw [held_len hw1 fun p hp' => w3 p (List.mem_of_mem_take hp'), List.length_take];omega
        ·refine TQ_mono q3.closeN fun v' S2 h2 => ?_;obtain ⟨rfl, h3⟩ := h2;exact ⟨rfl, q1.of (h3.1 id q0.1) (by rw [h3.2]; exact q1.1)⟩
        ·simp at k2 k3 k4 k5;have hgi : gid ≠ id := by omega
         have h5g : S5.obj gid = .cells [.ptr id 0, c] := (k2 gid hgi).trans g5;have h56 : S5.obj a6 = .arr 3 (rowD ndD (nodesOf l)) f6 := (k2 a6 u1.2).trans u3;have h57 : S5.obj a7 = .arr 1 (inD (slotsOf l)) f7 := (k2 a7 v1.2).trans v3;have hfd : D.agg [D.str (nth l i).nd.name, D.sl (byD (List.take (nth l i).size.toNat (held d1 (nth l i).places))), D.bool false, D.int IntKind.i64 (nth l i).slot, D.sl (inD (nth l i).nd.places)] = rfD (fillF d1 (nth l i)) := by
          have := (i9 _ (nth_mem hi)).2;simp [rfD, fillF, this, Fl.nd]
         have hfn : ((l.map (fillF d1)).take (i + 1)).foldl insF [] = insF (((l.map (fillF d1)).take i).foldl insF []) (fillF d1 (nth l i)) := by
          have hi9 : i < (l.map (fillF d1)).length := by simp; exact hi
          rw [takeN hi9, List.foldl_append];simp [nth, hi]
         have hgn : ¬ gid = S'.next + 2600 := by omega
         rcases g6 with ⟨rfl, g6⟩ | ⟨ver, rfl⟩
         ·have hz : ((l.map (fillF d1)).take i).foldl insF [] = [] := List.eq_nil_of_length_eq_zero (by rw [← rowD_length (enc := rfD), g6]; rfl)
          simp [g4, u2, h56, v2, h57, hi, hi2, hi3, ndn, sln, k3, k4];rw [hfd];refine ref5_insert (l := []) (f := fillF d1 (nth l i)) (by simp) (hold3 ?_)
          simp [g2, g3, g4, h5g, u2, v2, hgn];rw [u2] at g8;rw [v2] at g9;have hob : ∀ j, j < gid → j ≠ id → ¬ j = S'.next + 2600 ∧ ¬ j = gid := fun j hj _ => ⟨by omega, by omega⟩
          have hid9 : ¬ id = S'.next + 2600 ∧ ¬ id = gid := ⟨by omega, by omega⟩
          have ha9 : ¬ a6 = S'.next + 2600 ∧ ¬ a6 = gid := ⟨by omega, by omega⟩
          have hb9 : ¬ a7 = S'.next + 2600 ∧ ¬ a7 = gid := ⟨by omega, by omega⟩
          refine ⟨?_, i + 1, ⟨by omega, wrap_i64 (by omega) (by omega), .inr ⟨_, by rw [hfn, hz]⟩, k1.of (by simp [startD, hid9.1, hid9.2]) (by have := hI4.1; simp; omega), hM4.of (fun j hj hji => ?_) (by simp) (by simp) k5, by omega, g8.of (fun j hj hji => ?_), g9.of (fun j hj hji => ?_)⟩, by omega⟩
          ·(repeat' apply And.intro) <;> first | decide | exact .inr ha9 | exact .inr hb9 | exact .inr hid9 | exact .inr ha9.1 | exact .inr hb9.1 | exact .inr hid9.1 | exact .inr ha9.symm | exact .inr hb9.symm | exact .inr hid9.symm | exact .inr u1.2 | exact .inr (Ne.symm u1.2) | exact .inr (Ne.symm v1.2) | exact .inr hgi | exact .inl (by decide)
          ·simp [startD, show ¬ j = S'.next + 2600 by omega, show ¬ j = gid by omega, k2 j hji]
          ·simp [startD, show ¬ j = S'.next + 2600 by omega, show ¬ j = gid by omega, k2 j hji]
          ·simp [startD, show ¬ j = S'.next + 2600 by omega, show ¬ j = gid by omega, k2 j hji]
         ·simp [g4, h5g, u2, h56, v2, h57, hi, hi2, hi3, ndn, sln, k3, k4];rw [hfd];refine ref5_insert (f := fillF d1 (nth l i)) ?_ (hold3 ?_)
          ·rw [foldl_ins_length, List.length_take]; simp; omega
          simp [g2, g3, g4, u2, v2, hgn];rw [u2] at g8;rw [v2] at g9;have hob : ∀ j, j < gid → j ≠ id → ¬ j = S'.next + 2600 ∧ ¬ j = gid := fun j hj _ => ⟨by omega, by omega⟩
          have hid9 : ¬ id = S'.next + 2600 ∧ ¬ id = gid := ⟨by omega, by omega⟩
          have ha9 : ¬ a6 = S'.next + 2600 ∧ ¬ a6 = gid := ⟨by omega, by omega⟩
          have hb9 : ¬ a7 = S'.next + 2600 ∧ ¬ a7 = gid := ⟨by omega, by omega⟩
          refine ⟨?_, i + 1, ⟨by omega, wrap_i64 (by omega) (by omega), .inr ⟨_, by rw [hfn]⟩, k1.of (by simp [startD, hid9.1, hid9.2]) (by have := hI4.1; simp; omega), hM4.of (fun j hj hji => ?_) (by simp) (by simp) k5, by omega, g8.of (fun j hj hji => ?_), g9.of (fun j hj hji => ?_)⟩, by omega⟩
          ·(repeat' apply And.intro) <;> first | decide | exact .inr ha9 | exact .inr hb9 | exact .inr hid9 | exact .inr ha9.1 | exact .inr hb9.1 | exact .inr hid9.1 | exact .inr ha9.symm | exact .inr hb9.symm | exact .inr hid9.symm | exact .inr u1.2 | exact .inr (Ne.symm u1.2) | exact .inr (Ne.symm v1.2) | exact .inr hgi | exact .inl (by decide)
          ·simp [startD, show ¬ j = S'.next + 2600 by omega, show ¬ j = gid by omega, k2 j hji]
          ·simp [startD, show ¬ j = S'.next + 2600 by omega, show ¬ j = gid by omega, k2 j hji]
          ·simp [startD, show ¬ j = S'.next + 2600 by omega, show ¬ j = gid by omega, k2 j hji]
       ·have : i = l.length := by omega
        subst this;rw [List.take_of_length_le (by simp)] at g6
        simp [g3];exact h rfl S' gid hS hI4 ⟨⟨g7, by omega⟩, c, g5, g6⟩ hM4
 ·have hmd : mountG d = (d.openD.1, d.openD.2, []) := by unfold mountG; rw [if_pos (by simpa using j1)]
  rw [hmd] at h0;simp;exact h0 j1 _ hI1 hM1
end Go.VM
