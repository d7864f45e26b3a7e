/- Chapter 2: the reference opens, and commits. No condition. -/
import Derived.Test.YtmahmajoelmmeaaGreatJr
section
namespace Go.VM
open Go.Proofs
set_option maxRecDepth 4000
attribute [-simp] Int.not_lt Int.not_le Nat.not_lt Nat.not_le
set_option maxHeartbeats 1000000 in
theorem ref2_Open {S : St} {id n : Nat} {d : Dk} {Q : LV → St → Prop} (hI : IsR S id d) (hw : Ok d (n + 200))
  (h : ∀ S', IsR S' id d.openD.2 → Mod S S' id → Q (.d (.int .i64 d.openD.1)) S') : SQ cf 48 [.ptr id 0] S Q := by
 refine S_intro Tryz.func48 rfl rfl (Nat.le_of_ble_eq_true rfl) ?_;have hI0 := hI;obtain ⟨hid, c0, c1, c3, i1, i2, i3⟩ := hI;have hI := hI0;simp [i1]
 cases hd : d.down with
 | true =>
  rw [Dk.openD, if_pos hd] at h;simp;exact h _ hI (Mod.refl _ _)
 | false =>
  rw [Dk.openD, if_neg (by rw [hd]; decide)] at h
  simp;refine X_drawM [0, 1, 3, 7, 15, 31, 63, 15, 143, 447, 959, 2047, 4095] (by decide +kernel) (by decide +kernel) ?_
  simp;refine shR_Many (hI.of rfl (by simp; omega)) hw.wf.many fun S1 hI1 ho1 hn1 hc1 he1 => ?_
  simp at hn1 hc1 he1;have hid1 := hI1.1;simp [hn1, hc1];refine f_intro (fun j1 => ?_) (fun j1 => ?_)
  ·rw [if_pos (.inl j1)] at h;simp [j1];refine h _ (hI1.of rfl (by simp; omega)) ?_
   exact (Mod.refl S id).of (fun j hj hne => ho1 j hne) (by simp) (by simp) he1
  ·have hbig : (157 : Int) < d.lasts.length := by unfold Dk.many at j1; omega
   have hlen : ∀ i : Int, 0 ≤ i → i < 157 → (d.read i).length = 64 := fun i a b => hw.wf.read a (by omega)
   have hmany : 0 < d.many := by unfold Dk.many at j1 ⊢; omega
   simp [j1];refine shR_Read (hI1.of rfl (by simp; omega)) hw.wf fun S2 hI2 ho2 hn2 hc2 he2 => ?_
   simp at hn2 hc2 he2;simp [hn2, hc2];refine ref2_sector (b := [97, 112, 115, 116]) ?_;simp;refine ⟨by decide +kernel, ?_⟩
   have hI3 : IsR ⟨S2.obj, S.next + 1300, S.clk + 1300, S2.esc⟩ id d := hI2.of rfl (by show id < S.next + 1300; omega)
   have hM3 : Mod S ⟨S2.obj, S.next + 1300, S.clk + 1300, S2.esc⟩ id := (Mod.refl S id).of (fun j hj hne => (ho2 j hne).trans (ho1 j hne)) (by show S.next ≤ S.next + 1300; omega) (by show S.clk ≤ S.clk + 1300; omega) (he2.trans he1)
   generalize (⟨S2.obj, S.next + 1300, S.clk + 1300, S2.esc⟩ : St) = S3 at hI3 hM3;refine f_intro (fun j2 => ?_) (fun j2 => ?_)
   ·rw [if_neg (by simp [j1, j2])] at h
    simp;have hl1 := hlen 1 (by decide) (by decide)
    refine ref_ReadN hI3 hw.wf (fun hr => by rw [hr] at hl1; cases hl1) (fun _ => ?_)
    have hid3 := hI3.1;have q3 : ¬ id = S3.next := by omega
    have hl1' : 64 ≤ (d.read 1).length := by omega
    have ht1 : (d.read 1).take 64 = d.read 1 := List.take_of_length_le (by omega)
    have hI4 : IsR (S3.alloc (.arr 1 (byD (d.read 1)) true)) id d := hI3.of (by simp [q3]) (by simp; omega)
    have hM4 : Mod S (S3.alloc (.arr 1 (byD (d.read 1)) true)) id := hM3.alloc;simp [hl1];refine ref2_marked hl1 ?_;generalize (S3.alloc (.arr 1 (byD (d.read 1)) true)) = S4 at hI4 hM4;simp
    cases hm2 : (marked (d.read 1)).2 with
    | false =>
     rw [if_pos hm2] at h;have e : refMark (d.read 1) = -1 := by unfold refMark; rw [hm2]; rfl
     rw [e];have e2 : IntKind.i64.wrap 13 = 13 := wrap_i64 (by decide) (by decide)
     simp [e2];exact h _ hI4 hM4
    | true =>
     rw [if_neg (by rw [hm2]; decide)] at h
     obtain ⟨m1, m2⟩ := marked_le hm2;have e : refMark (d.read 1) = (marked (d.read 1)).1 := by unfold refMark; rw [hm2]; rfl
     obtain ⟨N, hN⟩ : ∃ N : Nat, (marked (d.read 1)).1 = N := ⟨(marked (d.read 1)).1.toNat, by omega⟩
     rw [e, hN];rw [hN] at h m2;refine f_intro (fun j3 => ?_) (fun j3 => ?_)
     ·have hN0 : N = 0 := by omega
      rw [if_pos (by omega)] at h
      subst hN0;have e2 : IntKind.i64.wrap 0 = 0 := wrap_i64 (by decide) (by decide)
      simp [e2];exact h _ hI4 hM4
     ·rw [if_neg (by omega), Int.toNat_natCast] at h
      simp;refine ref2_logged hI4 hw hmany (by omega) (fun h0 S5 v hI5 hk5 hv => ?_) (fun h0 S5 hI5 hk5 => ?_)
      ·rw [if_pos h0] at h;have hwl : Ok d (n + (logW d N N).length + 3) := hw.less (by rw [logW_length]; omega)
       have hln : (logW d N N).length ≤ 1000000 := by rw [logW_length]; omega
       have hM5 := hM4.trans (hk5.mod id);simp;refine LitSl.lend hv.lit fun S6 s1 s2 s3 => ?_;simp;refine ref2_applied (hI5.of (s3 id hI5.noarr) (by rw [s2]; exact hI5.1)) hwl hln fun S7 hI7 hM7 => ?_
       simp;exact h _ hI7 ((hM4.trans ((s1 hk5).mod id)).trans hM7)
      ·rw [if_neg (by rw [h0]; decide)] at h
       simp;exact h _ hI5 (hM4.trans (hk5.mod id))
   ·rw [if_pos (.inr j2)] at h;simp;exact h _ hI3 hM3
end Go.VM
end
section
namespace Go.VM
open Go.Proofs
set_option maxRecDepth 4000
attribute [-simp] Int.not_lt Int.not_le Nat.not_lt Nat.not_le
def mayB (d : Dk) (l : List Wr) : Bool := !(List.range l.length).any (bad d l)
theorem mem_poss {l : List Wr} {p : Int} {k : Nat} (hk : k ≤ l.length) : p ∈ poss (l.take k) ↔ ∃ j, j < k ∧ (nth l j).pos = p := by
 simp only [poss, List.mem_map];constructor
 ·rintro ⟨w, hw, rfl⟩;obtain ⟨j, hj, rfl⟩ := List.getElem_of_mem hw;have hj2 : j < k := by simp at hj; omega
  exact ⟨j, hj2, by simp [nth, show j < l.length by omega]⟩
 ·rintro ⟨j, hj, rfl⟩;refine ⟨nth l j, ?_, rfl⟩;have : j < (l.take k).length := by simp; omega
  have e : nth l j = (l.take k)[j] := by simp [nth, show j < l.length by omega]
  rw [e]; exact List.getElem_mem this
set_option maxHeartbeats 1000000 in
theorem ref2_may {S : St} {id n : Nat} {d : Dk} {l : List Wr} {Q : LV → St → Prop} (hI : IsR S id d) (hw : Ok d n) (hl : l.length ≤ 1000000)
  (h : ∀ S', IsR S' id d → Mod S S' id → Q (.d (.bool (mayB d l))) S') : SQ cf 99 [.ptr id 0, .d (.sl (rowD wrD l))] S Q := by
 refine S_intro Tryz.func99 rfl rfl (Nat.le_of_ble_eq_true rfl) ?_;simp;refine X_loop (fun (k : Nat) e S' => k ≤ l.length ∧ e 0 = .ptr id 0 ∧ e 1 = .d (.sl (rowD wrD l)) ∧ e 5 = .d (.int .i64 k) ∧ IsR S' id d ∧ Mod S S' id ∧ ∀ i, i < k → bad d l i = false) (fun k => l.length - k) 0 ?_ ?_
 ·simp;exact ⟨hI, Mod.refl S id⟩
 ·intro k e S1 hJ;obtain ⟨g1, g2, g3, g4, hI1, hM1, g5⟩ := hJ;have hid := hI1.1;simp [g3, g4];intro _;refine f_intro (fun j1 => ?_) (fun j1 => ?_)
  ·have fin1 : bad d l k = true → ∀ S9, IsR S9 id d → Mod S S9 id → Q (.d (.bool false)) S9 := fun hb S9 a b => by
    have : mayB d l = false := by
     unfold mayB;rw [List.any_eq_true.2 ⟨k, List.mem_range.2 j1, hb⟩]; rfl
    rw [this] at h;exact h _ a b
   simp [j1];refine X_drawM [0, 0, 3, 7, 15, 31, 63, 127, 127, 511, 1023, 2047, 127, 4223, 16383, 32767, 65535, 131071, 131071, 524287, 1048575, 2097151, 4194303, 8388607, 16777215] (by decide +kernel) (by decide +kernel) ?_
   have hmod0 : ∀ (nx ck : Nat), S1.next ≤ nx → S1.clk ≤ ck → Mod S ⟨S1.obj, nx, ck, S1.esc⟩ id := fun nx ck a b => hM1.of (fun j _ _ => rfl) a b rfl;have hin0 : ∀ (nx ck : Nat), S1.next ≤ nx → IsR ⟨S1.obj, nx, ck, S1.esc⟩ id d := fun nx ck a => hI1.of rfl (by show id < nx; omega)
   simp [g3, g4, j1];refine f_intro (fun k1 => ?_) (fun k1 => ?_)
   ·simp [k1];exact fin1 (by simp [bad, k1]) _ (hin0 _ _ (by omega)) (hmod0 _ _ (by omega) (by omega))
   ·simp [k1, g2, g3, g4, j1];refine shR_Many (hI1.of rfl (by simp; omega)) hw.wf.many fun S2 hI2 ho2 hn2 hc2 he2 => ?_
    simp at hn2 hc2 he2;have hmod : ∀ (nx ck : Nat), S1.next ≤ nx → S1.clk ≤ ck → Mod S ⟨S2.obj, nx, ck, S2.esc⟩ id := fun nx ck a b => hM1.of (fun j _ hne => ho2 j hne) a b he2;have hin : ∀ (nx ck : Nat), S1.next ≤ nx → IsR ⟨S2.obj, nx, ck, S2.esc⟩ id d := fun nx ck a => hI2.of rfl (by show id < nx; omega)
    simp [hn2, hc2];refine f_intro (fun k2 => ?_) (fun k2 => ?_)
    ·simp [k2];exact fin1 (by simp [bad, k1, k2]) _ (hin _ _ (by omega)) (hmod _ _ (by omega) (by omega))
    ·simp [k2, g3, g4, j1];intro _;refine f_intro (fun k3 => ?_) (fun k3 => ?_)
     ·simp [k3];have hI3 := hin (S1.next + 2500) (S1.clk + 2500) (by omega)
      have hM3 := hmod (S1.next + 2500) (S1.clk + 2500) (by omega) (by omega)
      generalize (⟨S2.obj, S1.next + 2500, S1.clk + 2500, S2.esc⟩ : St) = S3 at hI3 hM3;refine PX_mono (Q := fun x e' S' => IsR S' id d ∧ Mod S S' id ∧ ((x = .exit 2 ∧ e' 0 = .ptr id 0 ∧ e' 1 = .d (.sl (rowD wrD l)) ∧ e' 5 = .d (.int .i64 k) ∧ (nth l k).pos ∉ poss (l.take k)) ∨ (x = .ret ∧ e' 4 = .d (.bool false) ∧ (nth l k).pos ∈ poss (l.take k)))) ?_ ?_
      ·refine X_loop (fun (j : Nat) e' S' => j ≤ k ∧ e' 0 = .ptr id 0 ∧ e' 1 = .d (.sl (rowD wrD l)) ∧ e' 5 = .d (.int .i64 k) ∧ e' 6 = .d (.int .i64 j) ∧ IsR S' id d ∧ Mod S S' id ∧ ∀ i, i < j → (nth l i).pos ≠ (nth l k).pos) (fun j => k - j) 0 ?_ ?_
       ·simp [g2, g3, g4];exact ⟨hI3, hM3⟩
       ·intro j e' S' hJ2;obtain ⟨p1, p2, p3, p4, p5, p6, p7, p8⟩ := hJ2;simp [p4, p5];refine f_intro (fun j2 => ?_) (fun j2 => ?_)
        ·have j3 : j < l.length := by omega
         simp [j2];refine X_draw (by decide) ?_
         simp [p3, p4, p5, j1, j3];have hin2 : IsR ⟨S'.obj, S'.next + 1100, S'.clk + 1100, S'.esc⟩ id d := p6.of rfl (by have := p6.1; show id < S'.next + 1100; omega)
         have hmod2 : Mod S ⟨S'.obj, S'.next + 1100, S'.clk + 1100, S'.esc⟩ id := p7.of (fun j _ _ => rfl) (by show S'.next ≤ S'.next + 1100; omega) (by show S'.clk ≤ S'.clk + 1100; omega) rfl
         refine f_intro (fun j4 => ?_) (fun j4 => ?_)
         ·simp [j4];exact ⟨hin2, hmod2, (mem_poss (by omega)).2 ⟨j, j2, j4⟩⟩
         ·simp [j4, p2, p3, p4, p5];refine ⟨j + 1, ⟨by omega, wrap_i64 (by omega) (by omega), hin2, hmod2, fun i hi => ?_⟩, by omega⟩
          by_cases h : i = j
          ·rw [h]; exact j4
          ·exact p8 i (by omega)
        ·have hj : j = k := by omega
         subst hj;simp [p2, p3, p4];refine ⟨p6, p7, fun hm => ?_⟩;obtain ⟨i, hi, he⟩ := (mem_poss (by omega)).1 hm
         exact p8 i hi he
      ·rintro x e' S' ⟨q1, q2, (⟨rfl, q3, q4, q5, q6⟩ | ⟨rfl, q3, q4⟩)⟩
       ·simp [q3, q4, q5];refine ⟨k + 1, ⟨by omega, wrap_i64 (by omega) (by omega), q1, q2, fun i hi => ?_⟩, by omega⟩
        by_cases h : i = k
        ·rw [h]; simp [bad, k1, k2, q6]; omega
        ·exact g5 i (by omega)
       ·simp [q3];exact fin1 (by simp [bad, k1, k2, q4]) _ q1 q2
     ·simp [k3];exact fin1 (by simp [bad, k1, k2]; omega) _ (hin _ _ (by omega)) (hmod _ _ (by omega) (by omega))
  ·have hk : k = l.length := by omega
   subst hk;have : mayB d l = true := by
    unfold mayB;rw [Bool.not_eq_true'];refine Bool.eq_false_iff.2 fun hx => ?_;obtain ⟨i, hi, hb⟩ := List.any_eq_true.1 hx;rw [g5 i (List.mem_range.1 hi)] at hb; cases hb
   rw [this] at h;simp;exact h _ hI1 hM1
theorem NewSl.growL {S0 S : St} {v : LV} {sz b : Nat} {xs ys zs : List D} {K : LV → St → List Nat → List Nat → Prop} (hv : NewSl S0 S v sz xs) (hn : S0.next ≤ S.next) (hz : xs ++ ys = zs) (hf : fits zs.length b)
  (h : ∀ i S' r w, S'.obj i = .arr sz zs false → S0.next ≤ i → i < S'.next → (Kept S0 S → Kept S0 S') → S.next ≤ S'.next → S'.clk = S.clk → (∀ j, j < S.next → (∀ c, v ≠ .ar (.arr j) sz 0 c) → S'.obj j = S.obj j) → S'.esc = S.esc → i ≥ S.next → S'.next ≤ S.next + 1 → K (.ar (.arr i) sz 0 zs.length) S' r w) : TL (growT sz b v ys) S K := by
 have key : TQ (growT sz b v ys) S fun v' S' => S'.next ≤ S.next + 1 → K v' S' ((growT sz b v ys).log S).1 ((growT sz b v ys).log S).2 :=
  NewSl.grow hv hn hz hf fun i S' a1 a2 a3 a4 a5 a6 a7 a8 a9 a10 => h i S' _ _ a1 a2 a3 a4 a5 a6 a7 a8 a9 a10
 have bound : ∀ v' S', (growT sz b v ys).run S = .ok (v', S') → S'.next ≤ S.next + 1 := by
  intro v' S' hr;rcases hv with ⟨rfl, rfl⟩ | ⟨i0, h1, h2, rfl, h4⟩
  ·rw [grow_lit0] at hr;split at hr
   ·cases hr; simp
   ·cases hr
  ·rw [grow_ar, if_pos rfl, arrT_arr] at hr;simp only [T.run, h4, onArr_arr, Bool.false_eq_true, if_false] at hr;split at hr
   ·cases hr; simp [St.set, St.alloc]
   ·cases hr
 unfold TQ at key;unfold TL
 cases hr : (growT sz b v ys).run S with
 | ok q => rw [hr] at key; exact key (bound q.1 q.2 hr)
 | no => rw [hr] at key; exact key
 | vac => trivial
theorem NewSl.shift {S0 S S1 : St} {v : LV} {sz : Nat} {xs : List D} (h : NewSl S0 S v sz xs) (ho : S1.obj = S.obj) (hn : S.next ≤ S1.next) : NewSl S0 S1 v sz xs := by
 rcases h with h | ⟨i, h1, h2, h3, h4⟩
 ·exact .inl h
 ·exact .inr ⟨i, h1, Nat.lt_of_lt_of_le h2 hn, h3, by rw [ho]; exact h4⟩
def Apart (v u : LV) : Prop := ∀ i sz c sz' c', v = .ar (.arr i) sz 0 c → u ≠ .ar (.arr i) sz' 0 c'
theorem Apart.symm {v u : LV} (h : Apart v u) : Apart u v := fun i sz c sz' c' e1 e2 => h i sz' c' sz c e2 e1
theorem Apart.lit {u : LV} {xs : List D} : Apart (.lit xs) u := fun i sz c sz' c' e => by cases e
theorem NewSl.apart {S0 S : St} {u : LV} {sz sz' i c : Nat} {xs : List D} (h : NewSl S0 S u sz xs) (hi : S.next ≤ i) : Apart (.ar (.arr i) sz' 0 c) u := by
 intro j s1 c1 s2 c2 e1 e2
 cases e1
 rcases h with ⟨rfl, _⟩ | ⟨k, h1, h2, rfl, h4⟩
 ·cases e2
 ·cases e2; omega
theorem NewSl.other {S0 S S' : St} {u v : LV} {sz sz' : Nat} {xs : List D} (h : NewSl S0 S u sz xs) (ha : Apart v u) (hn : S.next ≤ S'.next) (hf : ∀ j, j < S.next → (∀ c, v ≠ .ar (.arr j) sz' 0 c) → S'.obj j = S.obj j) : NewSl S0 S' u sz xs := by
 rcases h with h | ⟨k, h1, h2, rfl, h4⟩
 ·exact .inl h
 ·exact .inr ⟨k, h1, Nat.lt_of_lt_of_le h2 hn, rfl, by rw [hf k h2 (fun c e => ha k _ _ _ _ e rfl)]; exact h4⟩
theorem NewSl.lend {S0 S : St} {v : LV} {sz : Nat} {xs : List D} {Q : LV → St → Prop} (hv : NewSl S0 S v sz xs)
  (h : ∀ S', (Kept S0 S → Kept S0 S') → S'.next = S.next → (∀ j, (∀ c, v ≠ .ar (.arr j) sz 0 c) → S'.obj j = S.obj j) → S'.clk = S.clk ∧ S'.esc = S.esc → Q (.d (.sl xs)) S') : TQ (lend v) S Q := by
 rcases hv with ⟨rfl, rfl⟩ | ⟨i0, h1, h2, rfl, h4⟩
 ·exact h S (fun hK => hK) rfl (fun _ _ => rfl) ⟨rfl, rfl⟩
 ·simp [h4];exact h _ (fun hK => hK.set h1) (by simp) (fun j hj => by
   have : ¬ j = i0 := fun e => hj xs.length (by rw [e])
   simp [this]) ⟨rfl, rfl⟩
theorem NewSl.away {S0 S : St} {v : LV} {sz j c : Nat} {xs : List D} (hv : NewSl S0 S v sz xs) (hj : j < S0.next) : v ≠ .ar (.arr j) sz 0 c := by
 rcases hv with ⟨rfl, _⟩ | ⟨i, h1, h2, rfl, h4⟩
 ·intro e; cases e
 ·intro e; cases e; omega
theorem NewSl.mod {S0 S S' : St} {id : Nat} {v : LV} {sz : Nat} {xs : List D} (hv : NewSl S0 S v sz xs) (hM : Mod S S' id) (hid : id < S0.next) : NewSl S0 S' v sz xs := by
 rcases hv with h | ⟨i, h1, h2, h3, h4⟩
 ·exact .inl h
 ·exact .inr ⟨i, h1, Nat.lt_of_lt_of_le h2 hM.2.1, h3, by rw [hM.1 i h2 (by omega)]; exact h4⟩
theorem posB_take {l : List Wr} {n : Nat} : posB (l.take n) = (posB l).take (2 * n) := by
 induction l generalizing n with
 | nil => simp [posB_nil]
 | cons w l ih =>
  cases n with
  | zero => simp [posB_nil]
  | succ n => rw [List.take_succ_cons, posB_cons, posB_cons, ih, show 2 * (n + 1) = 2 * n + 1 + 1 by omega]; simp [twoB]
theorem posB_drop {l : List Wr} {n : Nat} : posB (l.drop n) = (posB l).drop (2 * n) := by
 induction l generalizing n with
 | nil => simp [posB_nil]
 | cons w l ih =>
  cases n with
  | zero => simp
  | succ n => rw [List.drop_succ_cons, posB_cons, ih, show 2 * (n + 1) = 2 * n + 1 + 1 by omega]; simp [twoB]
theorem sect_places {l : List Wr} {k : Nat} : sect ((posB l).drop (64 * k)) = sect (places l k) := by
 have e : places l k = ((posB l).drop (64 * k)).take 64 := by
  unfold places;rw [posB_take, posB_drop, show 2 * (32 * k) = 64 * k by omega]
 rw [e];unfold sect;rw [List.take_take, List.length_take];congr 2;omega
theorem commit_may {d : Dk} {l : List Wr} (h : mayB d l = true) : d.wrong l = if 150 < l.length then 5 else 0 := by
 unfold mayB at h;unfold Dk.wrong;rw [if_neg (by simpa using h)]
theorem may_false {d : Dk} {l : List Wr} (h : mayB d l = false) : d.wrong l = 1 := by
 unfold mayB at h;unfold Dk.wrong;rw [if_pos (by simpa using h)]
set_option maxHeartbeats 2000000 in
theorem ref2_Commit {S : St} {id n : Nat} {d : Dk} {l : List Wr} {Q : LV → St → Prop} (hI : IsR S id d) (hw : Ok d (n + 320)) (hl : l.length ≤ 1000000)
  (h : ∀ S', IsR S' id (d.commit l).2 → Mod S S' id → Q (.d (.int .i64 (d.commit l).1)) S') : SQ cf 57 [.ptr id 0, .d (.sl (rowD wrD l))] S Q := by
 refine S_intro Tryz.func57 rfl rfl (Nat.le_of_ble_eq_true rfl) ?_;simp;refine ref2_may hI hw hl fun S1 hI1 hM1 => ?_;simp
 cases hm : mayB d l with
 | false =>
  have hwr := may_false hm;rw [Dk.commit, if_pos (.inl (by rw [hwr]; decide)), hwr] at h
  simp;exact h _ hI1 hM1
 | true =>
  have hwr := commit_may hm;simp;intro _;refine f_intro (fun j0 => ?_) (fun j0 => ?_)
  ·rw [if_pos (by omega)] at hwr
   rw [Dk.commit, if_pos (.inl (by rw [hwr]; decide)), hwr] at h
   simp [j0];exact h _ hI1 hM1
  rw [if_neg (by omega)] at hwr
  simp [j0];intro _;refine f_intro (fun j2 => ?_) (fun j2 => ?_)
  ·rw [Dk.commit, if_pos (.inr j2), hwr] at h;simp [j2];exact h _ hI1 hM1
  obtain ⟨w1, w2⟩ := wrong_ok hwr;have hlp : 0 < l.length := List.length_pos_iff.2 j2;rw [Dk.commit, if_neg (by rintro (h | h); exact h hwr; rw [h] at hlp; cases hlp)] at h
  simp [j2];refine PX_mono (Q := fun x e S' => x = .exit 1 ∧ e 0 = .ptr id 0 ∧ e 1 = .d (.sl (rowD wrD l)) ∧ Kept S1 S' ∧ NewSl S1 S' (e 5) 2 (rowD wrD (logData l l.length)) ∧ NewSl S1 S' (e 6) 2 (rowD wrD (landing l)) ∧ NewSl S1 S' (e 7) 1 (byD (posB l)) ∧ Apart (e 5) (e 6) ∧ Apart (e 5) (e 7) ∧ Apart (e 6) (e 7)) ?_ ?_
  ·refine X_loop (fun (k : Nat) e S' => k ≤ l.length ∧ e 0 = .ptr id 0 ∧ e 1 = .d (.sl (rowD wrD l)) ∧ e 8 = .d (.int .i64 k) ∧ Kept S1 S' ∧ NewSl S1 S' (e 5) 2 (rowD wrD (logData l k)) ∧ NewSl S1 S' (e 6) 2 (rowD wrD (landing (l.take k))) ∧ NewSl S1 S' (e 7) 1 (byD (posB (l.take k))) ∧ Apart (e 5) (e 6) ∧ Apart (e 5) (e 7) ∧ Apart (e 6) (e 7)) (fun k => l.length - k) 0 ?_ ?_
   ·simp;refine ⟨Kept.refl S1, .inl ⟨rfl, (by rfl)⟩, .inl ⟨rfl, (by rfl)⟩, .inl ⟨rfl, (by rw [posB_nil]; rfl)⟩, Apart.lit⟩
   ·intro k e S2 hJ;obtain ⟨g1, g2, g3, g4, hK, n5, n6, n7, a56, a57, a67⟩ := hJ;simp [g3, g4];intro _;refine f_intro (fun j1 => ?_) (fun j1 => ?_)
    ·obtain ⟨b1, b2, b3, b4⟩ := w2 k j1;have hmm := hw.wf.many;have bm : (nth l k).pos < 2000 := by unfold Dk.many at b2; omega
     simp [j1];refine X_drawM [0, 0, 0, 6, 14, 30, 62, 126, 0, 0, 768, 1792, 3840, 7936, 16128, 32766, 65535, 131071] (by decide +kernel) (by decide +kernel) ?_
     have t1 : IntKind.i64.wrap ((nth l k).pos.tdiv 256) = (nth l k).pos / 256 := by
      rw [Int.tdiv_eq_ediv_of_nonneg b1, wrap_i64 (by omega) (by omega)]
     have t2 : u8 ((nth l k).pos.tmod 256) = u8 (nth l k).pos := by rw [Int.tmod_eq_emod_of_nonneg b1, u8_mod]
     simp [g3, g4, j1, t1, t2];obtain ⟨z7, hz7⟩ : ∃ z7, z7 = byD (posB (l.take (k + 1))) := ⟨_, rfl⟩;have hst7 : byD (posB (l.take k)) ++ [D.int .u8 ((u8 ((nth l k).pos / 256)).toNat : Int), .int .u8 ((u8 (nth l k).pos).toNat : Int)] = z7 := by rw [hz7]; exact posB_next j1
     have hfit7 : fits z7.length 1 := fits1 (by rw [hz7, byD_length, posB_length, List.length_take]; omega)
     refine NewSl.growL (n7.shift rfl (by simp)) (by have := hK.2.1; simp; omega) hst7 hfit7 ?_
     intro i7 S3 r7 v7 s1 s2 s3 s4 s5 s6 s7 s8 s9 s10;simp at s5 s6 s7 s8 s9 s10;have hKs : Kept S1 (startD S2.next S2.clk 16 S2) := hK.of (fun _ _ => rfl) (by simp) (by simp) rfl
     have hK3 := s4 hKs;have m5 := n5.other (v := e 7) (sz' := 1) (S' := S3) a57.symm (by omega) (fun j hj hc => s7 j (by omega) hc)
     have m6 := n6.other (v := e 7) (sz' := 1) (S' := S3) a67.symm (by omega) (fun j hj hc => s7 j (by omega) hc)
     have m7 : NewSl S1 S3 (.ar (.arr i7) 1 0 z7.length) 1 z7 := .inr ⟨i7, s2, s3, rfl, s1⟩;have b75 : Apart (.ar (.arr i7) 1 0 z7.length) (e 5) := n5.apart (by omega)
     have b76 : Apart (.ar (.arr i7) 1 0 z7.length) (e 6) := n6.apart (by omega)
     simp;refine ⟨⟨by omega, by omega⟩, ?_⟩
     have hK4 : Kept S1 ⟨S3.obj, S2.next + 1800, S2.clk + 1800, S3.esc⟩ := hK3.of (fun _ _ => rfl) (by show S3.next ≤ S2.next + 1800; omega) (by show S3.clk ≤ S2.clk + 1800; omega) rfl
     have o5 := m5.shift (S1 := ⟨S3.obj, S2.next + 1800, S2.clk + 1800, S3.esc⟩) rfl (by show S3.next ≤ S2.next + 1800; omega)
     have o6 := m6.shift (S1 := ⟨S3.obj, S2.next + 1800, S2.clk + 1800, S3.esc⟩) rfl (by show S3.next ≤ S2.next + 1800; omega)
     have o7 := m7.shift (S1 := ⟨S3.obj, S2.next + 1800, S2.clk + 1800, S3.esc⟩) rfl (by show S3.next ≤ S2.next + 1800; omega)
     generalize (⟨S3.obj, S2.next + 1800, S2.clk + 1800, S3.esc⟩ : St) = S4 at hK4 o5 o6 o7;generalize LV.ar (.arr i7) 1 0 z7.length = u7 at o7 b75 b76;clear s1 s2 s3 s4 s5 s6 s7 s8 s9 s10 hKs hK3 m5 m6 m7 n5 n6 n7;refine X_drawM [0, 0, 2, 6, 14, 0, 62, 0, 0, 384, 896, 1920, 4094, 8190, 16383, 32767] (by decide +kernel) (by decide +kernel) ?_
     simp [g3];intro _;refine ref2_index (by omega) ?_
     have hls : lists l.length ≤ 5 := by unfold lists; omega
     have e5 : IntKind.i64.wrap (IntKind.i64.wrap (2 + (lists l.length : Int)) + (k : Int)) = 2 + (lists l.length : Int) + (k : Int) := by
      rw [wrap_i64 (n := 2 + (lists l.length : Int)) (by omega) (by omega), wrap_i64 (by omega) (by omega)]
     simp [g3, g4, j1, e5];obtain ⟨z5, hz5⟩ : ∃ z5, z5 = rowD wrD (logData l (k + 1)) := ⟨_, rfl⟩;have hst5 : rowD wrD (logData l k) ++ [D.agg [.int .i64 (2 + (lists l.length : Int) + (k : Int)), .sl (byD (nth l k).data)]] = z5 := by
      rw [hz5, logData_succ]; simp [rowD]; rfl
     have hfit5 : fits z5.length 32 := by rw [hz5, rowD_length, logData_length]; unfold fits; omega
     refine NewSl.growL (o5.shift rfl (by simp)) (by have := hK4.2.1; simp; omega) hst5 hfit5 ?_
     intro i5 S5 r5 v5 s1 s2 s3 s4 s5 s6 s7 s8 s9 s10;simp at s5 s6 s7 s8 s9 s10;have hKs : Kept S1 (startD S4.next S4.clk 14 S4) := hK4.of (fun _ _ => rfl) (by simp) (by simp) rfl
     have hK5 := s4 hKs;have m6 := o6.other (v := e 5) (sz' := 2) (S' := S5) a56 (by omega) (fun j hj hc => s7 j (by omega) hc)
     have m7 := o7.other (v := e 5) (sz' := 2) (S' := S5) b75.symm (by omega) (fun j hj hc => s7 j (by omega) hc)
     have m5 : NewSl S1 S5 (.ar (.arr i5) 2 0 z5.length) 2 z5 := .inr ⟨i5, s2, s3, rfl, s1⟩;have b56 : Apart (.ar (.arr i5) 2 0 z5.length) (e 6) := o6.apart (by omega)
     have b57 : Apart (.ar (.arr i5) 2 0 z5.length) u7 := o7.apart (by omega)
     simp;refine ⟨⟨by omega, by omega⟩, ?_⟩
     have hK6 : Kept S1 ⟨S5.obj, S4.next + 1600, S4.clk + 1600, S5.esc⟩ := hK5.of (fun _ _ => rfl) (by show S5.next ≤ S4.next + 1600; omega) (by show S5.clk ≤ S4.clk + 1600; omega) rfl
     have q5 := m5.shift (S1 := ⟨S5.obj, S4.next + 1600, S4.clk + 1600, S5.esc⟩) rfl (by show S5.next ≤ S4.next + 1600; omega)
     have q6 := m6.shift (S1 := ⟨S5.obj, S4.next + 1600, S4.clk + 1600, S5.esc⟩) rfl (by show S5.next ≤ S4.next + 1600; omega)
     have q7 := m7.shift (S1 := ⟨S5.obj, S4.next + 1600, S4.clk + 1600, S5.esc⟩) rfl (by show S5.next ≤ S4.next + 1600; omega)
     generalize (⟨S5.obj, S4.next + 1600, S4.clk + 1600, S5.esc⟩ : St) = S6 at hK6 q5 q6 q7;generalize LV.ar (.arr i5) 2 0 z5.length = u5 at q5 b56 b57;clear s1 s2 s3 s4 s5 s6 s7 s8 s9 s10 hKs hK5 m5 m6 m7 o5 o6 o7 hK4;refine X_drawM [0, 0, 0, 6, 14, 30, 62, 0, 0, 384, 896, 1920, 4094, 8190, 16383, 32767] (by decide +kernel) (by decide +kernel) ?_
     have e6 : IntKind.i64.wrap (157 + (nth l k).pos) = 157 + (nth l k).pos := wrap_i64 (by omega) (by omega)
     simp [g3, g4, j1, e6];obtain ⟨z6, hz6⟩ : ∃ z6, z6 = rowD wrD (landing (l.take (k + 1))) := ⟨_, rfl⟩;have hst6 : rowD wrD (landing (l.take k)) ++ [D.agg [.int .i64 (157 + (nth l k).pos), .sl (byD (nth l k).data)]] = z6 := by
      rw [hz6, landing_next j1]; simp [rowD]; rfl
     have hfit6 : fits z6.length 32 := by rw [hz6, rowD_length]; unfold fits; simp [landing]; omega
     refine NewSl.growL (q6.shift rfl (by simp)) (by have := hK6.2.1; simp; omega) hst6 hfit6 ?_
     intro i6 S7 r6 v6 s1 s2 s3 s4 s5 s6 s7 s8 s9 s10;simp at s5 s6 s7 s8 s9 s10;have hKs : Kept S1 (startD S6.next S6.clk 14 S6) := hK6.of (fun _ _ => rfl) (by simp) (by simp) rfl
     have hK7 := s4 hKs;have m5 := q5.other (v := e 6) (sz' := 2) (S' := S7) b56.symm (by omega) (fun j hj hc => s7 j (by omega) hc)
     have m7 := q7.other (v := e 6) (sz' := 2) (S' := S7) b76.symm (by omega) (fun j hj hc => s7 j (by omega) hc)
     have m6 : NewSl S1 S7 (.ar (.arr i6) 2 0 z6.length) 2 z6 := .inr ⟨i6, s2, s3, rfl, s1⟩;have b65 : Apart (.ar (.arr i6) 2 0 z6.length) u5 := q5.apart (by omega)
     have b67 : Apart (.ar (.arr i6) 2 0 z6.length) u7 := q7.apart (by omega)
     simp [g2, g3, g4];refine ⟨⟨by omega, by omega⟩, k + 1, ⟨by omega, wrap_i64 (by omega) (by omega), hK7.of (fun _ _ => rfl) (by show S7.next ≤ S6.next + 1600; omega) (by show S7.clk ≤ S6.clk + 1600; omega) rfl, ?_, ?_, ?_, b65.symm, b57, b67⟩, by omega⟩
     ·rw [← hz5]; exact m5.shift rfl (by show S7.next ≤ S6.next + 1600; omega)
     ·rw [← hz6]; exact m6.shift rfl (by show S7.next ≤ S6.next + 1600; omega)
     ·rw [← hz7]; exact m7.shift rfl (by show S7.next ≤ S6.next + 1600; omega)
    ·have hk : k = l.length := by omega
     subst hk;rw [List.take_length] at n6 n7;simp;exact ⟨g2, g3, hK, n5, n6, n7, a56, a57, a67⟩
  ·rintro x e S2 ⟨rfl, g2, g3, hK, n5, n6, n7, a56, a57, a67⟩;obtain ⟨i7, q1, q2, e7, q3⟩ : ∃ i7, S1.next ≤ i7 ∧ i7 < S2.next ∧ e 7 = .ar (.arr i7) 1 0 (byD (posB l)).length ∧ S2.obj i7 = .arr 1 (byD (posB l)) false := by
    rcases n7 with ⟨_, n7⟩ | n7
    ·have := congrArg List.length n7;rw [byD_length, posB_length] at this; simp at this; omega
    ·exact n7
   have l7 : (byD (posB l)).length = 2 * l.length := by rw [byD_length, posB_length]
   rw [e7] at a57 a67;simp;refine PX_mono (Q := fun x e' S' => x = .exit 3 ∧ e' 0 = .ptr id 0 ∧ e' 1 = .d (.sl (rowD wrD l)) ∧ Kept S1 S' ∧ NewSl S1 S' (e' 5) 2 (rowD wrD (logOf l)) ∧ NewSl S1 S' (e' 6) 2 (rowD wrD (landing l)) ∧ Apart (e' 5) (e' 6)) ?_ ?_
   ·refine X_loop (fun (m : Nat) e' S' => m ≤ lists l.length ∧ e' 0 = .ptr id 0 ∧ e' 1 = .d (.sl (rowD wrD l)) ∧ e' 7 = .ar (.arr i7) 1 0 (2 * l.length) ∧ e' 9 = .d (.int .i64 m) ∧ Kept S1 S' ∧ i7 < S'.next ∧ (∃ fz, S'.obj i7 = .arr 1 (byD (posB l)) fz) ∧ NewSl S1 S' (e' 5) 2 (rowD wrD (logData l l.length ++ logIdx l m)) ∧ NewSl S1 S' (e' 6) 2 (rowD wrD (landing l)) ∧ Apart (e' 5) (e' 6) ∧ Apart (e' 5) (.ar (.arr i7) 1 0 0) ∧ Apart (e' 6) (.ar (.arr i7) 1 0 0)) (fun m => lists l.length - m) 0 ?_ ?_
    ·simp [g2, g3, e7, l7];have f57 : Apart (e 5) (.ar (.arr i7) 1 0 0) := fun i sz c sz' c' h1 h2 => a57 i sz c 1 _ h1 (by cases h2; rfl)
     have f67 : Apart (e 6) (.ar (.arr i7) 1 0 0) := fun i sz c sz' c' h1 h2 => a67 i sz c 1 _ h1 (by cases h2; rfl)
     exact ⟨hK, q2, .inl q3, by simpa [logIdx] using n5, n6, a56, f57, f67⟩
    ·intro m e' S3 hJ;obtain ⟨p1, p2, p3, p4, p5, p6, p7, ⟨fz, p8⟩, p9, p10, p11, p12, p13⟩ := hJ;simp [p3, p5];intro _;refine ref2_index (by omega) ?_
     simp;refine f_intro (fun j3 => ?_) (fun j3 => ?_)
     ·have hls : m < 5 := by unfold lists at j3; omega
      have hml : 32 * m < l.length := by unfold lists at j3; omega
      have w1 : IntKind.i64.wrap (64 * (m : Int)) = 64 * (m : Int) := wrap_i64 (by omega) (by omega)
      have w2 : (64 * (m : Int)).toNat = 64 * m := by omega
      have w3 : 64 * m + (2 * l.length - 64 * m) = 2 * l.length := by omega
      have w4 : IntKind.i64.wrap (2 + (m : Int)) = 2 + (m : Int) := wrap_i64 (by omega) (by omega)
      have ht : List.take (2 * l.length - 64 * m) (List.drop (64 * m) (posB l)) = (posB l).drop (64 * m) := List.take_of_length_le (by rw [List.length_drop, posB_length]; omega)
      obtain ⟨zs, hzs⟩ : ∃ zs, zs = rowD wrD (logData l l.length ++ logIdx l (m + 1)) := ⟨_, rfl⟩;have hst : rowD wrD (logData l l.length ++ logIdx l m) ++ [D.agg [.int .i64 (2 + (m : Int)), .sl (byD (sect (places l m)))]] = zs := by
       rw [hzs, logIdx_succ]; simp [rowD]; rfl
      have hfit : fits zs.length 32 := by
       rw [hzs, rowD_length, List.length_append, logData_length, logIdx_length]; unfold fits; omega
      have keepS : ∀ {u : LV} {sz : Nat} {xs : List D}, NewSl S1 S3 u sz xs → Apart u (.ar (.arr i7) 1 0 0) → NewSl S1 (S3.set i7 (.arr 1 (byD (posB l)) true)) u sz xs := by
       intro u sz xs hu ha;rcases hu with hu | ⟨k, h1, h2, rfl, h4⟩
       ·exact .inl hu
       ·have : ¬ k = i7 := fun e => ha k _ _ 1 0 rfl (by rw [e])
        exact .inr ⟨k, h1, by simpa using h2, rfl, by simp [this, h4]⟩
      have p9s := keepS p9 p12;have p10s := keepS p10 p13
      cases fz with
      | true =>
       simp [j3, p4, p5, p8];simp [w1, w2, w3];refine ⟨⟨by omega, by omega⟩, by rw [posB_length]; omega, ?_⟩
       rw [ht];refine ref2_sector (b := (posB l).drop (64 * m)) ?_;rw [sect_places];simp [w4];refine NewSl.grow (S0 := S1) (p9) (p6.2.1) hst hfit ?_;intro i S5 s1 s2 s3 s4 s5 s6 s7 s8 s9;simp at s5 s7 s9;have hK5 := s4 (p6);have o7 : S5.obj i7 = .arr 1 (byD (posB l)) true := by
        rw [s7 i7 (by omega) (fun c e => p12 i7 _ _ _ _ e rfl)]; exact p8
       have m6 := NewSl.other (v := e' 5) (sz' := 2) (S' := S5) (p10) p11 (by first | omega | (simp; omega)) (fun j hj hc => s7 j (by simpa using hj) hc)
       have b6 : Apart (.ar (.arr i) 2 0 zs.length) (e' 6) := (p10).apart (by first | omega | (simp; omega))
       have b7 : Apart (.ar (.arr i) 2 0 zs.length) (.ar (.arr i7) 1 0 0) := fun j sz c sz' c' h1 h2 => by cases h1; cases h2; omega
       simp [p2, p3, p4, p5];refine ⟨m + 1, ⟨by omega, wrap_i64 (by omega) (by omega), hK5, by omega, .inr o7, ?_, m6, b6, b7, p13⟩, by omega⟩
       rw [← hzs];exact .inr ⟨i, s2, s3, rfl, s1⟩
      | false =>
       simp [j3, p4, p5, p8];simp [w1, w2, w3];refine ⟨⟨by omega, by omega⟩, by rw [posB_length]; omega, ?_⟩
       rw [ht];refine ref2_sector (b := (posB l).drop (64 * m)) ?_;rw [sect_places];simp [w4];refine NewSl.grow (S0 := S1) (p9s) ((p6.set (i := i7) (o := .arr 1 (byD (posB l)) true) q1).2.1) hst hfit ?_;intro i S5 s1 s2 s3 s4 s5 s6 s7 s8 s9;simp at s5 s7 s9;have hK5 := s4 (p6.set q1);have o7 : S5.obj i7 = .arr 1 (byD (posB l)) true := by
        rw [s7 i7 (by omega) (fun c e => p12 i7 _ _ _ _ e rfl)]; simp
       have m6 := NewSl.other (v := e' 5) (sz' := 2) (S' := S5) (p10s) p11 (by first | omega | (simp; omega)) (fun j hj hc => s7 j (by simpa using hj) hc)
       have b6 : Apart (.ar (.arr i) 2 0 zs.length) (e' 6) := (p10s).apart (by first | omega | (simp; omega))
       have b7 : Apart (.ar (.arr i) 2 0 zs.length) (.ar (.arr i7) 1 0 0) := fun j sz c sz' c' h1 h2 => by cases h1; cases h2; omega
       simp [p2, p3, p4, p5];refine ⟨m + 1, ⟨by omega, wrap_i64 (by omega) (by omega), hK5, by omega, .inr o7, ?_, m6, b6, b7, p13⟩, by omega⟩
       rw [← hzs];exact .inr ⟨i, s2, s3, rfl, s1⟩
     ·have hk : m = lists l.length := by omega
      subst hk;simp [p2, p3];exact ⟨p6, p9, p10, p11⟩
   ·rintro x e' S3 ⟨rfl, p2, p3, p6, p9, p10, p11⟩;have hI3 := hI1.kept p6;have hM3 := hM1.trans (p6.mod id);have hll : (logOf l).length ≤ 155 := by rw [logOf_length]; unfold lists; omega
    have hw1 : Ok d ((n + 157) + (logOf l).length + 1) := hw.less (by omega)
    simp [p2];have hid1 := hI1.1;refine NewSl.lend p9 fun S4 s1 s2 s3 s4 => ?_;have n6 : NewSl S1 S4 (e' 6) 2 (rowD wrD (landing l)) := NewSl.other (v := e' 5) (sz' := 2) p10 p11 (by omega) (fun j _ hc => s3 j hc)
    simp;refine ref2_write (hI3.of (s3 id fun c => p9.away hid1) (by rw [s2]; exact hI3.1)) hw1 (by omega) fun S5 hI5 hM5 => ?_
    have hM6 : Mod S S5 id := (hM1.trans ((s1 p6).mod id)).trans hM5;have n7 := n6.mod hM5 hid1;have hw2 := hw1.writes;simp;refine f_intro (fun c1 => ?_) (fun c1 => ?_)
    ·rw [if_neg (fun h => h c1)] at h;simp [c1, p3];intro _;refine ref2_mark (by omega) ?_
     have hw3 : Ok (d.writes (logOf l)).2 ((n + 155) + [(⟨1, markB l.length⟩ : Wr)].length + 1) := hw2;simp;have hmk : (markB l.length).take 64 = markB l.length := sect_take;simp [p2];refine ref2_write (l := [⟨1, markB l.length⟩]) hI5 hw3 (by simp) fun S6 hI6 hM7 => ?_
     have hw4 := hw3.writes;have n8 := n7.mod hM7 hid1;simp;refine f_intro (fun c2 => ?_) (fun c2 => ?_)
     ·rw [if_neg (fun h => h c2)] at h;simp [c2, p2];refine NewSl.lend n8 fun S7 t1 t2 t3 t4 => ?_;have hln : (landing l).length ≤ 1000000 := by simp [landing]; omega
      have hwl : Ok ((d.writes (logOf l)).2.writes [⟨1, markB l.length⟩]).2 (n + (landing l).length + 3) := hw4.less (by simp [landing]; omega)
      simp;refine ref2_applied (hI6.of (t3 id fun c => n8.away hid1) (by rw [t2]; exact hI6.1)) hwl hln fun S8 hI8 hM8 => ?_
      simp;have hge := hM1.2.1;refine h _ hI8 (Mod.trans ?_ hM8);exact (hM6.trans hM7).of (fun j hj _ => t3 j fun c => n8.away (by omega)) (by rw [t2]; exact Nat.le_refl _) (by rw [t4.1]; exact Nat.le_refl _) t4.2
     ·rw [if_pos c2] at h;simp [c2];exact h _ hI6 (hM6.trans hM7)
    ·rw [if_pos c1] at h;simp [c1];exact h _ hI5 hM6
end Go.VM
end
section
namespace Go.VM
open Go.Proofs
set_option maxRecDepth 4000
attribute [-simp] Int.not_lt Int.not_le Nat.not_lt Nat.not_le
end Go.VM
end
