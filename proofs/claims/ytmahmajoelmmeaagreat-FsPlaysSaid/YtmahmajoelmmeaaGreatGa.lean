/- Chapter 5: the document's files: looking for one, one more. No condition. -/
import Derived.Test.YtmahmajoelmmeaaGreatFc
section
namespace Go.VM
open Go.Proofs
set_option maxRecDepth 4000
attribute [-simp] Int.not_lt Int.not_le Nat.not_lt Nat.not_le
def rfD (x : Fl) : D := .agg [.str x.name, .sl (byD x.data), .bool x.put, .int .i64 x.slot, .sl (inD x.places)]
theorem rfD_cells (x : Fl) : (rfD x).cells = [.str x.name, .sl (byD x.data), .bool x.put, .int .i64 x.slot, .sl (inD x.places)] := rfl
theorem rfD_sized {l : List Fl} : sized 5 (rowD rfD l) ↔ True := iff_true_intro (rowD_sized fun _ => rfl)
attribute [simp] rfD_cells rfD_sized
structure IsG (S : St) (gid id : Nat) (fl : List Fl) : Prop where
 lt : gid < S.next ∧ id ≠ gid
 cell : ∃ c, S.obj gid = .cells [.ptr id 0, c] ∧ SlC 5 c (rowD rfD fl)
theorem IsG.of {S S' : St} {gid id : Nat} {fl : List Fl} (h : IsG S gid id fl) (ho : S'.obj gid = S.obj gid) (hn : gid < S'.next) : IsG S' gid id fl := by
 obtain ⟨⟨_, h1⟩, c, h2, h3⟩ := h;exact ⟨⟨hn, h1⟩, c, ho.trans h2, h3⟩
def findF (l : List Fl) (n : List UInt8) : Int := match l.findIdx? fun x => decide (x.name = n) with
 | some i => i
 | none => -1
theorem find_none {l : List Fl} {n : List UInt8} (h : ∀ k, k < l.length → (nth l k).name ≠ n) : findF l n = -1 := by
 have : (l.findIdx? fun x => decide (x.name = n)) = none := by
  rw [List.findIdx?_eq_none_iff];intro x hx;obtain ⟨i, hi, rfl⟩ := List.getElem_of_mem hx;have := h i hi;simpa [nth, hi] using this
 unfold findF;rw [this]
theorem find_some {l : List Fl} {n : List UInt8} {k : Nat} (hk : k < l.length) (h : ∀ j, j < k → (nth l j).name ≠ n) (he : (nth l k).name = n) : findF l n = k := by
 have : (l.findIdx? fun x => decide (x.name = n)) = some k := by
  rw [List.findIdx?_eq_some_iff_getElem];refine ⟨hk, by simpa [nth, hk] using he, fun j hj => ?_⟩
  have := h j hj;simpa [nth, show j < l.length by omega] using this
 unfold findF;rw [this]
theorem ref5_find {l : List Fl} {n : List UInt8} {Q : LV → Prop} (hl : l.length ≤ 1000000) (h : Q (.d (.int .i64 (findF l n)))) : VQ cf 58 [.sl (rowD rfD l), .str n] Q := by
 refine V_intro rfl (S_intro Tryz.func58 rfl rfl (Nat.le_of_ble_eq_true rfl) ?_);simp;refine X_loop (fun (k : Nat) e S' => k ≤ l.length ∧ e 0 = .d (.sl (rowD rfD l)) ∧ e 1 = .d (.str n) ∧ e 5 = .d (.int .i64 k) ∧ ∀ j, j < k → (nth l j).name ≠ n) (fun k => l.length - k) 0 ⟨by omega, by simp, by simp, by simp, fun j hj => absurd hj (Nat.not_lt_zero _)⟩ ?_
 intro k e S' hk;obtain ⟨g1, g2, g3, g4, g5⟩ := hk;simp [g2, g4];intro _;refine f_intro (fun j1 => ?_) (fun j1 => ?_)
 ·have hk : k < l.length := by omega
  simp [g2, g3, g4, hk];refine f_intro (fun j2 => ?_) (fun j2 => ?_)
  ·rw [find_some hk g5 j2] at h;simp [g4];exact h
  ·simp [g2, g3, g4];refine ⟨k + 1, ⟨by omega, wrap_i64 (by omega) (by omega), fun j hj => ?_⟩, by omega⟩
   by_cases hjk : j = k
   ·rw [hjk]; exact j2
   ·exact g5 j (by omega)
 ·have hkl : k = l.length := by omega
  rw [hkl] at g5;rw [find_none g5] at h;simp;exact h
def insAt (l : List Fl) (n : List UInt8) : Nat := (l.takeWhile fun x => decide (x.name < n)).length
def insF (l : List Fl) (f : Fl) : List Fl := l.take (insAt l f.name) ++ [f] ++ l.drop (insAt l f.name)
theorem str_lss {P : Program} {t : TypeId} {a b : List UInt8} : binS P .lss t (.d (.str a)) (.d (.str b)) = .ok (.d (.bool (decide (a < b)))) := by
 show Res.ok (LV.d (D.bool (Op.bytesLess a b))) = _;rw [bytesLess_eq]
attribute [simp] str_lss
theorem insAt_eq {l : List Fl} {n : List UInt8} {k : Nat} (hk : k ≤ l.length) (h : ∀ j, j < k → (nth l j).name < n) (hx : k < l.length → ¬ (nth l k).name < n) : insAt l n = k := by
 have e : l = l.take k ++ l.drop k := (List.take_append_drop k l).symm;unfold insAt;rw [e, List.takeWhile_append_of_pos]
 ·have h0 : (l.drop k).takeWhile (fun x => decide (x.name < n)) = [] := by
   by_cases hl : k < l.length
   ·rw [drop_cons hl, List.takeWhile_cons_of_neg (by simpa using hx hl)]
   ·rw [List.drop_eq_nil_of_le (by omega)]; rfl
  rw [h0, List.append_nil, List.length_take];omega
 ·intro x hx;obtain ⟨i, hi, rfl⟩ := List.getElem_of_mem hx;have hi' : i < k := by simp at hi; omega
  have := h i hi';simpa [nth, show i < l.length by omega] using this
theorem insF_length {l : List Fl} {f : Fl} : (insF l f).length = l.length + 1 := by
 have : insAt l f.name ≤ l.length := by unfold insAt; exact (List.takeWhile_sublist _).length_le
 simp [insF];omega
set_option maxHeartbeats 1000000 in
theorem ref5_insert {l : List Fl} {f : Fl} {R : Nat → List D → Nat → Prop} (hl : l.length ≤ 1000000) (h : R 5 (rowD rfD (insF l f)) (insF l f).length) : MQ cf 53 [.sl (rowD rfD l), rfD f] R := by
 unfold MQ;refine S_intro Tryz.func53 rfl rfl (Nat.le_of_ble_eq_true rfl) ?_;simp [rfD];refine X_loop (fun (k : Nat) e S' => k ≤ l.length ∧ e 0 = .d (.sl (rowD rfD l)) ∧ e 3 = .ptr 0 0 ∧ e 5 = .d (.int .i64 k) ∧ S'.obj 0 = .cells [.d (.str f.name), .d (.sl (byD f.data)), .d (.bool f.put), .d (.int .i64 f.slot), .d (.sl (inD f.places))] ∧ 0 < S'.next ∧ ∀ j, j < k → (nth l j).name < f.name) (fun k => l.length - k) 0 ?_ ?_
 ·simp
 ·intro k e S' hk;obtain ⟨g1, g2, g3, g4, g5, g6, g7⟩ := hk;simp;refine X_draw (by decide) ?_
  simp [g2, g4];intro _;refine f_intro (fun j1 => ?_) (fun j1 => ?_)
  ·have hk : k < l.length := by omega
   simp [g2, g3, g4, g5, hk];refine f_intro (fun j2 => ?_) (fun j2 => ?_)
   ·simp [g2, g3, g4, g5];refine ⟨k + 1, ⟨by omega, wrap_i64 (by omega) (by omega), fun j hj => ?_⟩, by omega⟩
    by_cases hjk : j = k
    ·rw [hjk]; exact j2
    ·exact g7 j (by omega)
   ·simp;refine X_draw (by decide) ?_
    simp [g2, g3, g4, g5, grow_lit0, grow_ar, show k ≤ l.length by omega]
    have hik : insAt l f.name = k := insAt_eq g1 g7 (fun _ => j2);have hrow : rowD rfD (l.take k) ++ D.agg [D.str f.name, D.sl (byD f.data), D.bool f.put, D.int IntKind.i64 f.slot, D.sl (inD f.places)] :: rowD rfD (l.drop k) = rowD rfD (insF l f) := by
     unfold insF;rw [hik];simp [rowD];rfl
    refine ⟨⟨by omega, by omega⟩, ⟨by omega, by omega⟩, ⟨by omega, by omega⟩, ⟨by decide, by decide⟩, _, 5, rowD rfD (insF l f), (insF l f).length, ⟨rfl, rfl, by rw [insF_length]; omega⟩, ?_, by rw [rowD_length]; exact Nat.le_refl _, by rw [insF_length]; omega, h⟩
    rw [hrow];exact if_pos rfl
  ·simp [j1];refine X_draw (by decide) ?_
   simp [g2, g3, g4, g5, grow_lit0, grow_ar, show k ≤ l.length by omega]
   have hik : insAt l f.name = k := insAt_eq g1 g7 (fun hh => absurd hh j1);have hrow : rowD rfD (l.take k) ++ D.agg [D.str f.name, D.sl (byD f.data), D.bool f.put, D.int IntKind.i64 f.slot, D.sl (inD f.places)] :: rowD rfD (l.drop k) = rowD rfD (insF l f) := by
    unfold insF;rw [hik];simp [rowD];rfl
   refine ⟨⟨by omega, by omega⟩, ⟨by omega, by omega⟩, ⟨by omega, by omega⟩, ⟨by decide, by decide⟩, _, 5, rowD rfD (insF l f), (insF l f).length, ⟨rfl, rfl, by rw [insF_length]; omega⟩, ?_, by rw [rowD_length]; exact Nat.le_refl _, by rw [insF_length]; omega, h⟩
   rw [hrow];exact if_pos rfl
end Go.VM
end
section
namespace Go.VM
open Go.Proofs
set_option maxRecDepth 4000
attribute [-simp] Int.not_lt Int.not_le Nat.not_lt Nat.not_le
def Fl.gnd (x : Fl) : Nd := ⟨x.name, x.data.length, x.places⟩
def gnodes (fl : List Fl) : List Nd := fl.map Fl.gnd
theorem gnodes_next {fl : List Fl} {k : Nat} (h : k < fl.length) : rowD ndD (gnodes (fl.take k)) ++ [D.agg [.str (nth fl k).name, .int .i64 (nth fl k).data.length, .sl (inD (nth fl k).places)]] = rowD ndD (gnodes (fl.take (k + 1))) := by
 rw [takeN h]; simp [gnodes, rowD, Fl.gnd, ndD]
set_option maxHeartbeats 1000000 in
theorem ref5_nodes {S : St} {gid id : Nat} {fl : List Fl} {Q : LV → St → Prop} (hF : IsG S gid id fl) (hl : fl.length ≤ 1000000 ∧ ∀ x ∈ fl, x.data.length ≤ 1000000) (h : ∀ v S', Kept S S' → NewSl S S' v 3 (rowD ndD (gnodes fl)) → Q v S') : SQ cf 60 [.ptr gid 0] S Q := by
 obtain ⟨⟨hid, hne⟩, c, hc, hs⟩ := hF;refine S_intro Tryz.func60 rfl rfl (Nat.le_of_ble_eq_true rfl) ?_;simp;refine X_loop (fun (k : Nat) e S' => k ≤ fl.length ∧ e 0 = .ptr gid 0 ∧ e 4 = .d (.int .i64 k) ∧ Kept S S' ∧ NewSl S S' (e 3) 3 (rowD ndD (gnodes (fl.take k)))) (fun k => fl.length - k) 0 ⟨by omega, by simp, by simp, Kept.refl S, .inl ⟨by simp, rfl⟩⟩ ?_
 intro k e S' hk;obtain ⟨g1, g2, g3, g4, g5⟩ := hk;have hc1 : S'.obj gid = .cells [.ptr id 0, c] := (g4.1 gid hid).trans hc;have hlen : ∀ (Q : LV → St → Prop), Q (.d (.int .i64 fl.length)) S' → TQ (lenT Tryz.prog 106 (fetch gid 1 c)) S' Q := by
  intro Q hQ;rcases hs with ⟨rfl, hs⟩ | ⟨ver, rfl⟩
  ·have hz : fl.length = 0 := by rw [← rowD_length (enc := rfD), hs]; rfl
   rw [hz] at hQ;simpa using hQ
  ·simp;exact fun _ => hQ
 simp [g2, g3, hc1];refine hlen _ ?_;simp;refine f_intro (fun j1 => ?_) (fun j1 => ?_)
 ·have hk : k < fl.length := by omega
  rcases hs with ⟨rfl, hs⟩ | ⟨ver, rfl⟩
  ·have := congrArg List.length hs;rw [rowD_length] at this;have h0 : ([] : List D).length = 0 := rfl;omega
  have hdl := hl.2 _ (nth_mem hk);simp;refine X_drawM [0, 0, 2, 6, 14, 0, 62, 126, 254, 0, 512, 1536, 3584, 0, 15872, 32256, 65024, 130560, 0, 262144, 786432, 1835008, 0, 8126464, 16515072, 33292288, 67108862, 134217726, 268435455, 536870911] (by decide +kernel) (by decide +kernel) ?_
  simp [g2, g3, hc1, hk];intro _;refine NewSl.growL (g5.shift rfl (by simp)) (by have := g4.2.1; simp; omega) (gnodes_next hk) (by rw [rowD_length]; unfold fits; simp [gnodes]; omega) fun i S3 r w s1 s2 s3 s4 s5 s6 s7 s8 s9 s10 => ?_
  have hKs : Kept S (startD S'.next S'.clk 28 S') := g4.of (fun _ _ => rfl) (by simp) (by simp) rfl
  have hK3 := s4 hKs;simp at s5 s6 s8 s9 s10;simp [g2, g3];refine ⟨⟨by omega, by omega⟩, by refine ⟨?_, ?_, ?_, ?_, ?_, ?_⟩ <;> exact .inl (by decide), k + 1, ⟨by omega, wrap_i64 (by omega) (by omega), hK3.of (fun _ _ => rfl) (by show S3.next ≤ S'.next + 3000; omega) (by show S3.clk ≤ S'.clk + 3000; omega) rfl, .inr ⟨i, s2, by simp; omega, by rw [rowD_length], s1⟩⟩, by omega⟩
 ·have hkl : k = fl.length := by omega
  subst hkl;rw [List.take_length] at g5;simp;exact h _ _ g4 g5
theorem IsG.refs {S : St} {gid id : Nat} {fl : List Fl} (h : IsG S gid id fl) : objRefs (S.obj gid) = [id] ∧ ∀ R, R.elem id = true → objTame R (S.obj gid) = true := by
 obtain ⟨_, c, h1, h2⟩ := h;rw [h1];refine ⟨by simp [h2.tame.1], fun R hR => ?_⟩
 have h3 := h2.tame.2 R;have h4 : cellTame R (.ptr id 0) = true := hR;show ([LV.ptr id 0, c].all (cellTame R)) = true;rw [List.all_cons, List.all_cons, h3, h4]; rfl
theorem RoD_G {f : FuncId} {ls : List LV} {S : St} {gid id : Nat} {d : Dk} {fl : List Fl} {v' : LV} {K : LV → St → List Nat → List Nat → Prop} (hI : IsR S id d) (hF : IsG S gid id fl) (hr : ls.flatMap refs = [gid]) (ha : ls.all (argTame [id, gid]) = true) (hd : dataV v' = true)
  (h : ∀ S0, IsR S0 id d → IsG S0 gid id fl → SQ cf f ls S0 fun r S1 => TQ (closeV r) S1 fun v S2 => v = v' ∧ S2.obj id = S0.obj id ∧ S2.obj gid = S0.obj gid)
  (hK : K v' S.tick [gid, id] []) : RoD cf f ls S K := by
 have hne : gid ≠ id := Ne.symm hF.lt.2;refine RoD_2 hr hne rfl rfl hF.refs.1 hI.refs.1 (hF.refs.2 _ (by simp)) (hI.refs.2 _) ha ?_
 have e1 : (small [(id, S.obj id), (gid, S.obj gid)]).obj id = S.obj id := by simp [small]
 have e2 : (small [(id, S.obj id), (gid, S.obj gid)]).obj gid = S.obj gid := by simp [small, Ne.symm hne]
 obtain ⟨n, hn⟩ := h (small [(id, S.obj id), (gid, S.obj gid)]) (hI.of e1 (by simp [small, nextOf]; omega)) (hF.of e2 (by simp [small, nextOf]; omega))
 refine ⟨n, holds_mono (fun r hr => ?_) hn⟩;refine TQ_mono hr fun v S2 h1 => ?_;obtain ⟨rfl, h2, h3⟩ := h1;exact ⟨hd, h2.trans e1, h3.trans e2, hK⟩
theorem NewSl.closeK {S S' : St} {v : LV} {sz : Nat} {xs : List D} (h : NewSl S S' v sz xs) : TQ (closeV v) S' fun v' S2 => v' = .d (.sl xs) ∧ (∀ j, j < S.next → S2.obj j = S'.obj j) ∧ S2.next = S'.next := by
 rcases h with ⟨rfl, rfl⟩ | ⟨b, h1, h2, rfl, h4⟩
 ·exact ⟨rfl, fun _ _ => rfl, rfl⟩
 ·simp [h4];exact fun j hj h0 => absurd h0 (by omega)
theorem ro_gnodes {S : St} {gid id : Nat} {fl : List Fl} {d : Dk} {K : LV → St → List Nat → List Nat → Prop} (hI : IsR S id d) (hF : IsG S gid id fl) (hl : fl.length ≤ 1000000 ∧ ∀ x ∈ fl, x.data.length ≤ 1000000)
  (hK : K (.d (.sl (rowD ndD (gnodes fl)))) S.tick [gid, id] []) : RoD cf 60 [.ptr gid 0] S K := by
 refine RoD_G hI hF rfl (by simp) rfl (fun S0 h0 h1 => ref5_nodes h1 hl fun v S' hk hv => ?_) hK
 refine TQ_mono hv.closeK fun v' S2 h2 => ?_;obtain ⟨rfl, h3, h4⟩ := h2;exact ⟨rfl, (h3 _ h0.1).trans (hk.1 _ h0.1), (h3 _ h1.lt.1).trans (hk.1 _ h1.lt.1)⟩
theorem ref5_Left {S : St} {gid id n : Nat} {fl : List Fl} {d : Dk} {Q : LV → St → Prop} (hI : IsR S id d) (hF : IsG S gid id fl) (hl : fl.length ≤ 1000000 ∧ ∀ x ∈ fl, x.data.length ≤ 1000000) (hw : Ok d n)
  (h : ∀ S', IsR S' id d → IsG S' gid id fl → Mod S S' id → Q (.d (.int .i64 (freeOf (gnodes fl) d.many).length)) S') : SQ cf 28 [.ptr gid 0] S Q := by
 refine S_intro Tryz.func28 rfl rfl (Nat.le_of_ble_eq_true rfl) ?_;have hid := hI.1;have hlt := hF.lt;have hne : ¬ gid = id := Ne.symm hF.lt.2;simp;refine X_draw (by decide) ?_
 simp;refine ro_gnodes (S := startD S.next S.clk 1 S) (d := d) (fl := fl) (id := id) (hI.of rfl (by simp [startD]; omega)) (hF.of rfl (by simp [startD]; omega)) hl ?_
 have hF0 := hF;obtain ⟨_, c2, e1, e2⟩ := hF;simp [startD, e1];refine shR_Many (d := d) (hI.of rfl (by simp; omega)) hw.wf.many fun S3 m1 m2 m3 m4 m5 => ?_
 simp at m2 m3 m4 m5;simp [m3, m4];have hmany : d.many ≤ 2000 := by have := hw.wf.many; unfold Dk.many; omega
 refine ref4_Free hmany ?_;simp;intro _;refine ⟨⟨.inr hne, by decide⟩, ?_⟩
 refine h _ (m1.of rfl (by simp; omega)) (hF0.of (m2 gid hne) (by simp; omega)) ⟨fun j hj hj2 => m2 j hj2, by simp, by simp, m5⟩
theorem find_cases (l : List Fl) (n : List UInt8) : (findF l n = -1 ∧ ∀ k, k < l.length → (nth l k).name ≠ n) ∨ ∃ k, k < l.length ∧ findF l n = k ∧ (∀ j, j < k → (nth l j).name ≠ n) ∧ (nth l k).name = n := by
 cases hx : l.findIdx? fun x => decide (x.name = n) with
 | none =>
  refine .inl ⟨by unfold findF; rw [hx], fun k hk => ?_⟩
  rw [List.findIdx?_eq_none_iff] at hx;have := hx _ (nth_mem hk);simpa using this
 | some k =>
  have e0 : findF l n = k := by unfold findF; rw [hx]
  rw [List.findIdx?_eq_some_iff_getElem] at hx;obtain ⟨hk, h1, h2⟩ := hx;refine .inr ⟨k, hk, e0, fun j hj => ?_, by simpa [nth, hk] using h1⟩
  have := h2 j hj;simpa [nth, show j < l.length by omega] using this
def GotNe (S S' : St) (r : Option (List UInt8)) (v : LV) : Prop := match r with
 | none => v = .tup [.lit [], .d (.bool false)]
 | some b => ∃ v1, v = .tup [v1, .d (.bool true)] ∧ NewSl S S' v1 1 (byD b)
theorem ref5_Get {S : St} {gid id : Nat} {fl : List Fl} {name : List UInt8} {Q : LV → St → Prop} (hF : IsG S gid id fl) (hl : fl.length ≤ 1000000 ∧ ∀ x ∈ fl, x.data.length ≤ 1000000) (h : ∀ v S', Kept S S' → GotNe S S' (getF fl name) v → Q v S') : SQ cf 27 [.ptr gid 0, .d (.str name)] S Q := by
 obtain ⟨⟨hid, hne⟩, c, hc, hs⟩ := hF;refine S_intro Tryz.func27 rfl rfl (Nat.le_of_ble_eq_true rfl) ?_;rcases hs with ⟨rfl, hs⟩ | ⟨ver, rfl⟩
 ·have h0 : fl = [] := List.eq_nil_of_length_eq_zero (by rw [← rowD_length (enc := rfD), hs]; rfl)
  subst h0;simp [hc];refine ref5_find (l := []) (by simp) ?_
  rw [show findF [] name = -1 from rfl];refine ⟨rfl, ?_⟩;simp;exact h _ _ (Kept.refl S) rfl
 ·simp [hc];refine ref5_find hl.1 ?_;rcases find_cases fl name with ⟨e1, e2⟩ | ⟨k, e1, e2, e3, e4⟩
  ·rw [e1];refine ⟨rfl, ?_⟩;simp;refine h _ _ (Kept.refl S) ?_;rw [get_none e2]; rfl
  ·have hdl := hl.2 _ (nth_mem e1);rw [e2];refine ⟨rfl, ?_⟩;simp;refine f_intro (fun j1 => ?_) (fun j1 => ?_)
   ·omega
   simp [hc, e1, grow_lit0];refine ⟨by omega, ?_⟩
   rw [get_some e1 e3 e4] at h;refine h _ _ ?_ ⟨_, rfl, .inr ⟨S.next, Nat.le_refl _, by simp, by simp, by simp⟩⟩
   exact ⟨fun j hj => by simp [show ¬ j = S.next by omega], by simp, by simp, rfl⟩
theorem glist_next {fl : List Fl} {k : Nat} (h : k < fl.length) : rowD fiD (listF (fl.take k)) ++ [D.agg [.str (nth fl k).name, .sl (byD (nth fl k).data)]] = rowD fiD (listF (fl.take (k + 1))) := list_next h
set_option maxHeartbeats 1000000 in
theorem ref5_List {S : St} {gid id : Nat} {fl : List Fl} {Q : LV → St → Prop} (hF : IsG S gid id fl) (hl : fl.length ≤ 1000000 ∧ ∀ x ∈ fl, x.data.length ≤ 1000000) (h : ∀ v S', Kept S S' → NewSl S S' v 2 (rowD fiD (listF fl)) → Q v S') : SQ cf 22 [.ptr gid 0] S Q := by
 obtain ⟨⟨hid, hne⟩, c, hc, hs⟩ := hF;refine S_intro Tryz.func22 rfl rfl (Nat.le_of_ble_eq_true rfl) ?_;simp;refine X_loop (fun (k : Nat) e S' => k ≤ fl.length ∧ e 0 = .ptr gid 0 ∧ e 4 = .d (.int .i64 k) ∧ Kept S S' ∧ NewSl S S' (e 3) 2 (rowD fiD (listF (fl.take k)))) (fun k => fl.length - k) 0 ⟨by omega, by simp, by simp, Kept.refl S, .inl ⟨by simp, rfl⟩⟩ ?_
 intro k e S' hk;obtain ⟨g1, g2, g3, g4, g5⟩ := hk;have hc1 : S'.obj gid = .cells [.ptr id 0, c] := (g4.1 gid hid).trans hc;have hlen : ∀ (Q : LV → St → Prop), Q (.d (.int .i64 fl.length)) S' → TQ (lenT Tryz.prog 106 (fetch gid 1 c)) S' Q := by
  intro Q hQ;rcases hs with ⟨rfl, hs⟩ | ⟨ver, rfl⟩
  ·have hz : fl.length = 0 := by rw [← rowD_length (enc := rfD), hs]; rfl
   rw [hz] at hQ;simpa using hQ
  ·simp;exact fun _ => hQ
 simp [g2, hc1];refine hlen _ ?_;simp [g3];refine f_intro (fun j1 => ?_) (fun j1 => ?_)
 ·have hk : k < fl.length := by omega
  rcases hs with ⟨rfl, hs⟩ | ⟨ver, rfl⟩
  ·have := congrArg List.length hs;rw [rowD_length] at this;have h0 : ([] : List D).length = 0 := rfl;omega
  have hdl := hl.2 _ (nth_mem hk);simp;refine X_drawM [0, 0, 2, 6, 14, 0, 62, 126, 254, 0, 0, 1024, 3072, 7168, 0, 31744, 64512, 130048, 261632, 524286, 1048574, 2097151, 4194303] (by decide +kernel) (by decide +kernel) ?_
  simp [g2, g3, hc1, hk, grow_lit0];refine ⟨by omega, ?_⟩
  have hKd : Kept S' (startD S'.next S'.clk 21 ((startD S'.next S'.clk 20 ((startD S'.next S'.clk 18 S').alloc (Obj.arr 1 (byD (nth fl k).data) false))).set (S'.next + 1800) (Obj.arr 1 (byD (nth fl k).data) true))) := by
   refine ⟨fun j hj => ?_, by simp, by simp, rfl⟩
   simp [startD, show ¬ j = S'.next + 1800 by omega]
  refine NewSl.growL (g5.kept hKd) (by have := g4.2.1; simp; omega) (glist_next hk) (by rw [rowD_length]; unfold fits; simp [listF]; omega) fun i S3 r w s1 s2 s3 s4 s5 s6 s7 s8 s9 s10 => ?_
  have hK3 := s4 (g4.trans hKd);simp at s5 s6 s8 s9 s10;simp [g2, g3];have hg : ¬ gid = S'.next + 1800 := by have := g4.2.1; omega
  refine ⟨⟨by omega, by omega⟩, ?_, k + 1, ⟨by omega, wrap_i64 (by omega) (by omega), hK3.of (fun _ _ => rfl) (by show S3.next ≤ S'.next + 2300; omega) (by show S3.clk ≤ S'.clk + 2300; omega) rfl, .inr ⟨i, s2, by simp; omega, by rw [rowD_length], s1⟩⟩, by omega⟩
  (repeat' apply And.intro) <;> first | decide | exact .inr hg | exact .inl (by decide)
 ·have hkl : k = fl.length := by omega
  subst hkl;rw [List.take_length] at g5;simp;exact h _ _ g4 g5
end Go.VM
end
