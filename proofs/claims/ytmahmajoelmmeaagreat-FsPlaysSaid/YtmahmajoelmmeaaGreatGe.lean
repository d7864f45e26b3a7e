/- Chapter 5: the document's files, laid. No condition. -/
import Derived.Test.YtmahmajoelmmeaaGreatGd
import Derived.Test.YtmahmajoelmmeaaGreatFm
namespace Go.VM
open Go.Proofs
set_option maxRecDepth 4000
attribute [-simp] Int.not_lt Int.not_le Nat.not_lt Nat.not_le
def laidF (fl : List Fl) : List Int → List Int → List Fl → Option (List Wr × List Fl)
 | _, _, [] => some ([], [])
 | s, f, x :: xs =>
  if x.put = false then (laidF fl s f xs).map fun p => (p.1, x :: p.2)
  else if (findF fl x.name < 0 ∧ s = []) ∨ f.length < needN x.data.length then none
  else
   let y := x.laid x.name (if 0 ≤ findF fl x.name then (nth fl (findF fl x.name).toNat).slot else nth s 0) (f.take (needN x.data.length))
   (laidF fl (if 0 ≤ findF fl x.name then s else s.drop 1) (f.drop (needN x.data.length)) xs).map fun p =>
    (sectW x.data (f.take (needN x.data.length)) (needN x.data.length) ++ [⟨y.slot, ndBytes y.nd⟩] ++ p.1, y :: p.2)
def goneF (fl l : List Fl) : List Wr := (fl.filter fun x => decide (findF l x.name < 0)).map fun x => ⟨x.slot, zeros 64⟩
def Mod2 (S S' : St) (id a : Nat) : Prop := (∀ j, j < S.next → j ≠ id → j ≠ a → S'.obj j = S.obj j) ∧ S.next ≤ S'.next ∧ S.clk ≤ S'.clk ∧ S'.esc = S.esc
theorem Mod2.refl (S : St) (id a : Nat) : Mod2 S S id a := ⟨fun _ _ _ _ => rfl, Nat.le_refl _, Nat.le_refl _, rfl⟩
theorem Mod2.of {S0 S S' : St} {id a : Nat} (h : Mod2 S0 S id a) (ho : ∀ j, j < S0.next → j ≠ id → j ≠ a → S'.obj j = S.obj j) (hn : S.next ≤ S'.next) (hc : S.clk ≤ S'.clk) (he : S'.esc = S.esc) : Mod2 S0 S' id a :=
 ⟨fun j h1 h2 h3 => (ho j h1 h2 h3).trans (h.1 j h1 h2 h3), Nat.le_trans h.2.1 hn, Nat.le_trans h.2.2.1 hc, he.trans h.2.2.2⟩
theorem stE_rf2 {l : Loc} {b : List Fl} {i : Nat} {c : Bool} : stE l 5 (rowD rfD b) false i 2 [.bool c] = if i < b.length then (setT l 5 (rowD rfD (b.set i { nth b i with put := c })) false).bind fun _ => .ret .un else .no :=
 stE_row (y := { nth b i with put := c }) (by simp) (by simp [rfD, putCells])
theorem stE_rf3 {l : Loc} {b : List Fl} {i : Nat} {c : Int} : stE l 5 (rowD rfD b) false i 3 [.int .i64 c] = if i < b.length then (setT l 5 (rowD rfD (b.set i { nth b i with slot := c })) false).bind fun _ => .ret .un else .no :=
 stE_row (y := { nth b i with slot := c }) (by simp) (by simp [rfD, putCells])
theorem stE_rf4 {l : Loc} {b : List Fl} {i : Nat} {c : List Int} : stE l 5 (rowD rfD b) false i 4 [.sl (inD c)] = if i < b.length then (setT l 5 (rowD rfD (b.set i { nth b i with places := c })) false).bind fun _ => .ret .un else .no :=
 stE_row (y := { nth b i with places := c }) (by simp) (by simp [rfD, putCells])
theorem goneF_take {fl l : List Fl} {k : Nat} (h : k < fl.length) : goneF (fl.take (k + 1)) l = goneF (fl.take k) l ++ if findF l (nth fl k).name < 0 then [⟨(nth fl k).slot, zeros 64⟩] else [] := by
 unfold goneF;rw [takeN h, List.filter_append, List.map_append];congr 1;rw [List.filter_cons, List.filter_nil];split <;> simp_all
theorem goneF_length {fl l : List Fl} : (goneF fl l).length ≤ fl.length := by
 unfold goneF;rw [List.length_map];exact List.length_filter_le _ _
theorem peek_d {x : D} {S : St} {K : D → St → Prop} : TQ (Go.VM.peek (.d x)) S K ↔ K x S := Iff.rfl
theorem mapL_0 {S : St} {K : List D → St → Prop} : TQ (T.mapL Go.VM.peek []) S K ↔ K [] S := Iff.rfl
theorem hold2 {α β : Type} {R : α → β → Prop} {t : Tag R} {a : α} {b : β} (h : R a b) : hold R t a b := h
theorem PX_cut {c : Code} {t : Tag c} {e : Env} {S : St} {K : Ex → Env → St → Prop} {E : Env → St → Prop} (h0 : E e S) (h : ∀ e' S', E e' S' → PX cf (hold c t) e' S' K) : PX cf (hold c t) e S K := h e S h0
def cutQ (E : Env → St → Prop) (K : Ex → Env → St → Prop) : Ex → Env → St → Prop := fun x e S => match x with
 | .normal => E e S
 | x => K x e S
theorem cutQ_n {E : Env → St → Prop} {K : Ex → Env → St → Prop} {e : Env} {S : St} : cutQ E K .normal e S ↔ E e S := Iff.rfl
theorem cutQ_r {E : Env → St → Prop} {K : Ex → Env → St → Prop} {e : Env} {S : St} : cutQ E K .ret e S ↔ K .ret e S := Iff.rfl
theorem cutQ_e {E : Env → St → Prop} {K : Ex → Env → St → Prop} {e : Env} {S : St} {k : Nat} : cutQ E K (.exit k) e S ↔ K (.exit k) e S := Iff.rfl
attribute [simp] cutQ_n cutQ_r cutQ_e
theorem PX_seqcut {x y : Code} {t : Tag (Code.seq x y)} {e : Env} {S : St} {K : Ex → Env → St → Prop} (E : Env → St → Prop) (hx : PX cf (hold x .mk) e S (cutQ E K)) (hy : ∀ e' S', E e' S' → PX cf (hold y .mk) e' S' K) : PX cf (hold (.seq x y) t) e S K := by
 refine PX_seq.2 (PX_mono hx fun ex e' S' h => ?_)
 cases ex with
 | normal => exact hy e' S' h
 | exit k => exact h
 | ret => exact h
theorem SlC.peekL {S : St} {gid sz : Nat} {c p : LV} {xs : List D} {K : D → St → List Nat → List Nat → Prop} (hs : SlC sz c xs) (hc : S.obj gid = .cells [p, c]) (h : ∀ r, K (.sl xs) S r []) : TL (peek (fetch gid 1 c)) S K := by
 rcases hs with ⟨rfl, rfl⟩ | ⟨ver, rfl⟩
 ·exact h []
 ·have : TL (peek (fetch gid 1 (.own ver sz xs false))) S K ↔ K (.sl xs) S [gid] [] := by simp [hc]
  exact this.2 (h _)
theorem NewSl.up {S0 S S' : St} {v : LV} {sz : Nat} {xs : List D} (h : NewSl S0 S v sz xs) (ho : ∀ j, S0.next ≤ j → j < S.next → S'.obj j = S.obj j) (hn : S.next ≤ S'.next) : NewSl S0 S' v sz xs := by
 rcases h with h | ⟨i, h1, h2, h3, h4⟩
 ·exact .inl h
 ·exact .inr ⟨i, h1, by omega, h3, (ho i h1 h2).trans h4⟩
theorem lay_keep {S S2 S' : St} {id a gid : Nat} {d : Dk} {v c : LV} {xs : List D} (hI : IsR S2 id d) (hM : Mod2 S S2 id a) (hN : NewSl S S2 v 2 xs) (hg : S2.obj gid = .cells [.ptr id 0, c]) (hai : a < S.next ∧ a ≠ id ∧ a ≠ gid) (hgl : gid < S.next)
  (ho : ∀ j, j ≠ a → j < S2.next → S'.obj j = S2.obj j) (hn : S2.next ≤ S'.next) (hc : S2.clk ≤ S'.clk) (he : S'.esc = S2.esc) : IsR S' id d ∧ Mod2 S S' id a ∧ NewSl S S' v 2 xs ∧ S'.obj gid = .cells [.ptr id 0, c] := by
 have h1 := hI.1;have h2 := hM.2.1;exact ⟨hI.of (ho id (Ne.symm hai.2.1) h1) (by omega), hM.of (fun j hj _ hja => ho j hja (by omega)) hn hc he, hN.up (fun j hj hj2 => ho j (by omega) hj2) hn, (ho gid (Ne.symm hai.2.2) (by omega)).trans hg⟩
theorem lay_grow {S S2 S7 S' : St} {id a gid : Nat} {d : Dk} {v c : LV} {xs : List D} {oa : Obj} (hI : IsR S2 id d) (hM : Mod2 S S2 id a) (hN : NewSl S S2 v 2 xs) (hg : S2.obj gid = .cells [.ptr id 0, c]) (ha : S2.obj a = oa) (hai : a < S.next) (hgl : gid < S.next) (hid : id < S.next)
  (z : ∀ j, j < S2.next → (∀ c, v ≠ .ar (.arr j) 2 0 c) → S7.obj j = S2.obj j) (ho : S'.obj = S7.obj) (hn : S2.next ≤ S'.next) (hc : S2.clk ≤ S'.clk) (he : S'.esc = S2.esc) : IsR S' id d ∧ Mod2 S S' id a ∧ S'.obj gid = .cells [.ptr id 0, c] ∧ S'.obj a = oa := by
 have h2 := hM.2.1;have hz : ∀ j, j < S.next → S'.obj j = S2.obj j := fun j hj => by rw [ho]; exact z j (by omega) fun c => hN.away hj
 exact ⟨hI.of (hz id hid) (by omega), hM.of (fun j hj _ _ => hz j hj) hn hc he, (hz gid hgl).trans hg, (hz a hai).trans ha⟩
theorem ro_gslots {S : St} {gid id : Nat} {fl : List Fl} {d : Dk} {K : LV → St → List Nat → List Nat → Prop} (hI : IsR S id d) (hF : IsG S gid id fl) (hl : fl.length ≤ 1000000)
  (hK : K (.d (.sl (inD (slotsTo fl 40)))) S.tick [gid, id] []) : RoD cf 97 [.ptr gid 0] S K := by
 refine RoD_G hI hF rfl (by simp) rfl (fun S0 h0 h1 => ref5_slots h1 hl fun v S' hk hv => ?_) hK
 refine TQ_mono hv.closeK fun v' S2 h2 => ?_;obtain ⟨rfl, h3, h4⟩ := h2;exact ⟨rfl, (h3 _ h0.1).trans (hk.1 _ h0.1), (h3 _ h1.lt.1).trans (hk.1 _ h1.lt.1)⟩
set_option maxHeartbeats 4000000 in
theorem ref5_laid {S : St} {gid id a n : Nat} {fl l : List Fl} {d : Dk} {Q : LV → St → Prop} (hI : IsR S id d) (hF : IsG S gid id fl) (hl : fl.length ≤ 100000 ∧ ∀ x ∈ fl, x.data.length ≤ 1000000) (hw : Ok d n)
  (hll : l.length ≤ 100000 ∧ ∀ x ∈ l, x.data.length ≤ 1000000) (ha : S.obj a = .arr 5 (rowD rfD l) false) (hai : a < S.next ∧ a ≠ id ∧ a ≠ gid)
  (h0 : laidF fl (slotsTo fl 40) (freeOf (gnodes fl) d.many) l = none → ∀ S', IsR S' id d → Mod2 S S' id a → Q (.tup [.lit [], .d (.bool false)]) S')
  (h : ∀ w l', laidF fl (slotsTo fl 40) (freeOf (gnodes fl) d.many) l = some (w, l') → ∀ v S', IsR S' id d → Mod2 S S' id a → S'.obj a = .arr 5 (rowD rfD l') false → NewSl S S' v 2 (rowD wrD (w ++ goneF fl l')) → Q (.tup [v, .d (.bool (decide ((w ++ goneF fl l').length ≤ 150)))]) S') :
  SQ cf 56 [.ptr gid 0, .ar (.arr a) 5 0 l.length] S Q := by
 refine S_intro Tryz.func56 rfl rfl (Nat.le_of_ble_eq_true rfl) ?_;have hid := hI.1;have hlt := hF.lt;have hne : ¬ gid = id := Ne.symm hF.lt.2;simp;refine X_drawM [0, 1, 0, 7, 0, 16, 48, 112, 255, 511, 1023, 2047] (by decide +kernel) (by decide +kernel) ?_
 simp;refine ro_gslots (S := startD S.next S.clk 1 S) (d := d) (fl := fl) (id := id) (hI.of rfl (by simp [startD]; omega)) (hF.of rfl (by simp [startD]; omega)) (by omega) ?_
 simp;refine ro_gnodes (d := d) (fl := fl) (id := id) (hI.of rfl (by simp [startD]; omega)) (hF.of rfl (by simp [startD]; omega)) ⟨by omega, hl.2⟩ ?_
 have hF0 := hF;obtain ⟨_, c, e1, hs⟩ := hF;simp [startD, e1];refine shR_Many (d := d) (hI.of rfl (by simp; omega)) hw.wf.many fun S3 m1 m2 m3 m4 m5 => ?_
 simp at m2 m3 m4 m5;simp [m3, m4];have hmany : d.many ≤ 2000 := by have := hw.wf.many; unfold Dk.many; omega
 refine ref4_Free hmany ?_;simp;refine ⟨⟨.inl (by decide), by decide, by decide⟩, ?_⟩
 generalize hS4 : ({ obj := S3.obj, next := _, clk := _, esc := S3.esc } : St) = S4;have b1 : S4.obj = S3.obj := by rw [← hS4]
 have b2 : S.next ≤ S4.next := by rw [← hS4]; simp
 have b3 : S.clk ≤ S4.clk := by rw [← hS4]; simp
 have b4 : S4.esc = S.esc := by rw [← hS4]; exact m5
 have hI4 : IsR S4 id d := m1.of (by rw [b1]) (by omega)
 have hM4 : Mod2 S S4 id a := ⟨fun j hj h1 h2 => by rw [b1, m2 j h1], b2, b3, b4⟩
 have hg4 : S4.obj gid = .cells [.ptr id 0, c] := by rw [b1, m2 gid hne]; exact e1
 have ha4 : S4.obj a = .arr 5 (rowD rfD l) false := by rw [b1, m2 a hai.2.1]; exact ha
 clear hS4 b1 m1 m2 m3 m4 m5;obtain ⟨s0, hs0⟩ : ∃ s0, s0 = slotsTo fl 40 := ⟨_, rfl⟩;obtain ⟨f0, hf0⟩ : ∃ f0, f0 = freeOf (gnodes fl) d.many := ⟨_, rfl⟩;rw [← hs0, ← hf0] at h0 h;rw [← hs0, ← hf0];have hfl0 : f0.length ≤ 2000 := by
  rw [hf0];unfold freeOf;have := freeTo_length (l := gnodes fl) (n := (d.many - 40).toNat);omega
 refine X_loop (fun (i : Nat) e S1 => i ≤ l.length ∧ e 0 = .ptr gid 0 ∧ e 1 = .ar (.arr a) 5 0 l.length ∧ e 9 = .d (.int .i64 i) ∧ IsR S1 id d ∧ Mod2 S S1 id a ∧ S1.obj gid = .cells [.ptr id 0, c] ∧
  ∃ s f done out, e 6 = .d (.sl (inD s)) ∧ e 7 = .d (.sl (inD f)) ∧ NewSl S S1 (e 8) 2 (rowD wrD out) ∧ S1.obj a = .arr 5 (rowD rfD (done ++ l.drop i)) false ∧ done.length = i ∧ out.length + f.length ≤ f0.length + i ∧
   (laidF fl s f (l.drop i)).map (fun p => (out ++ p.1, done ++ p.2)) = laidF fl s0 f0 l) (fun i => l.length - i) 0 ?_ ?_
 ·simp;exact ⟨hI4, hM4, hg4, s0, rfl, f0, rfl, [], [], .inl ⟨rfl, rfl⟩, ha4, rfl, by simp, by simp⟩
 ·intro i e S1 hJ;obtain ⟨g1, g2, g3, g4, hI1, hM1, hg1, s, f, done, out, g5, g6, g7, g8, g9, g10, g11⟩ := hJ;simp [g3, g4];intro _;refine f_intro (fun j1 => ?_) (fun j1 => ?_)
  ·have hi : i < l.length := by omega
   obtain ⟨m, hm⟩ : ∃ m, m = done ++ l.drop i := ⟨_, rfl⟩;have hml : m.length = l.length := by rw [hm]; simp; omega
   have hmi : nth m i = nth l i := by rw [hm, drop_cons hi, ← g9]; simp [nth]
   have hms : ∀ y, nth (m.set i y) i = y := fun y => by simp [nth, hml, hi]
   have hmm : ∀ y, m.set i y = (done ++ [y]) ++ l.drop (i + 1) := fun y => by rw [hm, drop_cons hi, ← g9]; simp
   have him : i < m.length := by omega
   rw [← hm] at g8;rw [drop_cons hi] at g11;have hxl := hll.2 _ (nth_mem hi);obtain ⟨x, hx⟩ : ∃ x, nth l i = x := ⟨_, rfl⟩;rw [hx] at g11 hmi hxl;have hL : laidF fl s f (x :: l.drop (i + 1)) = if x.put = false then (laidF fl s f (l.drop (i + 1))).map fun p => (p.1, x :: p.2)
    else if (findF fl x.name < 0 ∧ s = []) ∨ f.length < needN x.data.length then none
    else
     let y := x.laid x.name (if 0 ≤ findF fl x.name then (nth fl (findF fl x.name).toNat).slot else nth s 0) (f.take (needN x.data.length))
     (laidF fl (if 0 ≤ findF fl x.name then s else s.drop 1) (f.drop (needN x.data.length)) (l.drop (i + 1))).map fun p =>
      (sectW x.data (f.take (needN x.data.length)) (needN x.data.length) ++ [⟨y.slot, ndBytes y.nd⟩] ++ p.1, y :: p.2) := rfl
   rw [hL] at g11;simp [g3, g4, g8, him, hi, hmi]
   cases hp : x.put with
   | false =>
    rw [if_pos hp, Option.map_map] at g11;simp [g3, g4];refine ⟨i + 1, ⟨by omega, g2, wrap_i64 (by omega) (by omega), hI1, hM1, hg1, s, g5, f, g6, done ++ [x], out, g7, ?_, by simp [g9], by omega, ?_⟩, by omega⟩
    ·rw [g8, hm, drop_cons hi, hx]; simp
    ·rw [← g11];congr 1;funext p;simp
   | true =>
   rw [if_neg (by simp [hp])] at g11
   simp [g3, g4, g8, him, hi, hmi, hp];intro _;refine ref3_Need (by omega) ?_
   have hnd : 0 ≤ need x.data.length ∧ need x.data.length ≤ 20000 := by
    unfold need;split
    ·omega
    ·rw [Int.tdiv_eq_ediv_of_nonneg (by omega)]; omega
   obtain ⟨N, hN⟩ : ∃ N : Nat, need x.data.length = N := ⟨(need x.data.length).toNat, by omega⟩
   have hz0 : needN x.data.length = N := by unfold needN; omega
   rw [hN] at hnd;rw [hN];rw [hz0] at g11;simp;refine X_drawM [0, 1, 3, 7, 0, 0, 48, 112, 240, 511, 1023] (by decide +kernel) (by decide +kernel) ?_
   simp [g2, g3, g4, g8, hg1, him, hi, hmi];refine hs.peekL (p := .ptr id 0) hg1 fun r => ?_;simp;refine ref5_find (by omega) ?_
   refine ⟨rfl, ?_⟩;simp [-X_seq];refine ⟨⟨.inl (by decide), .inl (by decide)⟩, ?_⟩
   let E1 : Env → St → Prop := fun e' S' => (e' 0 = .ptr gid 0 ∧ e' 1 = .ar (.arr a) 5 0 l.length ∧ e' 6 = .d (.sl (inD s)) ∧ e' 7 = .d (.sl (inD f)) ∧ e' 9 = .d (.int .i64 i) ∧ e' 10 = .d (.int .i64 N) ∧ e' 11 = .d (.int .i64 (findF fl x.name))) ∧
    IsR S' id d ∧ Mod2 S S' id a ∧ NewSl S S' (e' 8) 2 (rowD wrD out) ∧ S'.obj gid = .cells [.ptr id 0, c] ∧ S'.obj a = .arr 5 (rowD rfD m) false
   refine PX_cut (E := E1) ?_ fun e2 S2 hE => ?_
   ·refine ⟨by simp [g2, g3, g4, g5, g6], hI1.of rfl (by show id < S1.next + 1100; have := hI1.1; omega), hM1.of (fun j _ _ _ => rfl) (by show S1.next ≤ S1.next + 1100; omega) (by show S1.clk ≤ S1.clk + 1100; omega) rfl, ?_, hg1, g8⟩
    simp;exact g7.shift rfl (by show S1.next ≤ S1.next + 1100; omega)
   clear g2 g3 g4 g5 g6 hI1 hM1 hg1 g7 g8;refine PX_seqcut (fun e' S' => E1 e' S' ∧ ¬ (findF fl x.name < 0 ∧ s = []) ∧ N ≤ f.length) ?_ fun e2 S2 hE => ?_
   ·obtain ⟨⟨p0, p1, p6, p7, p9, p10, p11⟩, hI2, hM2, g72, hg2, g82⟩ := hE;have hfail : laidF fl s0 f0 l = none → Q (.tup [.lit [], .d (.bool false)]) S2 := fun e => h0 e _ hI2 hM2;rcases find_cases fl x.name with ⟨k1, k2⟩ | ⟨k, k1, k2, k3, k4⟩
    ·rw [k1] at g11 p11
     cases s with
     | nil =>
      rw [if_pos (.inl ⟨by decide, rfl⟩)] at g11
      simp [p11, p6];exact hfail (by rw [← g11]; rfl)
     | cons s1 s2 =>
      have hz : ¬ ((s2.length : Int) + 1 = 0) := by omega
      simp [p6, p7, p10, p11, hz];intro _ _;refine f_intro (fun j2 => ?_) (fun j2 => ?_)
      ·simp;exact hfail (by rw [← g11, if_pos (.inr j2)]; rfl)
      ·simp;refine ⟨⟨by simp [p0, p1, p6, p7, p9, p10, p11, k1], hI2, hM2, by simpa using g72, hg2, g82⟩, by omega⟩
    ·rw [k2] at g11 p11;have hz : ¬ (k : Int) < 0 := by omega
     simp [p7, p10, p11, hz];intro _;refine f_intro (fun j2 => ?_) (fun j2 => ?_)
     ·simp;exact hfail (by rw [← g11, if_pos (.inr j2)]; rfl)
     ·simp;refine ⟨⟨by simp [p0, p1, p6, p7, p9, p10, p11, k2], hI2, hM2, by simpa using g72, hg2, g82⟩, by rw [k2]; exact fun h9 => absurd h9 hz, by omega⟩
   refine PX_seqcut (fun e' S' => (e' 0 = .ptr gid 0 ∧ e' 1 = .ar (.arr a) 5 0 l.length ∧ e' 6 = .d (.sl (inD (if 0 ≤ findF fl x.name then s else s.drop 1))) ∧ e' 7 = .d (.sl (inD f)) ∧ e' 9 = .d (.int .i64 i) ∧ e' 10 = .d (.int .i64 N)) ∧
    IsR S' id d ∧ Mod2 S S' id a ∧ NewSl S S' (e' 8) 2 (rowD wrD out) ∧ S'.obj gid = .cells [.ptr id 0, c] ∧ S'.obj a = .arr 5 (rowD rfD (m.set i { x with slot := if 0 ≤ findF fl x.name then (nth fl (findF fl x.name).toNat).slot else nth s 0 })) false) ?_ fun e3 S3 hE3 => ?_
   ·obtain ⟨⟨⟨p0, p1, p6, p7, p9, p10, p11⟩, hI2, hM2, g72, hg2, g82⟩, q1, q2⟩ := hE;rcases find_cases fl x.name with ⟨k1, k2⟩ | ⟨k, k1, k2, k3, k4⟩
    ·rw [k1] at p11 q1
     cases s with
     | nil => exact absurd ⟨by decide, rfl⟩ q1
     | cons s1 s2 =>
      simp [p11];refine X_drawM [0, 0, 0, 4, 12, 0, 32, 31, 159, 415, 1023] (by decide +kernel) (by decide +kernel) ?_
      simp [p0, p1, p6, p7, p9, p10, k1, him, g82, stE_rf3, hmi, hi];obtain ⟨r1, r2, r3, r4⟩ := lay_keep (S' := ⟨fun j => if j = a then .arr 5 (rowD rfD (m.set i { x with slot := s1 })) false else S2.obj j, S2.next + 1100, S2.clk + 1100, S2.esc⟩) hI2 hM2 g72 hg2 hai (by omega) (fun j hj _ => if_neg hj) (by show S2.next ≤ S2.next + 1100; omega) (by show S2.clk ≤ S2.clk + 1100; omega) rfl
      refine ⟨by omega, r1.of rfl r1.1, r2.of (fun j _ _ _ => rfl) (Nat.le_refl _) (Nat.le_refl _) rfl, r3.up (fun j _ _ => rfl) (Nat.le_refl _), ?_⟩
      exact (if_neg (Ne.symm hai.2.2)).trans hg2
    ·rw [k2] at p11 q1;have hz : (0 : Int) ≤ (k : Int) := by omega
     rcases hs with ⟨rfl, hs⟩ | ⟨ver, rfl⟩
     ·have := congrArg List.length hs;rw [rowD_length] at this;have h0 : ([] : List D).length = 0 := rfl;omega
     simp [p11, hz];simp [p0, p1, p6, p7, p9, p10, p11, k2, him, g82, hg2, stE_rf3, hmi, hi, k1];obtain ⟨r1, r2, r3, r4⟩ := lay_keep (S' := S2.set a (.arr 5 (rowD rfD (m.set i { x with slot := (nth fl k).slot })) false)) hI2 hM2 g72 hg2 hai (by omega) (fun j hj _ => by simp [hj]) (by simp) (by simp) rfl
     exact ⟨r1, r2, r3, Ne.symm hai.2.2⟩
   obtain ⟨sl, hsl⟩ : ∃ sl : Int, sl = if 0 ≤ findF fl x.name then (nth fl (findF fl x.name).toNat).slot else nth s 0 := ⟨_, rfl⟩;obtain ⟨s', hs'⟩ : ∃ s', s' = if 0 ≤ findF fl x.name then s else s.drop 1 := ⟨_, rfl⟩;rw [← hsl, ← hs'] at hE3;obtain ⟨_, qq1, qq2⟩ := hE;rw [if_neg (by rintro (h1 | h1); exact qq1 h1; omega), ← hsl, ← hs'] at g11
   clear hE qq1;obtain ⟨⟨p0, p1, p6, p7, p9, p10⟩, hI2, hM2, g72, hg2, g82⟩ := hE3;refine PX_seqcut (fun e' S' => (e' 0 = .ptr gid 0 ∧ e' 1 = .ar (.arr a) 5 0 l.length ∧ e' 6 = .d (.sl (inD s')) ∧ e' 7 = .d (.sl (inD (f.drop N))) ∧ e' 9 = .d (.int .i64 i)) ∧
    IsR S' id d ∧ Mod2 S S' id a ∧ NewSl S S' (e' 8) 2 (rowD wrD out) ∧ S'.obj gid = .cells [.ptr id 0, c] ∧ S'.obj a = .arr 5 (rowD rfD (m.set i { x with slot := sl, places := f.take N })) false) ?_ fun e4 S4 hE4 => ?_
   ·refine X_drawM [0, 0, 0, 0, 12, 0, 0, 96, 31, 287, 799, 2047] (by decide +kernel) (by decide +kernel) ?_
    simp [p0, p1, p6, p7, p9, p10, him, hi, g82, hms, stE_rf4, List.set_set];obtain ⟨r1, r2, r3, r4⟩ := lay_keep (S' := ⟨fun j => if j = a then .arr 5 (rowD rfD (m.set i { x with slot := sl, places := f.take N })) false else S3.obj j, S3.next + 1200, S3.clk + 1200, S3.esc⟩) hI2 hM2 g72 hg2 hai (by omega) (fun j hj _ => if_neg hj) (by show S3.next ≤ S3.next + 1200; omega) (by show S3.clk ≤ S3.clk + 1200; omega) rfl
    exact ⟨qq2, r1.of rfl r1.1, r2.of (fun j _ _ _ => rfl) (Nat.le_refl _) (Nat.le_refl _) rfl, r3.up (fun j _ _ => rfl) (Nat.le_refl _), (if_neg (Ne.symm hai.2.2)).trans hg2⟩
   have hfN : (f.take N).length = N := by simp; omega
   clear p0 p1 p6 p7 p9 p10 hI2 hM2 g72 hg2 g82;obtain ⟨⟨p0, p1, p6, p7, p9⟩, hI2, hM2, g72, hg2, g82⟩ := hE4;refine PX_seqcut (fun e' S' => (e' 0 = .ptr gid 0 ∧ e' 1 = .ar (.arr a) 5 0 l.length ∧ e' 6 = .d (.sl (inD s')) ∧ e' 7 = .d (.sl (inD (f.drop N))) ∧ e' 9 = .d (.int .i64 i)) ∧
    IsR S' id d ∧ Mod2 S S' id a ∧ NewSl S S' (e' 8) 2 (rowD wrD (out ++ sectW x.data (f.take N) N)) ∧ S'.obj gid = .cells [.ptr id 0, c] ∧ S'.obj a = .arr 5 (rowD rfD (m.set i { x with slot := sl, places := f.take N })) false) ?_ fun e5 S5 hE5 => ?_
   ·refine X_drawM [0, 0, 0, 6, 14, 30, 0, 0, 192, 448, 960, 2046, 4095, 8191] (by decide +kernel) (by decide +kernel) ?_
    simp [p1, p9, him, hi, g82, hms];refine ref5_sectors ⟨hxl, by omega⟩ ?_
    rw [hfN];simp;refine NewSl.growL (zs := rowD wrD (out ++ sectW x.data (f.take N) N)) (g72.up (fun j _ _ => rfl) (by simp)) (by have := hM2.2.1; simp; omega) (by simp [rowD]) (by rw [rowD_length]; unfold fits; rw [List.length_append, sectW_length]; omega) fun i' S7 r w z1 z2 z3 z4 z5 z6 z7 z8 z9 z10 => ?_
    simp at z5 z6 z8 z9 z10;simp [p0, p1, p6, p7, p9];obtain ⟨r1, r2, r3, r4⟩ := lay_grow (S' := ⟨S7.obj, S4.next + 1400, S4.clk + 1400, S7.esc⟩) hI2 hM2 g72 hg2 g82 hai.1 hlt.1 hid (fun j hj => z7 j (by simp; omega)) rfl (by show S4.next ≤ S4.next + 1400; omega) (by show S4.clk ≤ S4.clk + 1400; omega) z8
    exact ⟨⟨by omega, by omega⟩, ⟨.inl (by decide), .inl (by decide)⟩, r1, r2, .inr ⟨i', z2, by show i' < S4.next + 1400; omega, by rw [rowD_length, List.length_append], z1⟩, r3, r4⟩
   clear p0 p1 p6 p7 p9 hI2 hM2 g72 hg2 g82;obtain ⟨⟨p0, p1, p6, p7, p9⟩, hI2, hM2, g72, hg2, g82⟩ := hE5;refine PX_seqcut (fun e' S' => (e' 0 = .ptr gid 0 ∧ e' 1 = .ar (.arr a) 5 0 l.length ∧ e' 6 = .d (.sl (inD s')) ∧ e' 7 = .d (.sl (inD (f.drop N))) ∧ e' 9 = .d (.int .i64 i)) ∧
    IsR S' id d ∧ Mod2 S S' id a ∧ NewSl S S' (e' 8) 2 (rowD wrD (out ++ sectW x.data (f.take N) N ++ [⟨sl, ndBytes (x.laid x.name sl (f.take N)).nd⟩])) ∧ S'.obj gid = .cells [.ptr id 0, c] ∧ S'.obj a = .arr 5 (rowD rfD (m.set i { x with slot := sl, places := f.take N })) false) ?_ fun e6 S6 hE6 => ?_
   ·refine X_drawM [0, 0, 0, 6, 14, 30, 0, 0, 192, 448, 960, 0, 0, 6144, 14336, 30720, 63488, 0, 0, 393216, 917504, 1966080, 4194240, 8388544, 16777214, 33554430, 67108863, 134217727] (by decide +kernel) (by decide +kernel) ?_
    simp [p1, p9, him, hi, g82, hms];intro _;refine ShD_0 rfl rfl ?_;rw [small0];refine ref3_BytesSN (x := ⟨x.name, x.data.length, f.take N⟩) (by simp; omega) fun v9 S9 hK9 hv9 => hv9.close ?_
    simp;refine NewSl.growL (zs := rowD wrD (out ++ sectW x.data (f.take N) N ++ [⟨sl, ndBytes (x.laid x.name sl (f.take N)).nd⟩])) (g72.up (fun j _ _ => rfl) (by simp)) (by have := hM2.2.1; simp; omega) (by simp [rowD]; rfl) (by rw [rowD_length]; unfold fits; rw [List.length_append, List.length_append, sectW_length]; simp; omega) fun i' S7 r w z1 z2 z3 z4 z5 z6 z7 z8 z9 z10 => ?_
    simp at z5 z6 z8 z9 z10;simp [p0, p1, p6, p7, p9];obtain ⟨r1, r2, r3, r4⟩ := lay_grow (S' := ⟨S7.obj, S5.next + 2800, S5.clk + 2800, S7.esc⟩) hI2 hM2 g72 hg2 g82 hai.1 hlt.1 hid (fun j hj => z7 j (by simp; omega)) rfl (by show S5.next ≤ S5.next + 2800; omega) (by show S5.clk ≤ S5.clk + 2800; omega) z8
    exact ⟨⟨by omega, by omega⟩, ⟨.inl (by decide), .inl (by decide), .inl (by decide), .inl (by decide)⟩, r1, r2, .inr ⟨i', z2, by show i' < S5.next + 2800; omega, by rw [rowD_length]; simp, by rw [z1, List.append_assoc]⟩, r3, r4⟩
   clear p0 p1 p6 p7 p9 hI2 hM2 g72 hg2 g82;obtain ⟨⟨p0, p1, p6, p7, p9⟩, hI2, hM2, g72, hg2, g82⟩ := hE6;simp [p0, p1, p6, p7, p9, him, hi, g82, hms, stE_rf2, List.set_set];have hrf : rowD rfD (m.set i { slot := sl, name := x.name, size := x.size, places := f.take N, data := x.data, put := false }) = rowD rfD ((done ++ [x.laid x.name sl (f.take N)]) ++ l.drop (i + 1)) := by
    rw [← hmm, ← rowD_set, ← rowD_set]; rfl
   rw [hrf];obtain ⟨r1, r2, r3, r4⟩ := lay_keep (S' := S6.set a (.arr 5 (rowD rfD ((done ++ [x.laid x.name sl (f.take N)]) ++ l.drop (i + 1))) false)) hI2 hM2 g72 hg2 hai (by omega) (fun j hj _ => by simp [hj]) (by simp) (by simp) rfl
   refine ⟨i + 1, ⟨by omega, wrap_i64 (by omega) (by omega), r1, r2, (if_neg (Ne.symm hai.2.2)).trans hg2, s', rfl, f.drop N, rfl, done ++ [x.laid x.name sl (f.take N)], _, r3, by simp, by simp [g9], ?_, ?_⟩, by omega⟩
   ·rw [List.length_append, List.length_append, sectW_length, List.length_drop]; simp; omega
   ·rw [← g11, Option.map_map];congr 1;funext p;simp [Fl.laid]
  ·have hil : i = l.length := by omega
   subst hil;rw [List.drop_length] at g8 g11;rw [List.append_nil] at g8;have hL : laidF fl s0 f0 l = some (out, done) := by
    rw [← g11];show (some (([], []) : List Wr × List Fl)).map (fun p => (out ++ p.1, done ++ p.2)) = _;simp
   simp;refine X_loop (fun (i : Nat) e S1 => i ≤ fl.length ∧ e 0 = .ptr gid 0 ∧ e 1 = .ar (.arr a) 5 0 l.length ∧ e 12 = .d (.int .i64 i) ∧ IsR S1 id d ∧ Mod2 S S1 id a ∧ S1.obj gid = .cells [.ptr id 0, c] ∧
    NewSl S S1 (e 8) 2 (rowD wrD (out ++ goneF (fl.take i) done)) ∧ S1.obj a = .arr 5 (rowD rfD done) false) (fun i => fl.length - i) 0 ?_ ?_
   ·simp [g2, g3];refine ⟨hI1, hM1, hg1, ?_, g8⟩;have : goneF [] done = [] := rfl;rw [this, List.append_nil];exact g7
   ·clear hI1 hM1 hg1 g2 g3 g4 g5 g6 g7 g8;intro i e S1 hJ;obtain ⟨g1, g2, g3, g4, hI1, hM1, hg1, g7, g8⟩ := hJ;have hlen : ∀ (Q : LV → St → Prop), Q (.d (.int .i64 fl.length)) S1 → TQ (lenT Tryz.prog 106 (fetch gid 1 c)) S1 Q := by
     intro Q hQ;rcases hs with ⟨rfl, hs⟩ | ⟨ver, rfl⟩
     ·have hz : fl.length = 0 := by rw [← rowD_length (enc := rfD), hs]; rfl
      rw [hz] at hQ;simpa using hQ
     ·simp;exact fun _ => hQ
    simp [g2, hg1];refine hlen _ ?_;simp [g4];refine f_intro (fun j1 => ?_) (fun j1 => ?_)
    ·have hi : i < fl.length := by omega
     rcases hs with ⟨rfl, hs⟩ | ⟨ver, rfl⟩
     ·have := congrArg List.length hs;rw [rowD_length] at this;have h0 : ([] : List D).length = 0 := rfl;omega
     simp [g2, g3, g4, hg1, g8, hi, g9];refine peek_d.2 (hold2 (mapL_0.2 (hold2 (hold2 (hold2 ?_)))));refine ref5_find (by omega) ?_
     refine ⟨rfl, ?_⟩;have hnx := goneF_take (l := done) hi;refine hold2 ?_;simp;refine f_intro (fun j2 => ?_) (fun j2 => ?_)
     ·rw [if_pos j2] at hnx;refine X_drawM [0, 0, 2, 6, 14, 0, 62, 126, 254, 0, 1022, 2046, 4095, 8191] (by decide +kernel) (by decide +kernel) ?_
      simp [g2, g4, hg1, hi];have hgl := goneF_length (fl := fl.take (i + 1)) (l := done);have htl : (fl.take (i + 1)).length ≤ 100000 := by simp; omega
      have hup : NewSl S (startD S1.next S1.clk 12 ((startD S1.next S1.clk 11 ((startD S1.next S1.clk 9 S1).alloc (Obj.arr 1 (byD (zeros 64)) false))).set (S1.next + 900) (Obj.arr 1 (byD (zeros 64)) true))) (e 8) 2 (rowD wrD (out ++ goneF (fl.take i) done)) :=
       g7.up (fun j _ hj => by simp [startD, show ¬ j = S1.next + 900 by omega]) (by simp)
      refine NewSl.growL (zs := rowD wrD (out ++ goneF (fl.take (i + 1)) done)) hup (by have := hM1.2.1; simp; omega) (by rw [hnx]; simp [rowD]; rfl) (by rw [rowD_length]; unfold fits; rw [List.length_append]; omega) fun i' S7 r w z1 z2 z3 z4 z5 z6 z7 z8 z9 z10 => ?_
      simp at z5 z6 z8 z9 z10;have z7' : ∀ j, j < S1.next → (∀ c, e 8 ≠ .ar (.arr j) 2 0 c) → S7.obj j = S1.obj j := fun j hj hc => by
       rw [z7 j (by simp; omega) hc]
       simp [startD, show ¬ j = S1.next + 900 by omega]
      simp [g2, g3, g4];obtain ⟨r1, r2, r3, r4⟩ := lay_grow (S' := ⟨S7.obj, S1.next + 1400, S1.clk + 1400, S7.esc⟩) hI1 hM1 g7 hg1 g8 hai.1 hlt.1 hid z7' rfl (by show S1.next ≤ S1.next + 1400; omega) (by show S1.clk ≤ S1.clk + 1400; omega) z8
      refine ⟨⟨by omega, by omega⟩, ?_, i + 1, ⟨by omega, wrap_i64 (by omega) (by omega), r1, r2, r3, .inr ⟨i', z2, by show i' < S1.next + 1400; omega, by rw [rowD_length]; simp, z1⟩, r4⟩, by omega⟩
      have hg : ¬ gid = S1.next + 900 := by have := hM1.2.1; omega
      (repeat' apply And.intro) <;> first | decide | exact .inr hg | exact hg | exact .inl (by decide)
     ·rw [if_neg j2, List.append_nil] at hnx;simp [g2, g3, g4];exact ⟨i + 1, ⟨by omega, wrap_i64 (by omega) (by omega), hI1, hM1, hg1, by rw [hnx]; exact g7, g8⟩, by omega⟩
    ·have hil : i = fl.length := by omega
     subst hil;rw [List.take_length] at g7;rcases g7 with ⟨g7, g70⟩ | ⟨q, q1, q2, q3, q4⟩
     ·have hz : out ++ goneF fl done = [] := List.eq_nil_of_length_eq_zero (by rw [← rowD_length (enc := wrD), g70]; rfl)
      simp [g7];have h9 := h _ _ hL (.lit []) S1 hI1 hM1 g8 (.inl ⟨rfl, g70⟩);rw [hz] at h9;exact h9
     ·simp [q3];intro _;have h9 := h _ _ hL (.ar (.arr q) 2 0 (out ++ goneF fl done).length) S1 hI1 hM1 g8 (.inr ⟨q, q1, q2, by rw [rowD_length], q4⟩)
      have e9 : decide ((out.length : Int) + ((goneF fl done).length : Int) ≤ 150) = decide ((out ++ goneF fl done).length ≤ 150) := by rw [decide_eq_decide, List.length_append]; omega
      rw [e9, ← List.length_append];exact h9
end Go.VM
