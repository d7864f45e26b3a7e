/- Chapter 5: the plain law of the files: what stands on a disk. No condition. -/
import Derived.Test.YtmahmajoelmmeaaGreatKa
import Derived.Test.YtmahmajoelmmeaaGreatNl
import Derived.Test.YtmahmajoelmmeaaGreatJg
section
namespace Go.VM
open Go.Proofs
set_option maxRecDepth 4000
theorem new_len (n : Nat) : (Dk.new n).lasts.length = n := by simp [Dk.new]
theorem placesAt_get {b : List UInt8} {l : List Int} (hb : b.length = 64) : ∀ i, i ≤ 10 → ∀ j, j < i → nth (placesAt b l i) (43 + 2 * j) = u8 (nth l j / 256) ∧ nth (placesAt b l i) (43 + 2 * j + 1) = u8 (nth l j) := by
 intro i
 induction i with
 | zero => intro _ j hj; omega
 | succ i ih =>
  intro hi j hj;have hl := placesAt_length (l := l) hb i (by omega)
  have hp : (43 + 2 * i) + (two (nth l i)).length ≤ (placesAt b l i).length := by rw [two_u8, hl]; simp; omega
  rw [placesAt_succ];by_cases h : j = i
  ·subst h;have h2 : (two (nth l j)).length = 2 := rfl;have hg : ∀ k, nth (put (placesAt b l j) (43 + 2 * j) (two (nth l j))) k = ((put (placesAt b l j) (43 + 2 * j) (two (nth l j)))[k]?).getD default := fun _ => rfl;rw [hg, hg, put_get hp, put_get hp, if_pos (by omega), if_pos (by omega)]
   have e1 : 43 + 2 * j - (43 + 2 * j) = 0 := by omega
   have e2 : 43 + 2 * j + 1 - (43 + 2 * j) = 1 := by omega
   rw [e1, e2, two_u8];exact ⟨rfl, rfl⟩
  ·obtain ⟨h1, h2⟩ := ih (by omega) j (by omega)
   rw [← h1, ← h2];have hg : ∀ k, nth (put (placesAt b l i) (43 + 2 * i) (two (nth l i))) k = ((put (placesAt b l i) (43 + 2 * i) (two (nth l i)))[k]?).getD default := fun _ => rfl;rw [hg, hg, put_get hp, put_get hp, if_neg (by omega), if_neg (by omega)]
   exact ⟨rfl, rfl⟩
theorem two_num {n : Int} (h0 : 0 ≤ n) (h1 : n ≤ 65535) : (((u8 (n / 256)).toNat * 256 + (u8 n).toNat : Nat) : Int) = n := by
 have a := u8_val (n / 256);have b := u8_val n;omega
theorem node_of {x : Nd} (h : ndIs x = true) : nodeOf (ndBytes x) = x := by
 obtain ⟨h1, h2, h3, h4⟩ := ndIs_parts h;obtain ⟨-, -, -, g4, g5, -⟩ := ndIs_out h;obtain ⟨n1, n2, n3⟩ := isName_ne h1;have e : ndBytes x = placesAt (put (put ((zeros 64).set 0 (u8 x.name.length)) 1 x.name) 41 (two x.size)) x.places x.places.length := by
  have h' : nodeIs x.name x.size x.places = true := h;simp only [ndBytes, nodeBytes, h', if_true]
 have e1 : ((zeros 64).set 0 (u8 x.name.length)).length = 64 := by simp [zeros]
 have e2 : (put ((zeros 64).set 0 (u8 x.name.length)) 1 x.name).length = 64 := by rw [put_length _ _ _ (by omega)]; exact e1
 have e3 : (put (put ((zeros 64).set 0 (u8 x.name.length)) 1 x.name) 41 (two x.size)).length = 64 := by rw [put_length _ _ _ (by omega)]; exact e2
 have h2s : (two x.size).length = 2 := rfl;have low : ∀ k, k < 41 → (ndBytes x)[k]? = (put ((zeros 64).set 0 (u8 x.name.length)) 1 x.name)[k]? := by
  intro k hk;have hl := ndBytes_len h;rw [nth_get (by omega), e, placesAt_low (by omega) e3 _ h4, ← nth_get (by omega), put_get (by omega), if_neg (by omega)]
 have c0 : nth (ndBytes x) 0 = u8 x.name.length := by
  have := low 0 (by omega)
  rw [put_get (by omega), if_neg (by omega), List.getElem?_set] at this
  simp only [nth, List.getD, this];simp [zeros]
 have cn : ((ndBytes x).drop 1).take (nth (ndBytes x) 0).toNat = x.name := by
  have hlen : (nth (ndBytes x) 0).toNat = x.name.length := by
   rw [c0];have := u8_val (x.name.length : Int);omega
  rw [hlen]
  apply List.ext_getElem?
  intro k;rw [List.getElem?_take];split
  ·rename_i hk;rw [List.getElem?_drop, low _ (by omega), put_get (by omega), if_pos (by omega)]
   congr 1;omega
  ·rename_i hk;rw [List.getElem?_eq_none (by omega)]
 have num41 : numAt (ndBytes x) 41 = x.size := by
  have a1 : nth (ndBytes x) 41 = u8 (x.size / 256) := by
   rw [e, placesAt_low (by omega) e3 _ h4]
   simp only [nth, List.getD];rw [put_get (by omega), if_pos (by omega), two_u8]
   rfl
  have a2 : nth (ndBytes x) 42 = u8 x.size := by
   rw [e, placesAt_low (by omega) e3 _ h4]
   simp only [nth, List.getD];rw [put_get (by omega), if_pos (by omega), two_u8]
   rfl
  unfold numAt;rw [a1, a2];exact two_num h2 (by omega)
 have hpl : (List.range (need x.size).toNat).map (fun i => numAt (ndBytes x) (43 + 2 * i)) = x.places := by
  have hn : (need x.size).toNat = x.places.length := by omega
  rw [hn]
  apply List.ext_getElem
  ·simp
  ·intro i hi1 hi2;rw [List.getElem_map, List.getElem_range];obtain ⟨b1, b2⟩ := placesAt_get (l := x.places) e3 _ h4 i hi2;rw [← e] at b1 b2;unfold numAt;rw [b1, b2];have hm : x.places[i] = nth x.places i := by simp [nth, hi2]
   have hp : placeOk x.places[i] = true := List.all_eq_true.1 g5 _ (List.getElem_mem hi2);unfold placeOk at hp;simp only [Bool.and_eq_true, decide_eq_true_eq] at hp;rw [hm] at hp ⊢;exact two_num hp.1 hp.2
 unfold nodeOf;rw [cn, num41, hpl]
theorem node_back {x : Nd} (h : ndIs x = true) : nodeRead (ndBytes x) = (x, false, true) := by
 obtain ⟨h1, h2, h3, h4⟩ := ndIs_parts h;have hl := ndBytes_len h;have ho := node_of h;have h0 : (nth (ndBytes x) 0).toNat ≤ 40 := by
  have e : x.name = ((ndBytes x).drop 1).take (nth (ndBytes x) 0).toNat := (congrArg Nd.name ho).symm;have h5 := congrArg List.length e;rw [List.length_take, List.length_drop, hl] at h5;have := (isName_ne h1).2.1;omega
 have hz : ¬ ndBytes x = zeros 64 := fun e => (ndBytes_low h).1 (by rw [e]; rfl)
 unfold nodeRead;rw [if_neg (by omega), if_neg hz, ho, if_pos rfl]
theorem node_free : nodeRead (zeros 64) = (.nil, true, true) := by
 unfold nodeRead;rw [if_neg (by rw [zeros_length]; decide), if_pos rfl]
theorem laid_puts {fl : List Fl} : ∀ (rest : List Fl) (s f : List Int) (w : List Wr) (l' : List Fl), laidF fl s f rest = some (w, l') →
  ∃ ys : List Fl, ys.Sublist l' ∧ w = ys.flatMap laidW ∧ (∀ y ∈ l', y ∈ ys ∨ y ∈ rest ∧ y.put = false) ∧ ∀ y ∈ ys, y.places.length = needN y.data.length := by
 intro rest
 induction rest with
 | nil =>
  intro s f w l' h
  cases h
  exact ⟨[], List.Sublist.refl _, rfl, fun y h => (by cases h), fun y h => (by cases h)⟩
 | cons x xs ih =>
  intro s f w l' h
  cases hx : x.put with
  | false =>
   rw [laidF_no hx] at h;obtain ⟨p, hp, he⟩ := Option.map_eq_some_iff.1 h
   cases he
   obtain ⟨ys, h1, h2, h3, h4⟩ := ih s f p.1 p.2 hp;refine ⟨ys, h1.cons _, h2, fun y hy => ?_, h4⟩;rcases List.mem_cons.1 hy with rfl | hy
   ·exact .inr ⟨by simp, hx⟩
   ·exact (h3 y hy).imp id fun h => ⟨List.mem_cons_of_mem _ h.1, h.2⟩
  | true =>
   by_cases hbad : (findF fl x.name < 0 ∧ s = []) ∨ f.length < needN x.data.length
   ·rw [laidF_bad hx hbad] at h; cases h
   ·rw [laidF_yes hx hbad] at h;obtain ⟨p, hp, he⟩ := Option.map_eq_some_iff.1 h
    cases he
    obtain ⟨ys, h1, h2, h3, h4⟩ := ih _ _ p.1 p.2 hp;refine ⟨laidY fl s f x :: ys, h1.cons_cons _, by rw [List.flatMap_cons, h2], fun y hy => ?_, fun y hy => ?_⟩
    ·rcases List.mem_cons.1 hy with rfl | hy
     ·exact .inl (by simp)
     ·exact (h3 y hy).imp (List.mem_cons_of_mem _) fun h => ⟨List.mem_cons_of_mem _ h.1, h.2⟩
    ·rcases List.mem_cons.1 hy with rfl | hy
     ·show (f.take (needN x.data.length)).length = needN x.data.length;rw [List.length_take];have : ¬ f.length < needN x.data.length := fun h => hbad (.inr h);omega
     ·exact h4 y hy
theorem sectW_pos {b : List UInt8} {l : List Int} : poss (sectW b l l.length) = l := by
 unfold poss sectW;rw [List.map_map]
 apply List.ext_getElem
 ·simp
 ·intro i h1 h2;simp [nth, h2]
theorem laidW_pos {y : Fl} (h : y.places.length = needN y.data.length) : poss (laidW y) = y.places ++ [y.slot] := by
 unfold laidW;rw [← h];show List.map _ (_ ++ _) = _;rw [List.map_append];show poss _ ++ _ = _;rw [sectW_pos];rfl
theorem mem_laidW {y : Fl} (h : y.places.length = needN y.data.length) {u : Wr} (hu : u ∈ laidW y) : u.pos ∈ y.places ∨ u = ⟨y.slot, ndBytes y.nd⟩ := by
 unfold laidW at hu;rcases List.mem_append.1 hu with hu | hu
 ·left;rw [← h] at hu;have : u.pos ∈ poss (sectW y.data y.places y.places.length) := List.mem_map_of_mem hu
  rwa [sectW_pos] at this
 ·exact .inr (List.mem_singleton.1 hu)
theorem over_mem {w : List Wr} (hn : (poss w).Nodup) {x : Wr} (hx : x ∈ w) : ∀ (v : List UInt8), over w x.pos v = x.data := by
 induction w with
 | nil => cases hx
 | cons y w ih =>
  intro v;obtain ⟨h1, h2⟩ := List.nodup_cons.1 (show (y.pos :: poss w).Nodup from hn);show over w x.pos (if y.pos = x.pos then y.data else v) = _;rcases List.mem_cons.1 hx with rfl | hx
  ·rw [if_pos rfl];exact over_out fun u hu e => h1 (e ▸ List.mem_map_of_mem hu)
  ·exact ih h2 hx _
structure Wrt (fl l' ys : List Fl) (w : List Wr) (many : Int) : Prop where
 wl : Wl fl many
 wl' : Wl l' many
 sub : ys.Sublist l'
 w : w = ys.flatMap laidW ++ goneF fl l'
 old : ∀ y ∈ l', y ∈ ys ∨ y ∈ fl
 len : ∀ y ∈ ys, y.places.length = needN y.data.length
 slot : ∀ y ∈ l', (∀ x ∈ fl, x.slot ≠ y.slot ∧ x.name ≠ y.name) ∨ ∃ z ∈ fl, z.name = y.name ∧ z.slot = y.slot
theorem doR_wrt {fl l' : List Fl} {many : Int} {ops : List FOp} {w : List Wr} (hw : Wl fl many) (h : doR fl many ops = (0, w, l')) : (∃ ys, Wrt fl l' ys w many) ∧ w.length ≤ 150 := by
 obtain ⟨h1, h2⟩ := doesL_rel (ops := ops) (begin_rel (many := many) hw.srt fun x hx => (hw.fil x hx).1);have hwl := doR_wl (ops := ops) hw;rw [h] at hwl;unfold doR at h;by_cases h0 : (aftF fl ops).1 = 0
 ·rw [if_neg (c := (aftF fl ops).1 ≠ 0) (fun h => h h0)] at h;have hr := h2 h0
  cases hl : laidF fl (slotsTo fl 40) (freeOf (gnodes fl) many) (aftF fl ops).2 with
  | none => rw [hl] at h; cases h
  | some p =>
   rw [hl] at h;replace h : (if 150 < (p.1 ++ goneF fl p.2).length then (5, [], fl) else (0, p.1 ++ goneF fl p.2, p.2) : Int × List Wr × List Fl) = (0, w, l') := h;split at h
   ·cases h
   ·rename_i hlen
    cases h
    obtain ⟨ys, k1, k2, k3, k4⟩ := laid_puts _ _ _ p.1 p.2 hl;have hb := bare_of hw;obtain ⟨⟨-, -, a3, -, -⟩, -⟩ := laid_wl hw _ _ _ p.1 p.2 hb hr.srt hr.old hr.new hl;refine ⟨⟨ys, hw, hwl, k1, by rw [k2], fun y hy => (k3 y hy).imp id fun h => hr.old y h.1 h.2, k4, fun y hy => (a3 y hy).imp (fun h x hx => ⟨(hb.s _ h.1).2 x hx, ?_⟩) id⟩, by omega⟩
    exact lookF_none.1 (findF_neg.1 h.2) x hx
 ·rw [if_pos h0] at h;exact absurd (congrArg Prod.fst h) h0
theorem mem_goneF {fl l : List Fl} {u : Wr} : u ∈ goneF fl l ↔ ∃ x ∈ fl, (∀ y ∈ l, y.name ≠ x.name) ∧ u = ⟨x.slot, zeros 64⟩ := by
 unfold goneF;constructor
 ·intro h;obtain ⟨x, hx, rfl⟩ := List.mem_map.1 h;obtain ⟨h1, h2⟩ := List.mem_filter.1 hx;exact ⟨x, h1, lookF_none.1 (findF_neg.1 (of_decide_eq_true h2)), rfl⟩
 ·rintro ⟨x, hx, h1, rfl⟩;exact List.mem_map.2 ⟨x, List.mem_filter.2 ⟨hx, decide_eq_true (findF_neg.2 (lookF_none.2 h1))⟩, rfl⟩
theorem Wl.slot_eq {fl : List Fl} {many : Int} (h : Wl fl many) {x y : Fl} (hx : x ∈ fl) (hy : y ∈ fl) (e : x.slot = y.slot) : x.name = y.name := by
 by_cases hn : x.name = y.name
 ·exact hn
 ·exact absurd e (h.apart hx hy hn).1
theorem Wl.name_eq {fl : List Fl} {many : Int} (h : Wl fl many) {x y : Fl} (hx : x ∈ fl) (hy : y ∈ fl) (e : x.name = y.name) : x = y := by
 have h1 := lookF_mem h.srt hx;have h2 := lookF_mem h.srt hy;rw [e, h2] at h1;exact (Option.some.inj h1).symm
theorem Wrt.mem {fl l' ys : List Fl} {w : List Wr} {many : Int} (h : Wrt fl l' ys w many) {u : Wr} (hu : u ∈ w) : (∃ y ∈ ys, u ∈ laidW y ∧ (u.pos ∈ y.places ∨ u = ⟨y.slot, ndBytes y.nd⟩)) ∨ ∃ x ∈ fl, (∀ y ∈ l', y.name ≠ x.name) ∧ u = ⟨x.slot, zeros 64⟩ := by
 rw [h.w] at hu;rcases List.mem_append.1 hu with hu | hu
 ·obtain ⟨y, hy, hu⟩ := List.mem_flatMap.1 hu;exact .inl ⟨y, hy, hu, mem_laidW (h.len y hy) hu⟩
 ·exact .inr (mem_goneF.1 hu)
theorem Wrt.nodup {fl l' ys : List Fl} {w : List Wr} {many : Int} (h : Wrt fl l' ys w many) : (poss w).Nodup := by
 rw [h.w];show (List.map _ (_ ++ _)).Nodup;rw [List.map_append, List.map_flatMap];have hys : ∀ y ∈ ys, y ∈ l' := fun y hy => h.sub.subset hy;refine List.nodup_append.2 ⟨?_, ?_, fun a ha b hb e => ?_⟩
 ·unfold List.Nodup;rw [List.pairwise_flatMap];refine ⟨fun y hy => ?_, ?_⟩
  ·show (poss (laidW y)).Nodup;rw [laidW_pos (h.len y hy)];refine List.nodup_append.2 ⟨(ndIs_out (h.wl'.nd (hys y hy))).2.2.2.2.2, by simp, fun a ha b hb e => ?_⟩
   have h1 := (h.wl'.rng (hys y hy) a ha).1;have h2 := (h.wl'.fil y (hys y hy)).2.2.2;rw [List.mem_singleton.1 hb] at e;omega
  ·have hap : ys.Pairwise fun a b : Fl => a.name ≠ b.name := List.Pairwise.imp (R := fun a b : Fl => a.name < b.name) (fun {a b} hab e => by rw [e] at hab; exact List.lt_irrefl _ hab) (List.Pairwise.sublist h.sub h.wl'.srt)
   refine List.Pairwise.imp_of_mem (fun {a b} ha hb hab => ?_) hap;intro p hp q hq e;replace hp : p ∈ poss (laidW a) := hp;replace hq : q ∈ poss (laidW b) := hq;rw [laidW_pos (h.len a ha)] at hp;rw [laidW_pos (h.len b hb)] at hq;have hA := h.wl'.apart (hys a ha) (hys b hb) hab;have ra := h.wl'.rng (hys a ha);have rb := h.wl'.rng (hys b hb);have sa := (h.wl'.fil a (hys a ha)).2.2.2;have sb := (h.wl'.fil b (hys b hb)).2.2.2;subst e;rcases List.mem_append.1 hp with hp | hp <;> rcases List.mem_append.1 hq with hq | hq
   ·exact hA.2 p hp hq
   ·rw [List.mem_singleton.1 hq] at hp;have := (ra _ hp).1;omega
   ·rw [List.mem_singleton.1 hp] at hq;have := (rb _ hq).1;omega
   ·rw [List.mem_singleton] at hp hq;exact hA.1 (hp.symm.trans hq)
 ·unfold goneF;rw [List.map_map];exact List.Nodup.sublist ((List.filter_sublist).map _) h.wl.slots
 ·subst e;obtain ⟨y, hy, ha⟩ := List.mem_flatMap.1 ha;obtain ⟨u, hu, rfl⟩ := List.mem_map.1 hb;obtain ⟨x, hx, h1, rfl⟩ := mem_goneF.1 hu;replace ha : x.slot ∈ poss (laidW y) := ha;rw [laidW_pos (h.len y hy)] at ha;have hx40 := (h.wl.fil x hx).2.2.2;rcases List.mem_append.1 ha with ha | ha
  ·have := (h.wl'.rng (hys y hy) _ ha).1;omega
  ·rw [List.mem_singleton] at ha;rcases h.slot y (hys y hy) with k | ⟨z, hz, k1, k2⟩
   ·exact (k x hx).1 ha
   ·have h3 := h.wl.slot_eq hx hz (ha.trans k2.symm);exact h1 y (hys y hy) (by rw [h3, k1])
theorem Wrt.fits {fl l' ys : List Fl} {w : List Wr} {many : Int} (h : Wrt fl l' ys w many) (hm : 41 ≤ many) : ∀ u ∈ w, 0 ≤ u.pos ∧ u.pos < many ∧ u.data.length = 64 := by
 intro u hu;rcases h.mem hu with ⟨y, hy, h0, h1⟩ | ⟨x, hx, -, rfl⟩
 ·have hy' := h.sub.subset hy;rcases h1 with h1 | rfl
  ·have h2 := h.wl'.rng hy' _ h1;refine ⟨by omega, h2.2, ?_⟩
   unfold laidW at h0;rcases List.mem_append.1 h0 with h0 | h0
   ·obtain ⟨k, -, rfl⟩ := List.mem_map.1 h0;exact sect_length _
   ·rw [List.mem_singleton.1 h0];exact ndBytes_len (h.wl'.nd hy')
  ·have h3 := (h.wl'.fil y hy').2.2;exact ⟨h3.1, by show y.slot < many; omega, ndBytes_len (h.wl'.nd hy')⟩
 ·have h3 := (h.wl.fil x hx).2.2;exact ⟨h3.1, by show x.slot < many; omega, zeros_length _⟩
theorem nodup_take {w : List Wr} (h : (poss w).Nodup) {k : Nat} (hk : k < w.length) : (nth w k).pos ∉ poss (w.take k) := by
 intro hp;have e : w = w.take k ++ nth w k :: w.drop (k + 1) := by rw [← drop_cons hk, List.take_append_drop]
 rw [e] at h;have h2 : (poss (w.take k) ++ poss (nth w k :: w.drop (k + 1))).Nodup := by
  have : poss (w.take k ++ nth w k :: w.drop (k + 1)) = poss (w.take k) ++ poss (nth w k :: w.drop (k + 1)) := by unfold poss; rw [List.map_append]
  rw [← this]; exact h
 exact (List.nodup_append.1 h2).2.2 _ hp _ (List.mem_cons_self) rfl
theorem wrong_zero {d : Dk} {w : List Wr} (h1 : (poss w).Nodup) (h2 : ∀ u ∈ w, 0 ≤ u.pos ∧ u.pos < d.many ∧ u.data.length = 64) (h3 : w.length ≤ 150) : d.wrong w = 0 := by
 unfold Dk.wrong;have : ¬ (List.range w.length).any (bad d w) = true := by
  intro h;obtain ⟨k, hk, hb⟩ := List.any_eq_true.1 h;have hk := List.mem_range.1 hk;obtain ⟨a1, a2, a3⟩ := h2 _ (nth_mem hk);have a4 := nodup_take h1 hk;unfold bad at hb;simp [a3, a4] at hb;omega
 rw [if_neg this, if_neg (by omega)]
structure On (c : Int → List UInt8) (fl : List Fl) : Prop where
 node : ∀ x ∈ fl, nodeRead (c x.slot) = (x.nd, false, true)
 free : ∀ k : Int, 0 ≤ k → k < 40 → (∀ x ∈ fl, x.slot ≠ k) → (nodeRead (c k)).2 = (true, true)
 data : ∀ x ∈ fl, (x.places.flatMap c).take x.size.toNat = x.data
theorem sect_join {b : List UInt8} : ∀ n : Nat, (List.range n).flatMap (fun j => sect (b.drop (64 * j))) = b.take (64 * n) ++ zeros (64 * n - b.length) := by
 intro n
 induction n with
 | zero => simp [zeros]
 | succ n ih =>
  rw [List.range_succ, List.flatMap_append, ih, List.flatMap_singleton];unfold sect;rw [List.length_drop];by_cases h : 64 * n ≤ b.length
  ·have e1 : 64 * n - b.length = 0 := by omega
   have e2 : 64 - (b.length - 64 * n) = 64 * (n + 1) - b.length := by omega
   have e3 : b.take (64 * (n + 1)) = b.take (64 * n) ++ (b.drop (64 * n)).take 64 := by rw [show 64 * (n + 1) = 64 * n + 64 by omega, List.take_add]
   rw [e1, e2, e3];simp [zeros]
  ·have e1 : b.drop (64 * n) = [] := List.drop_eq_nil_of_le (by omega)
   have e2 : 64 - (b.length - 64 * n) = 64 := by omega
   have e3 : b.take (64 * (n + 1)) = b := List.take_of_length_le (by omega)
   have e4 : b.take (64 * n) = b := List.take_of_length_le (by omega)
   rw [e1, e2, e3, e4, List.append_assoc];congr 1;simp only [zeros, List.take_nil, List.nil_append, List.replicate_append_replicate];congr 1;omega
theorem needN_ge {n : Nat} : n ≤ 64 * needN n := by
 have h1 := (need_nat (n := n)).1;have h2 : (n : Int) ≤ 64 * need n := need_64 (Int.natCast_nonneg n);omega
theorem laid_data {w : List Wr} (hn : (poss w).Nodup) {y : Fl} (hl : y.places.length = needN y.data.length) (hw : ∀ u ∈ laidW y, u ∈ w) {c : Int → List UInt8} :
  (y.places.flatMap fun i => over w i (c i)).take y.data.length = y.data := by
 have h1 : y.places = (List.range (needN y.data.length)).map (nth y.places) := by
  rw [← hl]
  apply List.ext_getElem
  ·simp
  ·intro i h1 h2;simp [nth, h1]
 have h2 : (y.places.flatMap fun i => over w i (c i)) = (List.range (needN y.data.length)).flatMap fun j => sect (y.data.drop (64 * j)) := by
  conv => lhs; rw [h1]
  rw [List.flatMap_map];have h3 : ∀ j ∈ List.range (needN y.data.length), over w (nth y.places j) (c (nth y.places j)) = sect (y.data.drop (64 * j)) := by
   intro j hj;have hm : (⟨nth y.places j, sect (y.data.drop (64 * j))⟩ : Wr) ∈ w := hw _ (List.mem_append.2 (.inl (List.mem_map.2 ⟨j, hj, rfl⟩)));exact over_mem hn hm _
  rw [List.flatMap_def, List.flatMap_def, List.map_congr_left h3]
 rw [h2, sect_join];have := needN_ge (n := y.data.length);rw [List.take_of_length_le (l := y.data) (by omega), List.take_append_of_le_length (Nat.le_refl _), List.take_of_length_le (Nat.le_refl _)]
theorem Wrt.on {fl l' ys : List Fl} {w : List Wr} {many : Int} (h : Wrt fl l' ys w many) {c : Int → List UInt8} (ho : On c fl) : On (fun i => over w i (c i)) l' := by
 have hn := h.nodup;have hys : ∀ y ∈ ys, y ∈ l' := fun y hy => h.sub.subset hy;have hin : ∀ y ∈ ys, ∀ u ∈ laidW y, u ∈ w := fun y hy u hu => by rw [h.w]; exact List.mem_append.2 (.inl (List.mem_flatMap.2 ⟨y, hy, hu⟩))
 have hstay : ∀ y ∈ l', y ∉ ys → ∀ u ∈ w, u.pos ≠ y.slot ∧ u.pos ∉ y.places := by
  intro y hy hny u hu;have hyf : y ∈ fl := (h.old y hy).elim (fun e => absurd e hny) id;have hr := h.wl'.rng hy;have hs := (h.wl'.fil y hy).2.2;rcases h.mem hu with ⟨z, hz, -, h1⟩ | ⟨x, hx, h1, rfl⟩
  ·have hne : z.name ≠ y.name := fun e => hny (by rw [← h.wl'.name_eq (hys z hz) hy e]; exact hz)
   have hA := h.wl'.apart (hys z hz) hy hne;have hzs := (h.wl'.fil z (hys z hz)).2.2;have hzr := h.wl'.rng (hys z hz);rcases h1 with h1 | rfl
   ·have := (hzr _ h1).1;exact ⟨by omega, hA.2 _ h1⟩
   ·exact ⟨hA.1, fun e => by have := (hr _ e).1; have : 40 ≤ z.slot := this; omega⟩
  ·have hxs := (h.wl.fil x hx).2.2;refine ⟨fun e => h1 y hy ?_, fun e => by have := (hr _ e).1; have : 40 ≤ x.slot := this; omega⟩
   exact (h.wl.slot_eq hx hyf e).symm
 refine ⟨fun y hy => ?_, fun k hk0 hk1 hk => ?_, fun y hy => ?_⟩
 ·by_cases hyy : y ∈ ys
  ·have hm : (⟨y.slot, ndBytes y.nd⟩ : Wr) ∈ w := hin y hyy _ (List.mem_append.2 (.inr (List.mem_singleton.2 rfl)));show nodeRead (over w y.slot (c y.slot)) = _;rw [over_mem hn hm];exact node_back (h.wl'.nd hy)
  ·show nodeRead (over w y.slot (c y.slot)) = _;rw [over_out fun u hu => (hstay y hy hyy u hu).1];exact ho.node y ((h.old y hy).elim (fun e => absurd e hyy) id)
 ·show (nodeRead (over w k (c k))).2 = _;by_cases hg : ∃ u ∈ w, u.pos = k
  ·obtain ⟨u, hu, hp⟩ := hg;rcases h.mem hu with ⟨z, hz, -, h1⟩ | ⟨x, hx, h1, e⟩
   ·rcases h1 with h1 | e
    ·have := (h.wl'.rng (hys z hz) _ h1).1;omega
    ·rw [e] at hp;exact absurd hp (hk z (hys z hz))
   ·have := over_mem hn hu (c k);rw [hp] at this;rw [this, e];show (nodeRead (zeros 64)).2 = _;rw [node_free]
  ·rw [over_out fun u hu e => hg ⟨u, hu, e⟩];refine ho.free k hk0 hk1 fun x hx e => ?_;by_cases hgone : ∀ y ∈ l', y.name ≠ x.name
   ·have hm : (⟨x.slot, zeros 64⟩ : Wr) ∈ w := by rw [h.w]; exact List.mem_append.2 (.inr (mem_goneF.2 ⟨x, hx, hgone, rfl⟩))
    exact hg ⟨_, hm, e⟩
   ·refine hgone fun y hy e2 => ?_;rcases h.slot y hy with h3 | ⟨z, hz, h3, h4⟩
    ·exact (h3 x hx).2 e2.symm
    ·have : z = x := h.wl.name_eq hz hx (h3.trans e2);rw [this] at h4;exact hk y hy (h4.symm.trans e)
 ·by_cases hyy : y ∈ ys
  ·have e : y.size.toNat = y.data.length := by rw [(h.wl'.fil y hy).2.1]; exact Int.toNat_natCast _
   rw [e];exact laid_data hn (h.len y hyy) (hin y hyy)
  ·have e : (y.places.flatMap fun i => over w i (c i)) = y.places.flatMap c := by
    have h3 : ∀ i ∈ y.places, over w i (c i) = c i := fun i hi => over_out fun u hu e => (hstay y hy hyy u hu).2 (e ▸ hi);rw [List.flatMap_def, List.flatMap_def, List.map_congr_left h3]
   rw [e];exact ho.data y ((h.old y hy).elim (fun e => absurd e hyy) id)
theorem scan_on {d : Dk} {c : Int → List UInt8} {fl : List Fl} (hc : ∀ i, 0 ≤ i → i < d.many → d.jread i = c i) (hm : 41 ≤ d.many) (hw : Wl fl d.many) (ho : On c fl) : ∀ n : Nat, n ≤ 40 →
  ∃ l, scanTo d n = some l ∧ ∀ y, y ∈ l ↔ ∃ x ∈ fl, x.slot < n ∧ y = { x with data := [] } := by
 intro n
 induction n with
 | zero =>
  intro _;refine ⟨[], rfl, fun y => ⟨fun h => (by cases h), ?_⟩⟩
  rintro ⟨x, hx, h1, -⟩;have := (hw.fil x hx).2.2.1;omega
 | succ n ih =>
  intro hn;obtain ⟨l, h1, h2⟩ := ih (by omega)
  have hj : d.jread n = c n := hc n (Int.natCast_nonneg n) (by omega)
  have e : scanTo d (n + 1) = if (nodeRead (c n)).2.2 = false then none else if (nodeRead (c n)).2.1 then some l else some (l ++ [⟨n, (nodeRead (c n)).1.name, (nodeRead (c n)).1.size, (nodeRead (c n)).1.places, [], false⟩]) := by
   rw [scanTo, h1, hj]; rfl
  by_cases hx : ∃ x ∈ fl, x.slot = n
  ·obtain ⟨x, hx, hs⟩ := hx;have h3 := ho.node x hx;rw [hs] at h3;rw [h3] at e;refine ⟨l ++ [⟨n, x.name, x.size, x.places, [], false⟩], (by rw [e]; rfl), fun y => ?_⟩
   have hxp := (hw.fil x hx).1;have hxe : (⟨n, x.name, x.size, x.places, [], false⟩ : Fl) = { x with data := [] } := by rw [← hs, ← hxp]
   rw [List.mem_append, List.mem_singleton, h2, hxe];constructor
   ·rintro (⟨z, hz, k1, k2⟩ | k)
    ·exact ⟨z, hz, by omega, k2⟩
    ·exact ⟨x, hx, by omega, k⟩
   ·rintro ⟨z, hz, k1, k2⟩;by_cases hzn : z.slot = n
    ·have := hw.name_eq hz hx (hw.slot_eq hz hx (hzn.trans hs.symm));rw [this] at k2;exact .inr k2
    ·exact .inl ⟨z, hz, by omega, k2⟩
  ·have h3 := ho.free n (Int.natCast_nonneg n) (by omega) fun x hx' e => hx ⟨x, hx', e⟩
   rw [h3] at e;refine ⟨l, (by rw [e]; rfl), fun y => ?_⟩
   rw [h2];constructor
   ·rintro ⟨z, hz, k1, k2⟩;exact ⟨z, hz, by omega, k2⟩
   ·rintro ⟨z, hz, k1, k2⟩;have : z.slot ≠ n := fun e => hx ⟨z, hz, e⟩;exact ⟨z, hz, by omega, k2⟩
theorem files_on {d : Dk} {c : Int → List UInt8} {fl : List Fl} (hc : ∀ i, 0 ≤ i → i < d.many → d.jread i = c i) (hm : 41 ≤ d.many) (hw : Wl fl d.many) (ho : On c fl) : filesD d = (0, fl) := by
 obtain ⟨l, h1, h2⟩ := scan_on hc hm hw ho 40 (Nat.le_refl _);have hsl := scan_all h1;have hfill : ∀ x ∈ fl, fillF d { x with data := [] } = x := by
  intro x hx;have h3 : held d x.places = x.places.flatMap c := by
   unfold held;have h4 : ∀ i ∈ x.places, d.jread i = c i := fun i hi => hc i (by have := (hw.rng hx i hi).1; omega) (hw.rng hx i hi).2
   rw [List.flatMap_def, List.flatMap_def, List.map_congr_left h4]
  show ({ x with data := (held d x.places).take x.size.toNat } : Fl) = x;rw [h3, ho.data x hx]
 have hmem : ∀ y, y ∈ l.map (fillF d) ↔ y ∈ fl := by
  intro y;rw [List.mem_map];constructor
  ·rintro ⟨z, hz, rfl⟩;obtain ⟨x, hx, -, rfl⟩ := (h2 z).1 hz;rw [hfill x hx];exact hx
  ·intro hy;exact ⟨{ y with data := [] }, (h2 _).2 ⟨y, hy, (hw.fil y hy).2.2.2, rfl⟩, hfill y hy⟩
 have hnd1 : (l.map (fillF d)).Nodup := List.pairwise_map.2 (List.Pairwise.imp (R := fun a b : Fl => a.slot < b.slot) (fun {a b} hab e => by
  have h5 : (fillF d a).slot = (fillF d b).slot := congrArg Fl.slot e;have h6 : a.slot = b.slot := h5;omega) hsl.2)
 have hnd2 : fl.Nodup := List.Pairwise.imp (R := fun a b : Fl => a.name < b.name) (fun {a b} hab e => by rw [e] at hab; exact List.lt_irrefl _ hab) hw.srt
 have hp : (l.map (fillF d)).Perm fl := (List.perm_ext_iff_of_nodup hnd1 hnd2).2 hmem;have hroom : roomIs (nodesOf l) d.many = true := by
  have e : nodesOf l = nodesOf (l.map (fillF d)) := by unfold nodesOf; rw [List.map_map]; rfl
  rw [e];refine room_mk ((hp.map _).nodup_iff.2 hw.srt.nodup) (fun x hx => (hw.fil x ((hmem x).1 hx)).2.2) (fun x hx => hw.nd ((hmem x).1 hx)) (fun x hx => hw.rng ((hmem x).1 hx)) ?_ (wl_many hw);refine (List.Perm.pairwise_iff (fun {x y} h => ApartF.symm h) hp).2 ?_;exact List.Pairwise.imp_of_mem (R := fun a b : Fl => a.name < b.name) (fun {a b} ha hb hab => hw.apart ha hb fun e => by rw [e] at hab; exact List.lt_irrefl _ hab) hw.srt
 unfold filesD;rw [if_neg (by omega), h1]
 show (if roomIs (nodesOf l) d.many then (0, sortF (l.map (fillF d))) else (13, [])) = _;rw [if_pos hroom, sortF_perm hw.srt hp]
structure Sd (d : Dk) (fl : List Fl) (c : Int → List UInt8) : Prop where
 good : Good d c
 wl : Wl fl d.many
 on : On c fl
 big : 41 ≤ d.many
theorem doR_err {fl : List Fl} {many : Int} {ops : List FOp} (h : (doR fl many ops).1 ≠ 0) : (doR fl many ops).2.2 = fl := by
 unfold doR at h ⊢;split
 ·rfl
 ·rename_i h0;rw [if_neg h0] at h;split
  ·rfl
  ·split
   ·rfl
   ·rename_i hl h9;rw [hl] at h;exact absurd (by show (if 150 < _ then _ else _ : Int × List Wr × List Fl).1 = 0; rw [if_neg h9]) h
theorem do_sd {d : Dk} {fl : List Fl} {c : Int → List UInt8} {ops : List FOp} (h : Sd d fl c) :
  (doD d fl ops).1 = (doR fl d.many ops).1 ∧ (doD d fl ops).2.2 = (doR fl d.many ops).2.2 ∧ (doD d fl ops).2.1.many = d.many ∧ ((doR fl d.many ops).1 ≠ 0 → (doD d fl ops).2.1 = d) ∧ ∃ c', Sd (doD d fl ops).2.1 (doD d fl ops).2.2 c' := by
 have e := doP_eq (ops := ops) h.wl;unfold doD;rw [e];by_cases h0 : (doR fl d.many ops).1 = 0
 ·rw [if_neg (fun k => k h0)];obtain ⟨w, l', hr⟩ : ∃ w l', doR fl d.many ops = (0, w, l') := ⟨_, _, by rw [← h0]⟩
  obtain ⟨⟨ys, hw⟩, hlen⟩ := doR_wrt h.wl hr;have hz : d.wrong w = 0 := wrong_zero hw.nodup (hw.fits h.big) hlen;have hcm : (d.commit w).1 = 0 ∧ Good (d.commit w).2 (fun i => over w i (c i)) ∧ (d.commit w).2.lasts.length = d.lasts.length := by
   by_cases hne : w = []
   ·rw [hne, commit_nil];exact ⟨rfl, h.good, rfl⟩
   ·exact good_commit h.good hz hne
  have hmany := Dk.many_eq hcm.2.2;rw [hr];show (if (d.commit w).1 ≠ 0 then _ else _ : Int × Dk × List Fl).1 = 0 ∧ (if (d.commit w).1 ≠ 0 then _ else _ : Int × Dk × List Fl).2.2 = l' ∧ (if (d.commit w).1 ≠ 0 then _ else _ : Int × Dk × List Fl).2.1.many = d.many ∧ ((0 : Int) ≠ 0 → _) ∧ ∃ c', Sd (if (d.commit w).1 ≠ 0 then _ else _ : Int × Dk × List Fl).2.1 (if (d.commit w).1 ≠ 0 then _ else _ : Int × Dk × List Fl).2.2 c';rw [if_neg (fun k => k hcm.1)];exact ⟨rfl, rfl, hmany, fun k => absurd rfl k, _, hcm.2.1, by show Wl l' (d.commit w).2.many; rw [hmany]; exact hw.wl', hw.on h.on, by show 41 ≤ (d.commit w).2.many; rw [hmany]; exact h.big⟩
 ·rw [if_pos h0];exact ⟨rfl, (doR_err h0).symm, rfl, fun _ => rfl, c, h⟩
theorem mount_sd {d : Dk} {fl : List Fl} {c : Int → List UInt8} (h : Sd d fl c) : mountD d = (0, d, fl) := by
 have e := good_open h.good;have e2 := files_on (fun i h0 h1 => good_read h.good h0 h1) h.big h.wl h.on;unfold mountD;rw [e];show (if (0 : Int) ≠ 0 then _ else ((filesD d).1, d, (filesD d).2)) = _;rw [if_neg (fun k => k rfl), e2]
theorem sect_nil : sect [] = zeros 64 := by simp [sect]
theorem fmt_sd {p : Nat} (h : 41 ≤ p ∧ p ≤ 1000) : Sd (fmtD p) [] (fun _ => sect []) ∧ (fmtD p).many = p := by
 obtain ⟨h1, h2, h3⟩ := new_good (n := 157 + p) (by omega)
 have hm : (Dk.new (157 + p)).format.2.many = p := by unfold Dk.many; rw [h3]; omega
 have hm0 : ¬ (Dk.new (157 + p)).many < 41 := by unfold Dk.many; rw [new_len]; omega
 have e : fmtD p = (Dk.new (157 + p)).format.2 := by unfold fmtD; rw [if_neg hm0]
 rw [e];refine ⟨⟨h2, ?_, ⟨fun x h => (by cases h), fun k _ _ _ => ?_, fun x h => (by cases h)⟩, by omega⟩, hm⟩
 ·exact wl_mk List.Pairwise.nil (fun x h => (by cases h)) (fun x h => (by cases h)) (fun x h => (by cases h)) List.Pairwise.nil (by omega)
 ·show (nodeRead (sect [])).2 = _;rw [sect_nil, node_free]
end Go.VM
end
section
namespace Go.VM
open Go.Proofs
set_option maxRecDepth 4000
theorem lands_len {d : Dk} {l : List Wr} : (d.lands l).2.lasts.length = d.lasts.length := by
 unfold Dk.lands;split
 ·rw [Dk.writes_len, Dk.writes_len]
 ·exact Dk.writes_len
theorem commit_len {d : Dk} {l : List Wr} : (d.commit l).2.lasts.length = d.lasts.length := by
 unfold Dk.commit;split
 ·rfl
 ·split
  ·exact Dk.writes_len
  ·split
   ·rw [Dk.writes_len, Dk.writes_len]
   ·rw [lands_len, Dk.writes_len, Dk.writes_len]
theorem openD_len {d : Dk} : d.openD.2.lasts.length = d.lasts.length := by
 unfold Dk.openD;split
 ·rfl
 ·split
  ·rfl
  ·split
   ·rfl
   ·split
    ·rfl
    ·split
     ·exact lands_len
     ·rfl
theorem commit_many {d : Dk} {l : List Wr} : (d.commit l).2.many = d.many := Dk.many_eq commit_len
theorem openD_many {d : Dk} : d.openD.2.many = d.many := Dk.many_eq openD_len
structure Sr (d : Dk) (fl : List Fl) (c : Nat → List UInt8) : Prop where
 rest : Rest c d
 wl : Wl fl d.many
 on : On (fun i => c i.toNat) fl
 big : 41 ≤ d.many
end Go.VM
end
section
namespace Go.VM
open Go.Proofs
set_option maxRecDepth 4000
structure Few (ns : List (List UInt8)) (fl : List Fl) : Prop where
 name : ∀ x ∈ fl, x.name ∈ ns
 data : ∀ x ∈ fl, x.data.length ≤ 300
end Go.VM
end
