/- Chapter 5: the program's files of a disk. No condition. -/
import Derived.Test.YtmahmajoelmmeaaGreatFk
namespace Go.VM
open Go.Proofs
set_option maxRecDepth 4000
attribute [-simp] Int.not_lt Int.not_le Nat.not_lt Nat.not_le
def scanTo (d : Dk) : Nat → Option (List Fl)
 | 0 => some []
 | k + 1 => (scanTo d k).bind fun l => if (nodeRead (d.jread k)).2.2 = false then none else if (nodeRead (d.jread k)).2.1 then some l else some (l ++ [⟨k, (nodeRead (d.jread k)).1.name, (nodeRead (d.jread k)).1.size, (nodeRead (d.jread k)).1.places, [], false⟩])
def fillF (d : Dk) (x : Fl) : Fl := { x with data := (held d x.places).take x.size.toNat }
def filesD (d : Dk) : Int × List Fl :=
 if d.many < 41 then (13, []) else match scanTo d 40 with
  | none => (13, [])
  | some l => if roomIs (nodesOf l) d.many then (0, sortF (l.map (fillF d))) else (13, [])
def mountD (d : Dk) : Int × Dk × List Fl := if d.openD.1 ≠ 0 then (d.openD.1, d.openD.2, []) else ((filesD d.openD.2).1, d.openD.2, (filesD d.openD.2).2)
theorem scan_none {d : Dk} {k : Nat} (h : scanTo d k = none) : ∀ n, k ≤ n → scanTo d n = none := by
 intro n hn
 induction n with
 | zero => rw [Nat.le_zero.1 hn] at h; exact h
 | succ n ih =>
  by_cases hk : k = n + 1
  ·rw [← hk]; exact h
  ·rw [scanTo, ih (by omega)]; rfl
theorem fs_Format {S : St} {id n : Nat} {d : Dk} {Q : LV → St → Prop} (hI : IsD S id d) (hw : Ok d (n + 3000))
  (h : ∀ S', IsD S' id (if d.many < 41 then d else d.format.2) → Mod S S' id → Q (.d (.int .i64 (if d.many < 41 then 5 else d.format.1))) S') : SQ cf 31 [.ptr id 0] S Q := by
 refine S_intro Tryz.func31 rfl rfl (Nat.le_of_ble_eq_true rfl) ?_;simp;refine jour_Many hI hw.wf.many ?_;simp;refine f_intro (fun j1 => ?_) (fun j1 => ?_)
 ·rw [if_pos j1, if_pos j1] at h;simp;exact h _ hI (Mod.refl _ _)
 ·rw [if_neg j1, if_neg j1] at h;simp;refine jour_Format hI hw fun S' h1 h2 => ?_;simp;exact h S' h1 h2
theorem nodeRead_size {b : List UInt8} : (nodeRead b).1.size ≤ 65535 := by
 unfold nodeRead;have hn : (nodeOf b).size ≤ 65535 := by
  show numAt b 41 ≤ 65535;unfold numAt;have h1 := (nth b 41).toNat_lt;have h2 := (nth b (41 + 1)).toNat_lt;omega
 split
 ·show (0 : Int) ≤ 65535; omega
 ·split
  ·show (0 : Int) ≤ 65535; omega
  ·split
   ·exact hn
   ·show (0 : Int) ≤ 65535; omega
theorem SlN.toD {S S' : St} {v : LV} {sz : Nat} {xs : List D} (h : SlN S S' v sz xs) : TQ (toD v) S' fun x S2 => x = .sl xs ∧ (∀ j, j < S.next → S2.obj j = S'.obj j) ∧ S2.next = S'.next ∧ S2.clk = S'.clk ∧ S2.esc = S'.esc := by
 rcases h with ⟨rfl, rfl⟩ | ⟨b, ver, h1, h2, rfl, h4⟩
 ·exact ⟨rfl, fun _ _ => rfl, rfl, rfl, rfl⟩
 ·rw [toD_ar, arrT_cell, TQ_get, h4];simp only [onCells_cells, List.getElem?_cons_zero, onOwn_own, if_true, Nat.zero_add, Nat.le_refl, Bool.false_eq_true, if_false, setT_cell];rw [sub_all (Nat.le_refl _), TQ_bind, TQ_get, h4];exact ⟨rfl, fun j hj => by simp [show ¬ j = b by omega], rfl, rfl, rfl⟩
theorem held_len {d : Dk} {n : Nat} (hw : Ok d n) : ∀ {ps : List Int}, (∀ p ∈ ps, 0 ≤ p ∧ p < d.many) → (held d ps).length = 64 * ps.length := by
 intro ps
 induction ps with
 | nil => intro _; rfl
 | cons p ps ih =>
  intro h;obtain ⟨h1, h2⟩ := h p List.mem_cons_self;have hi := ih fun q hq => h q (List.mem_cons_of_mem _ hq);have hm : d.many = (d.lasts.length : Int) - 157 := by unfold Dk.many at h2 ⊢; omega
  have hj := jread_len hw (i := p.toNat) (by omega)
  rw [Int.toNat_of_nonneg h1] at hj;have e : held d (p :: ps) = d.jread p ++ held d ps := by simp [held]
  rw [e, List.length_append, hj, hi, List.length_cons];omega
theorem need_64 {n : Int} (h : 0 ≤ n) : n ≤ 64 * need n := by
 unfold need;split
 ·omega
 ·rw [Int.tdiv_eq_ediv_of_nonneg (by omega)]; omega
theorem nd_held {d : Dk} {n : Nat} {l : List Fl} {x : Fl} (hw : Ok d n) (hr : roomIs (nodesOf l) d.many = true) (hx : x ∈ l) : (0 ≤ x.size ∧ x.size ≤ 600) ∧ x.size ≤ (held d x.places).length ∧ (∀ p ∈ x.places, 0 ≤ p ∧ p < d.many) ∧ x.places.length ≤ 10 := by
 simp only [roomIs, Bool.and_eq_true, decide_eq_true_eq] at hr;obtain ⟨g1, g2, g3, g4⟩ := hr.2;have hn : x.nd ∈ nodesOf l := List.mem_map.2 ⟨x, hx, rfl⟩;have hnd := g1 _ hn;obtain ⟨q1, q2, q3, q4⟩ := ndIs_parts hnd;have q2 : 0 ≤ x.size := q2;have q3 : x.size ≤ 600 := q3;have hp : ∀ p ∈ x.places, 0 ≤ p ∧ p < d.many := fun p hp => by
  have := g3 p (List.mem_flatMap.2 ⟨_, hn, hp⟩);omega
 have hlen : (x.places.length : Int) = need x.size := by
  simp only [ndIs, nodeIs, Bool.and_eq_true, decide_eq_true_eq] at hnd;exact hnd.1.1.2
 refine ⟨⟨q2, q3⟩, ?_, hp, q4⟩;rw [held_len hw hp];have := need_64 q2;omega
def fillTo (d : Dk) (l : List Fl) (k : Nat) : List Fl := (l.take k).map (fillF d) ++ l.drop k
theorem fillTo_zero {d : Dk} {l : List Fl} : fillTo d l 0 = l := by simp [fillTo]
theorem fillTo_all {d : Dk} {l : List Fl} : fillTo d l l.length = l.map (fillF d) := by simp [fillTo]
theorem fillTo_length {d : Dk} {l : List Fl} {k : Nat} (h : k ≤ l.length) : (fillTo d l k).length = l.length := by simp [fillTo]; omega
theorem fillTo_nth {d : Dk} {l : List Fl} {k : Nat} (h : k < l.length) : nth (fillTo d l k) k = nth l k := by
 have : (fillTo d l k)[k]? = l[k]? := by
  unfold fillTo;rw [List.getElem?_append_right (by simp; omega)]
  simp [List.getElem?_drop, Nat.min_eq_left (Nat.le_of_lt h)]
 simp [nth, this]
theorem fillTo_set {d : Dk} {l : List Fl} {k : Nat} (h : k < l.length) : (fillTo d l k).set k (fillF d (nth l k)) = fillTo d l (k + 1) := by
 unfold fillTo;have hk : ((l.take k).map (fillF d)).length = k := by simp; omega
 rw [List.set_append_right _ _ (by omega), hk, Nat.sub_self, drop_cons h, List.set_cons_zero, takeN h]
 simp
theorem stE_row {α : Type} [Inhabited α] {enc : α → D} {l : Loc} {sz : Nat} {b : List α} {i off : Nat} {ds : List D} {y : α} (hc : off + ds.length ≤ (enc (nth b i)).cells.length) (hp : putCells (enc (nth b i)) off ds = enc y) : stE l sz (rowD enc b) false i off ds = if i < b.length then (setT l sz (rowD enc (b.set i y)) false).bind fun _ => .ret .un else .no := by
 simp only [stE, rowD_get, Bool.false_eq_true, if_false];by_cases h : i < b.length
 ·simp only [h, if_true, hc];rw [hp, rowD_set]
 ·simp [h]
theorem stE_fl {l : Loc} {b : List Fl} {i : Nat} {c : List UInt8} : stE l 5 (rowD flD b) false i 4 [.sl (byD c)] = if i < b.length then (setT l 5 (rowD flD (b.set i { nth b i with data := c })) false).bind fun _ => .ret .un else .no :=
 stE_row (y := { nth b i with data := c }) (by simp) (by simp [flD, putCells])
theorem BySl.close {S S' : St} {v : LV} {b : List UInt8} (h : BySl S S' v b) : TQ (closeV v) S' fun v' S2 => v' = .d (.sl (byD b)) ∧ ∀ j, j < S.next → S2.obj j = S'.obj j := by
 rcases h with ⟨rfl, rfl⟩ | ⟨i, n, h1, h2, rfl, xs, h4, h5, rfl⟩
 ·exact ⟨rfl, fun _ _ => rfl⟩
 ·simp only [closeV];rw [TQ_bind, toD_ar, arrT_arr, TQ_get, h4, onArr_arr];simp [h5];intro j hj;omega
theorem ro_holds {S : St} {fid id n : Nat} {fl : List Fl} {d : Dk} {x : Nd} {K : LV → St → List Nat → List Nat → Prop} (hI : IsD S id d) (hF : IsF S fid id fl) (hw : Ok d n) (hz : 0 ≤ x.size ∧ x.size ≤ (held d x.places).length) (hp : (∀ p ∈ x.places, 0 ≤ p ∧ p < d.many) ∧ x.places.length ≤ 10)
  (hK : K (.d (.sl (byD ((held d x.places).take x.size.toNat)))) S.tick [fid, id] []) : RoD cf 39 [.ptr fid 0, .d (ndD x)] S K := by
 refine RoD_F hI hF rfl (by simp) rfl (fun S0 h0 h1 => fs_holds h0 h1 hw (by omega) hz (fun k => ?_) fun v S' hk hv => ?_) hK
 ·rw [held_len hw fun p hp' => hp.1 p (List.mem_of_mem_take hp'), List.length_take];omega
 ·refine TQ_mono hv.close fun v' S2 h2 => ?_;obtain ⟨rfl, h3⟩ := h2;exact ⟨rfl, (h3 _ h0.1).trans (hk.1 _ h0.1), (h3 _ h1.lt.1).trans (hk.1 _ h1.lt.1)⟩
set_option maxHeartbeats 4000000 in
theorem fs_Mount {S : St} {id n : Nat} {d : Dk} {Q : LV → St → Prop} (hI : IsD S id d) (hw : Ok d (n + 200))
  (h0 : (mountD d).1 ≠ 0 → ∀ S', IsD S' id (mountD d).2.1 → Mod S S' id → Q (.tup [.d .nilP, .d (.int .i64 (mountD d).1)]) S')
  (h : (mountD d).1 = 0 → ∀ S' fid, S.next ≤ fid → IsD S' id (mountD d).2.1 → IsF S' fid id (mountD d).2.2 → Mod S S' id → Q (.tup [.ptr fid 0, .d (.int .i64 0)]) S') : SQ cf 11 [.ptr id 0] S Q := by
 refine S_intro Tryz.func11 rfl rfl (Nat.le_of_ble_eq_true rfl) ?_;have hidd := hI.1;simp;refine jour_Open hI hw fun S1 hI1 hM1 => ?_;have hw1 := hw.openD;simp;refine f_intro (fun j1 => ?_) (fun j1 => ?_)
 ·simp;generalize hd1 : d.openD.2 = d1 at *;have hmd : mountD d = ((filesD d1).1, d1, (filesD d1).2) := by unfold mountD; rw [if_neg (by simpa using j1), hd1]
  rw [hmd] at h h0;refine jour_Many hI1 hw1.wf.many ?_;simp;refine f_intro (fun j2 => ?_) (fun j2 => ?_)
  ·have hf : filesD d1 = (13, []) := by unfold filesD; rw [if_pos j2]
   rw [hf] at h0;simp;exact h0 (by simp) _ hI1 hM1
  ·have hid1 := hI1.1;simp [show id ≤ S1.next by omega]
   have hfil : filesD d1 = match scanTo d1 40 with
     | none => (13, [])
     | some l => if roomIs (nodesOf l) d1.many then (0, sortF (l.map (fillF d1))) else (13, []) := by unfold filesD; rw [if_neg j2]
   generalize hfid : S1.next = fid;have hnx1 := hM1.2.1;refine X_loop (fun (k : Nat) e S' => k ≤ 40 ∧ e 0 = .ptr id 0 ∧ e 5 = .ptr fid 0 ∧ e 22 = .d (.int .i64 k) ∧ (∃ l, scanTo d1 k = some l ∧ (∃ c, S'.obj fid = .cells [.ptr id 0, c] ∧ SlC 5 c (rowD flD l)) ∧ l.length ≤ k ∧ ∀ x ∈ l, x.size ≤ 65535) ∧ IsD S' id d1 ∧ Mod S S' id ∧ fid < S'.next) (fun k => 40 - k) 0 ?_ ?_
   ·simp;refine ⟨⟨[], rfl, ⟨.lit [], by simp [hfid], .inl ⟨rfl, rfl⟩⟩, by simp, by simp⟩, hI1.of (by simp [show ¬ id = S1.next by omega]) (by simp; omega), hM1.alloc, by omega⟩
   ·intro k e S' hk;obtain ⟨i1, i2, i3, i4, ⟨l, i5, ⟨c, i6, i7⟩, i8, i9⟩, i10, i11, i12⟩ := hk;simp [i4];refine f_intro (fun j3 => ?_) (fun j3 => ?_)
    ·have hk : k < 40 := by omega
     simp [i2, i4];refine jour_Read i10 hw1 fun S2 v k1 k2 k3 => ?_;have hnr : ∀ (Q : LV → Prop), Q (readD (nodeRead (d1.jread k))) → VQ cf 35 [.sl (byD (d1.jread k))] Q := fun Q hQ => node_Read hQ;have hsc : scanTo d1 (k + 1) = if (nodeRead (d1.jread k)).2.2 = false then none else if (nodeRead (d1.jread k)).2.1 then some l else some (l ++ [⟨k, (nodeRead (d1.jread k)).1.name, (nodeRead (d1.jread k)).1.size, (nodeRead (d1.jread k)).1.places, [], false⟩]) := by rw [scanTo, i5]; rfl
     have hsz := nodeRead_size (b := d1.jread k);generalize hr : nodeRead (d1.jread k) = r at *;obtain ⟨nd, free, ok⟩ := r;have hnx := k2.2.1;have hc2 : S2.obj fid = .cells [.ptr id 0, c] := (k2.1 fid i12).trans i6;have hck := k2.2.2.1;have aa0 : ¬ id = S2.next := by omega
     have aa1 : ¬ S2.next = id := by omega
     have aa2 : ∀ m, ¬ id = S2.next + m := fun m => by omega
     have aa3 : ∀ m, ¬ S2.next + m = id := fun m => by omega
     have aa4 : ∀ m k, ¬ id = S2.next + m + k := fun m k => by omega
     have aa5 : ∀ m k, ¬ S2.next + m + k = id := fun m k => by omega
     have aa6 : ∀ m k n, ¬ id = S2.next + m + k + n := fun m k n => by omega
     have aa7 : ∀ m k n, ¬ S2.next + m + k + n = id := fun m k n => by omega
     have aa8 : ∀ m k n l, ¬ id = S2.next + m + k + n + l := fun m k n l => by omega
     have aa9 : ∀ m k n l, ¬ S2.next + m + k + n + l = id := fun m k n l => by omega
     have ab0 : ¬ fid = S2.next := by omega
     have ab1 : ¬ S2.next = fid := by omega
     have ab2 : ∀ m, ¬ fid = S2.next + m := fun m => by omega
     have ab3 : ∀ m, ¬ S2.next + m = fid := fun m => by omega
     have ab4 : ∀ m k, ¬ fid = S2.next + m + k := fun m k => by omega
     have ab5 : ∀ m k, ¬ S2.next + m + k = fid := fun m k => by omega
     have ab6 : ∀ m k n, ¬ fid = S2.next + m + k + n := fun m k n => by omega
     have ab7 : ∀ m k n, ¬ S2.next + m + k + n = fid := fun m k n => by omega
     have ab8 : ∀ m k n l, ¬ fid = S2.next + m + k + n + l := fun m k n l => by omega
     have ab9 : ∀ m k n l, ¬ S2.next + m + k + n + l = fid := fun m k n l => by omega
     have hn0 : S.next ≤ fid := by omega
     have hM2 : Mod S S2 id := i11.trans (k2.mod id);have key : VQ cf 35 [.sl (byD (d1.jread k))] = VQ cf 35 [.sl (byD (d1.jread k))] := rfl;have hvx : TQ (toD v) S2 (fun x S' => x = .sl (byD (d1.jread k)) ∧ S' = S2) := by
      rcases k3 with rfl | ⟨rfl, hz⟩
      ·exact ⟨rfl, rfl⟩
      ·rw [hz]; exact ⟨rfl, rfl⟩
     simp;refine TQ_mono hvx fun x S3 hx => ?_;obtain ⟨rfl, rfl⟩ := hx;simp;refine hnr _ ?_;simp [readD, ndD];refine f_intro (fun j4 => ?_) (fun j4 => ?_)
     ·have hsn : scanTo d1 (k + 1) = none := by rw [hsc, if_pos j4]
      have hf : filesD d1 = (13, []) := by rw [hfil, scan_none hsn 40 (by omega)]
      rw [hf] at h0;simp;refine h0 (by simp) _ (k1.of (by simp [aa0]) (by simp; omega)) hM2.alloc
     ·have hsk : ∀ lf, lf = (if free = true then l else l ++ [⟨k, nd.name, nd.size, nd.places, [], false⟩]) → scanTo d1 (k + 1) = some lf ∧ lf.length ≤ k + 1 ∧ ∀ x ∈ lf, x.size ≤ 65535 := by
       rintro lf rfl;rw [hsc, if_neg j4];by_cases hfr : free = true
       ·simp only [hfr, if_true];exact ⟨trivial, by omega, i9⟩
       ·simp only [hfr, if_false, Bool.false_eq_true];refine ⟨trivial, by simp; omega, fun x hx => ?_⟩
        rcases List.mem_append.1 hx with hx | hx
        ·exact i9 x hx
        ·rw [List.mem_singleton.1 hx]; exact hsz
      simp;refine f_intro (fun j5 => ?_) (fun j5 => ?_)
      ·obtain ⟨s1, s2, s3⟩ := hsk _ rfl;rw [if_neg (by simpa using j5)] at s1 s2 s3
       refine X_draw (by decide) ?_
       rcases i7 with ⟨rfl, i7⟩ | ⟨ver, rfl⟩
       ·simp [i2, i3, i4, ab0, ab1, ab4, ab5, hc2, grow_lit0];refine ⟨⟨⟨by decide, .inr (by omega), by decide⟩, .inr (by omega)⟩, k + 1, ⟨by omega, wrap_i64 (by omega) (by omega), ⟨_, s1, .inr ⟨S3.clk + 1200, ?_⟩, s2, s3⟩, k1.of (by simp [startD, aa0, aa4, show ¬ id = fid by omega]) (by simp; omega), hM2.of (fun j hj hji => ?_) (by simp; omega) (by simp) rfl, by omega⟩, by omega⟩
        ·have hl0 : l = [] := List.eq_nil_of_length_eq_zero (by rw [← rowD_length (enc := flD), i7]; rfl)
         subst hl0;rfl
        ·have hjf : ¬ j = fid := by omega
         have w0 : ¬ j = S3.next := by omega
         have w1 : ¬ S3.next = j := by omega
         have w2 : ∀ m, ¬ j = S3.next + m := fun m => by omega
         have w3 : ∀ m, ¬ S3.next + m = j := fun m => by omega
         have w4 : ∀ m k, ¬ j = S3.next + m + k := fun m k => by omega
         have w5 : ∀ m k, ¬ S3.next + m + k = j := fun m k => by omega
         have w6 : ∀ m k n, ¬ j = S3.next + m + k + n := fun m k n => by omega
         have w7 : ∀ m k n, ¬ S3.next + m + k + n = j := fun m k n => by omega
         have w8 : ∀ m k n l, ¬ j = S3.next + m + k + n + l := fun m k n l => by omega
         have w9 : ∀ m k n l, ¬ S3.next + m + k + n + l = j := fun m k n l => by omega
         simp [startD, hjf, w0, w4]
       ·simp [i2, i3, i4, ab0, ab1, ab4, ab5, hc2, grow_ar];refine ⟨⟨by omega, by omega⟩, ⟨⟨by decide, .inr (by omega), by decide⟩, .inr (by omega), by decide⟩, k + 1, ⟨by omega, wrap_i64 (by omega) (by omega), ⟨_, s1, .inr ⟨S3.clk + 1200, ?_⟩, s2, s3⟩, k1.of (by simp [startD, aa0, aa4, show ¬ id = fid by omega]) (by simp; omega), hM2.of (fun j hj hji => ?_) (by simp; omega) (by simp) rfl, by omega⟩, by omega⟩
        ·simp [rowD]; rfl
        ·have hjf : ¬ j = fid := by omega
         have w0 : ¬ j = S3.next := by omega
         have w1 : ¬ S3.next = j := by omega
         have w2 : ∀ m, ¬ j = S3.next + m := fun m => by omega
         have w3 : ∀ m, ¬ S3.next + m = j := fun m => by omega
         have w4 : ∀ m k, ¬ j = S3.next + m + k := fun m k => by omega
         have w5 : ∀ m k, ¬ S3.next + m + k = j := fun m k => by omega
         have w6 : ∀ m k n, ¬ j = S3.next + m + k + n := fun m k n => by omega
         have w7 : ∀ m k n, ¬ S3.next + m + k + n = j := fun m k n => by omega
         have w8 : ∀ m k n l, ¬ j = S3.next + m + k + n + l := fun m k n l => by omega
         have w9 : ∀ m k n l, ¬ S3.next + m + k + n + l = j := fun m k n l => by omega
         simp [startD, hjf, w0, w4]
      ·obtain ⟨s1, s2, s3⟩ := hsk _ rfl;rw [if_pos (by simpa using j5)] at s1 s2 s3
       simp [i2, i3, i4];exact ⟨k + 1, ⟨by omega, wrap_i64 (by omega) (by omega), ⟨l, s1, ⟨c, by simp [ab0, hc2], i7⟩, s2, s3⟩, k1.of (by simp [aa0]) (by simp; omega), hM2.alloc, by omega⟩, by omega⟩
    ·have : k = 40 := by omega
     subst this;have hne2 : id ≠ fid := by omega
     simp [i3];refine fs_nodes ⟨⟨i12, hne2⟩, c, i6, i7⟩ (by omega) fun v S2 k1 k2 => ?_
     have hI3 := i10.kept k1;have hnx := k1.2.1;simp [i2];refine jour_Many hI3 hw1.wf.many ?_;simp;refine TQ_mono k2.toD fun x S3 hx => ?_;obtain ⟨rfl, y1, y2, y3, y4⟩ := hx;simp;refine room_Is (nodes_size fun x hx => by have := i9 x hx; omega) ?_
     simp;have hI4 : IsD S3 id d1 := hI3.of (y1 id (by have := i10.1; omega)) (by have := hI3.1; omega)
     have hM4 : Mod S S3 id := (i11.trans (k1.mod id)).of (fun j hj hji => y1 j (by have := i11.2.1; omega)) (by omega) (by omega) (by rw [y4])
     have h4f : S3.obj fid = .cells [.ptr id 0, c] := by rw [y1 fid i12, k1.1 fid i12]; exact i6
     refine f_intro (fun j4 => ?_) (fun j4 => ?_)
     ·have hf : filesD d1 = (13, []) := by rw [hfil, i5]; simp [j4]
      rw [hf] at h0;simp;exact h0 (by simp) _ hI4 hM4
     ·have j4 : roomIs (nodesOf l) d1.many = true := by simpa using j4
      have hf : filesD d1 = (0, sortF (l.map (fillF d1))) := by rw [hfil, i5]; simp [j4]
      rw [hf] at h;simp [i3, h4f];have hlen : ∀ (Q : LV → St → Prop), Q (.d (.int .i64 l.length)) S3 → TQ (lenT Tryz.prog 69 (fetch fid 1 c)) S3 Q := by
       intro Q hQ;rcases i7 with ⟨rfl, i7⟩ | ⟨ver, rfl⟩
       ·have hl0 : l.length = 0 := by rw [← rowD_length (enc := flD), i7]; rfl
        rw [hl0] at hQ;simpa using hQ
       ·simp;exact fun _ => hQ
      refine hlen _ ?_;simp;refine X_loop (fun (k : Nat) e S' => k ≤ l.length ∧ e 5 = .ptr fid 0 ∧ e 60 = .d (.int .i64 l.length) ∧ e 61 = .d (.int .i64 k) ∧ (∃ c', S'.obj fid = .cells [.ptr id 0, c'] ∧ SlC 5 c' (rowD flD (fillTo d1 l k))) ∧ IsD S' id d1 ∧ Mod S S' id ∧ fid < S'.next) (fun k => l.length - k) 0 ?_ ?_
      ·simp [i3];exact ⟨⟨c, h4f, by rw [fillTo_zero]; exact i7⟩, hI4, hM4, by omega⟩
      ·intro k e5 S5 hk;obtain ⟨b1, b2, b3, b4, ⟨c5, b5, b6⟩, b7, b8, b9⟩ := hk;simp [b3, b4];refine f_intro (fun j5 => ?_) (fun j5 => ?_)
       ·have hk : k < l.length := by omega
        have hfk : k < (fillTo d1 l k).length := by rw [fillTo_length (by omega)]; exact hk
        obtain ⟨w1, w2, w3, w4⟩ := nd_held hw1 j4 (nth_mem hk);rcases b6 with ⟨rfl, b6⟩ | ⟨ver, rfl⟩
        ·have := congrArg List.length b6;rw [rowD_length, fillTo_length (by omega)] at this
         have h00 : ([] : List D).length = 0 := rfl;omega
        simp [b4];refine X_draw (by decide) ?_
        simp [b2, b5, hfk];rw [fillTo_nth hk];refine ro_holds (x := (nth l k).nd) (d := d1) (fl := fillTo d1 l k) (b7.of rfl ?_) ⟨⟨?_, hne2⟩, _, b5, .inr ⟨ver, rfl⟩⟩ hw1 ⟨w1.1, w2⟩ ⟨w3, w4⟩ ?_
        ·have := b7.1; simp [startD]; omega
        ·simp [startD]; omega
        simp [b5, hfk];rw [stE_fl];simp [b5, hfk];simp [b2, b3, b4];have hset : (fillTo d1 l k).set k { nth (fillTo d1 l k) k with data := (held d1 (nth l k).nd.places).take (nth l k).nd.size.toNat } = fillTo d1 l (k + 1) := by
         rw [fillTo_nth hk];exact fillTo_set hk
        rw [hset];refine ⟨⟨by decide, by decide, by decide, by decide⟩, k + 1, ⟨by omega, wrap_i64 (by omega) (by omega), .inr ⟨ver, rfl⟩, b7.of (by simp [startD, hne2]) (by have := b7.1; simp; omega), b8.of (fun j hj hji => ?_) (by simp) (by simp) rfl, by omega⟩, by omega⟩
        simp [startD, show ¬ j = fid by omega]
       ·have : k = l.length := by omega
        subst this;rw [fillTo_all] at b6;simp [b2, b5];have hnames : ((rowD flD (l.map (fillF d1))).map keyK).Nodup := by
         have e : (rowD flD (l.map (fillF d1))).map keyK = namesOf (nodesOf l) := by simp [rowD, keyK, flD, fileK, fillF, namesOf, nodesOf, Fl.nd, Function.comp_def]
         rw [e];simp only [roomIs, Bool.and_eq_true, decide_eq_true_eq] at j4;exact j4.2.2.1
        have hfk : ∀ x ∈ rowD flD (l.map (fillF d1)), fileK x ≠ none := by
         intro x hx;obtain ⟨y, _, rfl⟩ := List.mem_map.1 hx;simp [flD, fileK]
        refine cf_far40 ?_;rcases b6 with ⟨rfl, b6⟩ | ⟨ver, rfl⟩
        ·simp [sortFileF, sortFileT];show Q (.tup [e5 5, .d (.int .i64 0)]) S5;rw [b2];refine h rfl S5 fid (by omega) b7 ⟨⟨b9, hne2⟩, .lit [], b5, .inl ⟨rfl, ?_⟩⟩ b8
         have hz : l.map (fillF d1) = [] := List.eq_nil_of_length_eq_zero (by rw [← rowD_length (enc := flD), b6]; rfl)
         show rowD flD (sortF (l.map (fillF d1))) = [];rw [hz]; simp [sortF, rowD]
        ·simp only [fetch, Bool.false_eq_true, if_false, sortFileF, sortFileT, arrT, setT, T.run, b5, if_true, List.getElem?_cons_succ, List.getElem?_cons_zero];rw [if_pos ⟨trivial, trivial, trivial, by rw [rowD_length, List.length_map]; omega, hfk, hnames⟩]
         simp only [T.bind, T.run, b5];simp [b2];refine h rfl _ fid (by omega) (b7.of (by simp [hne2]) (by simp; exact b7.1)) ⟨⟨by simp; exact b9, hne2⟩, _, by simp; rfl, .inr ⟨ver, ?_⟩⟩ (b8.set (.inr (by omega)))
         have := sort_row (l.map (fillF d1));show LV.own ver 5 ((rowD flD (l.map (fillF d1))).mergeSort leK) false = _;rw [show rowD flD (l.map (fillF d1)) = (l.map (fillF d1)).map flD from rfl, this]
 ·have hmd : mountD d = (d.openD.1, d.openD.2, []) := by unfold mountD; rw [if_pos (by simpa using j1)]
  rw [hmd] at h0;simp;exact h0 j1 _ hI1 hM1
end Go.VM
