/- Chapter 2: a disk that crashes somewhere: what stands on it behind that. No condition. -/
import Derived.Test.YtmahmajoelmmeaaGreatJs
section
namespace Go.VM
open Go.Proofs
set_option maxRecDepth 4000
attribute [-simp] Int.not_lt Int.not_le Nat.not_lt Nat.not_le
def Dk.V (d : Dk) (i : Nat) : List UInt8 := nth d.lasts i
theorem land_part {kp : Nat → Bool} {ws : List Wr} {l : List (List UInt8)} (hp : ∀ w ∈ ws, 0 ≤ w.pos) {i : Nat} (hi : i < l.length) : ∀ n, n ≤ ws.length → nth (land kp ws l n) i = nth l i ∨ ∃ w ∈ ws, w.pos = i ∧ nth (land kp ws l n) i = w.data := by
 intro n
 induction n with
 | zero => intro _; exact .inl rfl
 | succ n ih =>
  intro hn;rw [land_succ];split
  ·have h0 := hp _ (nth_mem (show n < ws.length by omega))
   have hl : i < (land kp ws l n).length := by rw [land_length]; exact hi
   by_cases h : (nth ws n).pos = i
   ·have e : (nth ws n).pos.toNat = i := by omega
    refine .inr ⟨_, nth_mem (show n < ws.length by omega), h, ?_⟩
    rw [e];simp [nth, hl]
   ·have e : (nth ws n).pos.toNat ≠ i := by omega
    have e2 : nth ((land kp ws l n).set (nth ws n).pos.toNat (nth ws n).data) i = nth (land kp ws l n) i := by
     have := List.getElem?_set_ne (a := (nth ws n).data) (l := land kp ws l n) e;simp only [nth, List.getD] at this ⊢;rw [this]
    rw [e2];exact ih (by omega)
  ·exact ih (by omega)
structure Came (d : Dk) (l : List Wr) (r : Int × Dk) : Prop where
 len : r.2.lasts.length = d.lasts.length
 wait : r.2.waits = []
 how : (r.1 = 0 ∧ r.2.down = false ∧ ∀ i, i < d.lasts.length → r.2.V i = over (d.waits ++ l) i (d.V i)) ∨
  (r.1 = 6 ∧ r.2.down = true ∧ ∀ i, i < d.lasts.length → r.2.V i = d.V i ∨ ∃ w ∈ d.waits ++ l, w.pos = i ∧ r.2.V i = w.data)
theorem falls_cases (d : Dk) : (d.falls = (false, { d with ops := d.ops + 1 })) ∨ (d.falls = (true, { d.last (kept d.keep) with down := true })) := by
 unfold Dk.falls;split
 ·exact .inl rfl
 ·exact .inr rfl
theorem came_writes : ∀ {l : List Wr} {d : Dk}, d.down = false → (∀ w ∈ d.waits, Fits d w) → (∀ w ∈ l, Fits d w) → Came d l (d.writes l) := by
 intro l
 induction l with
 | nil =>
  intro d hd hw hl;have hp : ∀ w ∈ d.waits, 0 ≤ w.pos := fun w h => (hw w h).1.1;rcases falls_cases d with hf | hf
  ·have e : d.writes [] = (0, ({ d with ops := d.ops + 1 } : Dk).last fun _ => true) := by
    show d.flush = _;simp [Dk.flush, hd, hf]
   rw [e];refine ⟨land_length, rfl, .inl ⟨rfl, hd, fun i hi => ?_⟩⟩;rw [List.append_nil];show nth (land _ d.waits d.lasts d.waits.length) i = _;rw [land_get hp hi _ (Nat.le_refl _), List.take_length]; rfl
  ·have e : d.writes [] = (6, { d.last (kept d.keep) with down := true }) := by
    show d.flush = _;simp [Dk.flush, hd, hf]
   rw [e];refine ⟨land_length, rfl, .inr ⟨rfl, rfl, fun i hi => ?_⟩⟩;rw [List.append_nil];exact land_part hp hi _ (Nat.le_refl _)
 | cons w l ih =>
  intro d hd hw hl;have hp : ∀ w ∈ d.waits, 0 ≤ w.pos := fun w h => (hw w h).1.1;have hfw := hl w (by simp)
  have hh : d.has w.pos = true := by simp [Dk.has, hfw.1.1, hfw.1.2]
  rcases falls_cases d with hf | hf
  ·have e : d.write w.pos w.data = (0, d.more [w] 1) := by simp [Dk.write, hd, hh, hfw.2, hf, Dk.more]
   rw [Dk.writes_cons, e];simp only [if_true];have := ih (d := d.more [w] 1) hd (fun x hx => by
    rcases List.mem_append.1 hx with h | h
    ·exact hw x h
    ·rw [List.mem_singleton.1 h]; exact hfw) (fun x hx => hl x (by simp [hx]))
   obtain ⟨h1, h2, h3⟩ := this;refine ⟨h1, h2, ?_⟩;have ea : (d.more [w] 1).waits ++ l = d.waits ++ w :: l := by simp [Dk.more]
   rw [ea] at h3;exact h3
  ·have e : d.write w.pos w.data = (6, { d.last (kept d.keep) with down := true }) := by simp [Dk.write, hd, hh, hfw.2, hf]
   rw [Dk.writes_cons, e];simp only;rw [if_neg (by decide)]
   refine ⟨land_length, rfl, .inr ⟨rfl, rfl, fun i hi => ?_⟩⟩;rcases land_part (kp := kept d.keep) hp hi _ (Nat.le_refl _) with h | ⟨x, hx, h1, h2⟩
   ·exact .inl h
   ·exact .inr ⟨x, by simp [hx], h1, h2⟩
theorem read_V {d : Dk} (h : d.waits = []) {i : Nat} (hi : i < d.lasts.length) : d.read i = d.V i := by
 have hh : d.has i = true := by simp [Dk.has]; omega
 rw [Dk.read, if_pos hh, h]; rfl
structure Sett (d : Dk) : Prop where
 wait : d.waits = []
 big : 157 < d.lasts.length ∧ d.lasts.length ≤ 2000
 sign : d.V 0 = sect [97, 112, 115, 116]
def Rest (c : Nat → List UInt8) (d : Dk) : Prop := Sett d ∧ d.V 1 = sect [] ∧ ∀ i, 157 + i < d.lasts.length → d.V (157 + i) = c i
def Mid (l : List Wr) (c : Nat → List UInt8) (d : Dk) : Prop := Sett d ∧ d.V 1 = markB l.length ∧ (∀ w ∈ logOf l, d.V w.pos.toNat = w.data) ∧ ∀ i, 157 + i < d.lasts.length → d.V (157 + i) = c i ∨ d.V (157 + i) = over l i (c i)
theorem logOf_pos {l : List Wr} {w : Wr} (hw : w ∈ logOf l) (h : l.length ≤ 150) : 2 ≤ w.pos ∧ w.pos < 157 := by
 have hll : lists l.length ≤ 5 := by unfold lists; omega
 rcases List.mem_append.1 hw with h | h
 ·obtain ⟨k, hk, rfl⟩ := List.mem_map.1 h;have hk := List.mem_range.1 hk;exact ⟨by show (2 : Int) ≤ 2 + (lists l.length : Int) + (k : Int); omega, by show (2 : Int) + (lists l.length : Int) + (k : Int) < 157; omega⟩
 ·obtain ⟨k, hk, rfl⟩ := List.mem_map.1 h;have hk := List.mem_range.1 hk;exact ⟨by show (2 : Int) ≤ 2 + (k : Int); omega, by show (2 : Int) + (k : Int) < 157; omega⟩
theorem logOf_nth {l : List Wr} {j : Nat} (h : j < (logOf l).length) : (nth (logOf l) j).pos = if j < l.length then 2 + (lists l.length : Int) + (j : Int) else 2 + ((j - l.length : Nat) : Int) := by
 rw [logOf_length] at h;unfold logOf;split
 ·rename_i hj;have : nth (logData l l.length ++ logIdx l (lists l.length)) j = ⟨2 + (lists l.length : Int) + (j : Int), (nth l j).data⟩ := by
   have h1 : j < (logData l l.length).length := by rw [logData_length]; exact hj
   have e : nth (logData l l.length ++ logIdx l (lists l.length)) j = nth (logData l l.length) j := by
    simp only [nth, List.getD, List.getElem?_append_left h1]
   rw [e];simp [logData, nth, hj]
  rw [this]
 ·rename_i hj;have : nth (logData l l.length ++ logIdx l (lists l.length)) j = ⟨2 + ((j - l.length : Nat) : Int), sect (places l (j - l.length))⟩ := by
   have h1 : (logData l l.length).length ≤ j := by rw [logData_length]; omega
   have h2 : j - l.length < lists l.length := by omega
   have e : nth (logData l l.length ++ logIdx l (lists l.length)) j = nth (logIdx l (lists l.length)) (j - l.length) := by
    simp only [nth, List.getD, List.getElem?_append_right h1, logData_length]
   rw [e];simp [logIdx, nth, h2]
  rw [this]
theorem logOf_over {l : List Wr} {w : Wr} {x : List UInt8} (hw : w ∈ logOf l) : over (logOf l) w.pos x = w.data := by
 obtain ⟨k, hk, rfl⟩ := List.getElem_of_mem hw;have e : nth (logOf l) k = (logOf l)[k] := by simp [nth, hk]
 rw [← e];refine over_in hk fun j hj hne => ?_;rw [logOf_nth hj, logOf_nth hk];rw [logOf_length] at hj hk;split <;> split <;> omega
theorem over_const (l : List Wr) (i : Int) : (∀ x, over l i x = x) ∨ ∃ v, ∀ x, over l i x = v := by
 induction l with
 | nil => exact .inl fun x => rfl
 | cons w l ih =>
  have e : ∀ x, over (w :: l) i x = over l i (if w.pos = i then w.data else x) := fun x => rfl;rcases ih with h | ⟨v, h⟩
  ·by_cases hp : w.pos = i
   ·exact .inr ⟨w.data, fun x => by rw [e, h, if_pos hp]⟩
   ·exact .inl fun x => by rw [e, h, if_neg hp]
  ·exact .inr ⟨v, fun x => by rw [e, h]⟩
theorem over_idem {l : List Wr} {i : Int} {x : List UInt8} : over l i (over l i x) = over l i x := by
 rcases over_const l i with h | ⟨v, h⟩
 ·rw [h, h]
 ·rw [h, h]
structure Valid (l : List Wr) (N : Nat) : Prop where
 few : l.length ≤ 150
 each : ∀ k, k < l.length → 0 ≤ (nth l k).pos ∧ 157 + (nth l k).pos < N ∧ (nth l k).data.length = 64
 apart : ∀ j k, j < l.length → k < l.length → j ≠ k → (nth l j).pos ≠ (nth l k).pos
theorem valid_of {d : Dk} {l : List Wr} (hw : d.wrong l = 0) (hb : 157 < d.lasts.length) : Valid l d.lasts.length := by
 obtain ⟨w1, w2⟩ := wrong_ok hw;have hm := many_of hb;refine ⟨w1, fun k hk => ?_, ?_⟩
 ·obtain ⟨a, b, c, _⟩ := w2 k hk;exact ⟨a, by omega, c⟩
 ·have lt : ∀ j k, j < k → k < l.length → (nth l j).pos ≠ (nth l k).pos := fun j k hj hk e => (w2 k hk).2.2.2 ((mem_poss (by omega)).2 ⟨j, hj, e⟩)
  intro j k hj hk hne e;rcases Nat.lt_or_gt_of_ne hne with h | h
  ·exact lt j k h hk e
  ·exact lt k j h hj e.symm
theorem Valid.mem {l : List Wr} {N : Nat} (h : Valid l N) {w : Wr} (hw : w ∈ l) : (0 ≤ w.pos ∧ 157 + w.pos < N) ∧ w.data.length = 64 ∧ ∀ x, over l w.pos x = w.data := by
 obtain ⟨k, hk, rfl⟩ := List.getElem_of_mem hw;have e : nth l k = l[k] := by simp [nth, hk]
 obtain ⟨a, b, c⟩ := h.each k hk;rw [e] at a b c;refine ⟨⟨a, b⟩, c, fun x => ?_⟩;rw [← e];exact over_in hk fun j hj hne => h.apart j k hj hk hne
theorem fits_landing {d : Dk} {l : List Wr} (h : Valid l d.lasts.length) : ∀ w ∈ landing l, Fits d w ∧ ∃ x ∈ l, w.pos = 157 + x.pos ∧ w.data = x.data ∧ 157 ≤ w.pos := by
 intro w hw;obtain ⟨x, hx, rfl⟩ := List.mem_map.1 hw;obtain ⟨⟨a, b⟩, c, _⟩ := h.mem hx;exact ⟨⟨⟨by show (0 : Int) ≤ 157 + x.pos; omega, b⟩, c⟩, x, hx, rfl, rfl, by show (157 : Int) ≤ 157 + x.pos; omega⟩
theorem fits_mark {d : Dk} {b : List UInt8} (hb : 157 < d.lasts.length) (hl : b.length = 64) : ∀ w ∈ [(⟨1, b⟩ : Wr)], Fits d w := by
 intro w hw;rw [List.mem_singleton.1 hw];exact ⟨⟨(by decide : (0 : Int) ≤ 1), by show (1 : Int) < d.lasts.length; omega⟩, hl⟩
theorem fits_log {d : Dk} {l : List Wr} (hb : 157 < d.lasts.length) (h : Valid l d.lasts.length) : ∀ w ∈ logOf l, Fits d w := by
 intro w hw;have hp := logOf_pos hw h.few;refine ⟨⟨by omega, by omega⟩, ?_⟩
 rcases List.mem_append.1 hw with h1 | h1
 ·obtain ⟨k, hk, rfl⟩ := List.mem_map.1 h1;exact (h.each k (List.mem_range.1 hk)).2.2
 ·obtain ⟨k, hk, rfl⟩ := List.mem_map.1 h1;exact sect_length _
theorem mid_lands {l : List Wr} {c : Nat → List UInt8} {d : Dk} (hv : Valid l d.lasts.length) (hm : Mid l c d) (hd : d.down = false) :
  (d.lands (landing l)).2.lasts.length = d.lasts.length ∧ (((d.lands (landing l)).1 = 0 ∧ (d.lands (landing l)).2.down = false ∧ Rest (fun i => over l i (c i)) (d.lands (landing l)).2) ∨ ((d.lands (landing l)).1 = 6 ∧ (Mid l c (d.lands (landing l)).2 ∨ Rest (fun i => over l i (c i)) (d.lands (landing l)).2))) := by
 obtain ⟨hs, hmk, hlg, hpl⟩ := hm;have hb := hs.big;have hcm := came_writes (l := landing l) hd (by rw [hs.wait]; intro w hw; cases hw) (fun w hw => (fits_landing hv w hw).1)
 generalize hr : d.writes (landing l) = r at hcm;obtain ⟨e1, d1⟩ := r;obtain ⟨k1, k2, k3⟩ := hcm;simp only at k1 k2 k3;rw [hs.wait, List.nil_append] at k3;rcases k3 with ⟨rfl, k4, k5⟩ | ⟨rfl, k4, k5⟩
 ·-- all have landed
  have low : ∀ i, i < 157 → d1.V i = d.V i := fun i hi => by
   rw [k5 i (by omega), over_out]
   intro w hw; obtain ⟨_, _, _, _, _, h⟩ := fits_landing hv w hw; omega
  have high : ∀ i, 157 + i < d.lasts.length → d1.V (157 + i) = over l i (c i) := fun i hi => by
   rw [k5 _ hi];have : ((157 + i : Nat) : Int) = 157 + (i : Int) := by omega
   rw [this, over_landing];rcases hpl i hi with h | h
   ·rw [h]
   ·rw [h, over_idem]
  have hcm2 := came_writes (l := [⟨1, sect []⟩]) k4 (by rw [k2]; intro w hw; cases hw) (fits_mark (by omega) (sect_length _))
  have hl : d.lands (landing l) = d1.writes [⟨1, sect []⟩] := by rw [Dk.lands, hr]; simp
  rw [hl];generalize d1.writes [⟨1, sect []⟩] = r2 at hcm2;obtain ⟨e2, d2⟩ := r2;obtain ⟨m1, m2, m3⟩ := hcm2;simp only at m1 m2 m3;rw [k2, List.nil_append] at m3;refine ⟨m1.trans k1, ?_⟩;rcases m3 with ⟨rfl, m4, m5⟩ | ⟨rfl, m4, m5⟩
  ·left;have oth : ∀ i, i < d.lasts.length → i ≠ 1 → d2.V i = d1.V i := fun i hi hne => by
    rw [m5 i (by omega), over_out]
    intro w hw; rw [List.mem_singleton.1 hw]; show (1 : Int) ≠ i; omega
   refine ⟨rfl, m4, ⟨m2, by rw [m1, k1]; exact hb, by rw [oth 0 (by omega) (by decide), low 0 (by decide)]; exact hs.sign⟩, ?_, fun i hi => ?_⟩
   ·rw [m5 1 (by omega)]; rfl
   ·have hi : 157 + i < d2.lasts.length := hi;rw [oth _ (by omega) (by omega)]; exact high i (by omega)
  ·right;have oth : ∀ i, i < d.lasts.length → i ≠ 1 → d2.V i = d1.V i := fun i hi hne => by
    rcases m5 i (by omega) with h | ⟨w, hw, h1, _⟩
    ·exact h
    ·rw [List.mem_singleton.1 hw] at h1;exact absurd h1 (by show (1 : Int) ≠ i; omega)
   have hset : Sett d2 := ⟨m2, by rw [m1, k1]; exact hb, by rw [oth 0 (by omega) (by decide), low 0 (by decide)]; exact hs.sign⟩
   refine ⟨rfl, ?_⟩;rcases m5 1 (by omega) with h | ⟨w, hw, _, h1⟩
   ·left;refine ⟨hset, by rw [h, low 1 (by decide)]; exact hmk, fun w hw => ?_, fun i hi => .inr ?_⟩
    ·have hp := logOf_pos hw hv.few;rw [oth _ (by omega) (by omega), low _ (by omega)]; exact hlg w hw
    ·have hi : 157 + i < d2.lasts.length := hi;rw [oth _ (by omega) (by omega)]; exact high i (by omega)
   ·right;rw [List.mem_singleton.1 hw] at h1;exact ⟨hset, h1, fun i hi => by have hi : 157 + i < d2.lasts.length := hi; rw [oth _ (by omega) (by omega)]; exact high i (by omega)⟩
 ·-- some have landed
  have hl : d.lands (landing l) = (6, d1) := by rw [Dk.lands, hr]; rfl
  rw [hl];have low : ∀ i, i < 157 → d1.V i = d.V i := fun i hi => by
   rcases k5 i (by omega) with h | ⟨w, hw, h1, _⟩
   ·exact h
   ·obtain ⟨_, _, _, _, _, h⟩ := fits_landing hv w hw; omega
  refine ⟨k1, .inr ⟨rfl, .inl ⟨⟨k2, by rw [k1]; exact hb, by rw [low 0 (by decide)]; exact hs.sign⟩, by rw [low 1 (by decide)]; exact hmk, fun w hw => ?_, fun i hi => ?_⟩⟩⟩
  ·have hp := logOf_pos hw hv.few;rw [low _ (by omega)]; exact hlg w hw
  ·rcases k5 (157 + i) (by rw [k1] at hi; exact hi) with h | ⟨w, hw, h1, h2⟩
   ·rw [h]; exact hpl i (by rw [k1] at hi; exact hi)
   ·obtain ⟨_, x, hx, p1, p2, _⟩ := fits_landing hv w hw;have hxi : x.pos = i := by omega
    right;rw [h2, p2, ← hxi];exact ((hv.mem hx).2.2 _).symm
theorem rest_commit {l : List Wr} {c : Nat → List UInt8} {d : Dk} (hr : Rest c d) (hd : d.down = false) (hw : d.wrong l = 0) (hl : l ≠ []) :
  (d.commit l).2.lasts.length = d.lasts.length ∧ (((d.commit l).1 = 0 ∧ (d.commit l).2.down = false ∧ Rest (fun i => over l i (c i)) (d.commit l).2) ∨ ((d.commit l).1 = 6 ∧ (Rest c (d.commit l).2 ∨ Mid l c (d.commit l).2 ∨ Rest (fun i => over l i (c i)) (d.commit l).2))) := by
 obtain ⟨hs, hmk, hpl⟩ := hr;have hb := hs.big;have hv := valid_of hw hb.1;have hc0 : ¬ (d.wrong l ≠ 0 ∨ l = []) := by rintro (h | h); exact h hw; exact hl h
 have hcm := came_writes (l := logOf l) hd (by rw [hs.wait]; intro w hw; cases hw) (fits_log hb.1 hv)
 generalize hr1 : d.writes (logOf l) = r at hcm;obtain ⟨e1, d1⟩ := r;obtain ⟨k1, k2, k3⟩ := hcm;simp only at k1 k2 k3;rw [hs.wait, List.nil_append] at k3;rcases k3 with ⟨rfl, k4, k5⟩ | ⟨rfl, k4, k5⟩
 ·-- the log stands
  have oth : ∀ i, i < d.lasts.length → (i < 2 ∨ 157 ≤ i) → d1.V i = d.V i := fun i hi h => by
   rw [k5 i hi, over_out];intro w hw; have := logOf_pos hw hv.few; omega
  have hlog : ∀ w ∈ logOf l, d1.V w.pos.toNat = w.data := fun w hw => by
   have hp := logOf_pos hw hv.few;rw [k5 _ (by omega)]
   have e : ((w.pos.toNat : Nat) : Int) = w.pos := by omega
   rw [e]; exact logOf_over hw
  have hv1 : Valid l d1.lasts.length := by rw [k1]; exact hv
  have hcm2 := came_writes (l := [⟨1, markB l.length⟩]) k4 (by rw [k2]; intro w hw; cases hw) (fits_mark (by omega) (sect_length _))
  generalize hr2 : d1.writes [⟨1, markB l.length⟩] = r2 at hcm2;obtain ⟨e2, d2⟩ := r2;obtain ⟨m1, m2, m3⟩ := hcm2;simp only at m1 m2 m3;rw [k2, List.nil_append] at m3;rcases m3 with ⟨rfl, m4, m5⟩ | ⟨rfl, m4, m5⟩
  ·-- the mark stands
   have oth2 : ∀ i, i < d.lasts.length → i ≠ 1 → d2.V i = d1.V i := fun i hi hne => by
    rw [m5 i (by omega), over_out]
    intro w hw; rw [List.mem_singleton.1 hw]; show (1 : Int) ≠ i; omega
   have hmid : Mid l c d2 := by
    refine ⟨⟨m2, by rw [m1, k1]; exact hb, by rw [oth2 0 (by omega) (by decide), oth 0 (by omega) (.inl (by decide))]; exact hs.sign⟩, by rw [m5 1 (by omega)]; rfl, fun w hw => ?_, fun i hi => .inl ?_⟩
    ·have hp := logOf_pos hw hv.few;rw [oth2 _ (by omega) (by omega)]; exact hlog w hw
    ·rw [oth2 _ (by omega) (by omega), oth _ (by omega) (.inr (by omega))]; exact hpl i (by omega)
   have he : d.commit l = d2.lands (landing l) := by
    rw [Dk.commit, if_neg hc0, hr1];simp only [ne_eq, not_true_eq_false, if_false];rw [hr2];simp only [not_true_eq_false, if_false]
   rw [he];obtain ⟨a1, a2⟩ := mid_lands (by rw [m1, k1]; exact hv) hmid m4
   refine ⟨by rw [a1, m1, k1], ?_⟩
   rcases a2 with a2 | ⟨a2, a3 | a3⟩
   ·exact .inl a2
   ·exact .inr ⟨a2, .inr (.inl a3)⟩
   ·exact .inr ⟨a2, .inr (.inr a3)⟩
  ·have oth2 : ∀ i, i < d.lasts.length → i ≠ 1 → d2.V i = d1.V i := fun i hi hne => by
    rcases m5 i (by omega) with h | ⟨w, hw, h1, _⟩
    ·exact h
    ·rw [List.mem_singleton.1 hw] at h1;exact absurd h1 (by show (1 : Int) ≠ i; omega)
   have hset : Sett d2 := ⟨m2, by rw [m1, k1]; exact hb, by rw [oth2 0 (by omega) (by decide), oth 0 (by omega) (.inl (by decide))]; exact hs.sign⟩
   have he : d.commit l = (6, d2) := by
    rw [Dk.commit, if_neg hc0, hr1];simp only [ne_eq, not_true_eq_false, if_false];rw [hr2];rfl
   rw [he];have hpl2 : ∀ i, 157 + i < d.lasts.length → d2.V (157 + i) = c i := fun i hi => by
    rw [oth2 _ hi (by omega), oth _ hi (.inr (by omega))]; exact hpl i hi
   refine ⟨m1.trans k1, .inr ⟨rfl, ?_⟩⟩;rcases m5 1 (by omega) with h | ⟨w, hw, _, h1⟩
   ·left;exact ⟨hset, by rw [h, oth 1 (by omega) (.inl (by decide))]; exact hmk, fun i hi => hpl2 i (by have hi : 157 + i < d2.lasts.length := hi; omega)⟩
   ·right; left;rw [List.mem_singleton.1 hw] at h1;refine ⟨hset, h1, fun w hw => ?_, fun i hi => .inl (hpl2 i (by have hi : 157 + i < d2.lasts.length := hi; omega))⟩
    have hp := logOf_pos hw hv.few;rw [oth2 _ (by omega) (by omega)]; exact hlog w hw
 ·-- some of the log stands
  have he : d.commit l = (6, d1) := by rw [Dk.commit, if_neg hc0, hr1]; rfl
  rw [he];have oth : ∀ i, i < d.lasts.length → (i < 2 ∨ 157 ≤ i) → d1.V i = d.V i := fun i hi h => by
   rcases k5 i hi with h1 | ⟨w, hw, h1, _⟩
   ·exact h1
   ·have := logOf_pos hw hv.few; omega
  exact ⟨k1, .inr ⟨rfl, .inl ⟨⟨k2, by rw [k1]; exact hb, by rw [oth 0 (by omega) (.inl (by decide))]; exact hs.sign⟩, by rw [oth 1 (by omega) (.inl (by decide))]; exact hmk, fun i hi => by
   have hi : 157 + i < d1.lasts.length := hi;rw [oth _ (by omega) (.inr (by omega))]; exact hpl i (by omega)⟩⟩⟩
theorem markB_eq (n : Int) : markB n = 109 :: 97 :: 114 :: 107 :: u8 (n / 256) :: u8 n :: zeros 58 := rfl
theorem marked_mark {n : Nat} (h1 : 1 ≤ n) (h2 : n ≤ 150) : marked (markB n) = ((n : Int), true) := by
 have hn : markB n ≠ sect [] := by
  intro h;have h0 : nth (markB n) 0 = 109 := by rw [markB_eq]; rfl
  rw [h] at h0;exact absurd h0 (by decide)
 have hl : ¬ (markB n).length ≠ 64 := fun h => h (sect_length _);have ha : numAt (markB n) 4 = n := by
  have := twoB_read (n := n) (by omega) (by omega)
  unfold numAt;rw [markB_eq];show ((nth (twoB n) 0).toNat * 256 + (nth (twoB n) 1).toNat : Nat) = (n : Int);rw [this]; omega
 unfold marked;rw [if_neg hn, if_neg hl, ha];simp;omega
theorem posB_nth : ∀ {q : List Wr} {r : Nat}, r < q.length → nth (posB q) (2 * r) = nth (twoB (nth q r).pos) 0 ∧ nth (posB q) (2 * r + 1) = nth (twoB (nth q r).pos) 1 := by
 intro q
 induction q with
 | nil => intro r h; cases h
 | cons w q ih =>
  intro r h;rw [posB_cons]
  cases r with
  | zero => exact ⟨rfl, rfl⟩
  | succ r =>
   have hr : r < q.length := by simpa using h
   have e : ∀ i, nth (twoB w.pos ++ posB q) (i + 2) = nth (posB q) i := fun i => rfl;have e2 : nth (w :: q) (r + 1) = nth q r := rfl;rw [show 2 * (r + 1) = 2 * r + 2 by omega, show 2 * r + 2 + 1 = (2 * r + 1) + 2 by omega, e, e, e2]
   exact ih hr
theorem sect_nth {b : List UInt8} {i : Nat} (h : i < b.length) (h2 : b.length ≤ 64) : nth (sect b) i = nth b i := by
 have : (sect b)[i]? = b[i]? := by
  unfold sect;rw [List.take_of_length_le h2, List.getElem?_append_left h]
 simp only [nth, List.getD, this]
theorem range_nth {α : Type} [Inhabited α] (l : List α) : (List.range l.length).map (nth l) = l := by
 apply List.ext_getElem
 ·simp
 ·intro i h1 h2;simp [nth, h2]
theorem log_at {l : List Wr} {c : Nat → List UInt8} {d : Dk} (hv : Valid l d.lasts.length) (hm : Mid l c d) {k : Nat} (hk : k < l.length) : logAt d k = (nth l k).pos ∧ d.read (2 + (lists l.length : Int) + (k : Int)) = (nth l k).data := by
 obtain ⟨hs, hmk, hlg, hpl⟩ := hm;have hb := hs.big;have hf := hv.few;have hll : lists l.length ≤ 5 := by unfold lists; omega
 obtain ⟨a1, a2, a3⟩ := hv.each k hk;constructor
 ·have hq : k / 32 < lists l.length := by unfold lists; omega
  have hw : (⟨2 + ((k / 32 : Nat) : Int), sect (places l (k / 32))⟩ : Wr) ∈ logOf l := List.mem_append.2 (.inr (List.mem_map.2 ⟨k / 32, List.mem_range.2 hq, rfl⟩));have hV := hlg _ hw;have e1 : ((2 : Int) + ((k / 32 : Nat) : Int)).toNat = 2 + k / 32 := by omega
  simp only [e1] at hV;have e2 : (2 + (k : Int) / 32) = ((2 + k / 32 : Nat) : Int) := by omega
  unfold logAt;rw [e2, read_V hs.wait (by omega), hV]
  have hr : k % 32 < ((l.drop (32 * (k / 32))).take 32).length := by simp; omega
  have hpl : (places l (k / 32)).length = 2 * ((l.drop (32 * (k / 32))).take 32).length := posB_length _;have h32 : ((l.drop (32 * (k / 32))).take 32).length ≤ 32 := by simp; omega
  obtain ⟨n0, n1⟩ := posB_nth hr;have en : nth ((l.drop (32 * (k / 32))).take 32) (k % 32) = nth l k := by
   have h1 : 32 * (k / 32) + k % 32 = k := by omega
   have h2 : k % 32 < 32 := by omega
   simp only [nth, List.getD, List.getElem?_take, h2, if_true, List.getElem?_drop, h1]
  rw [en] at n0 n1;have hn := twoB_read (n := (nth l k).pos) a1 (by omega)
  unfold numAt;rw [sect_nth (by omega) (by omega), sect_nth (by omega) (by omega)]
  show (((nth (places l (k / 32)) (2 * (k % 32))).toNat * 256 + (nth (places l (k / 32)) (2 * (k % 32) + 1)).toNat : Nat) : Int) = _;unfold places;rw [n0, n1, hn]; omega
 ·have hw : (⟨2 + (lists l.length : Int) + (k : Int), (nth l k).data⟩ : Wr) ∈ logOf l := List.mem_append.2 (.inl (List.mem_map.2 ⟨k, List.mem_range.2 hk, rfl⟩));have hV := hlg _ hw;have e1 : ((2 : Int) + (lists l.length : Int) + (k : Int)).toNat = 2 + lists l.length + k := by omega
  simp only [e1] at hV;have e2 : (2 : Int) + (lists l.length : Int) + (k : Int) = ((2 + lists l.length + k : Nat) : Int) := by omega
  rw [e2, read_V hs.wait (by omega), hV]
theorem mid_open {l : List Wr} {c : Nat → List UInt8} {d : Dk} (hv : Valid l d.lasts.length) (hl : l ≠ []) (hm : Mid l c d) (hd : d.down = false) : d.openD = d.lands (landing l) := by
 have hat := fun k hk => log_at hv hm (k := k) hk;obtain ⟨hs, hmk, hlg, hpl⟩ := hm;have hb := hs.big;have hmany := many_of hb.1;have hlp : 0 < l.length := List.length_pos_iff.2 hl;have r0 : d.read 0 = sect [97, 112, 115, 116] := by
  have := read_V hs.wait (i := 0) (by omega)
  rw [hs.sign] at this; exact this
 have r1 : d.read 1 = markB l.length := by
  have := read_V hs.wait (i := 1) (by omega)
  rw [hmk] at this; exact this
 have hok : logOk d l.length = true := by
  simp only [logOk, List.all_eq_true, decide_eq_true_eq, List.mem_range];intro k hk;rw [(hat k hk).1];have := (hv.each k hk).2.1;omega
 have hlw : logW d l.length l.length = landing l := by
  have e : landing l = (List.range l.length).map fun k => ⟨157 + (nth l k).pos, (nth l k).data⟩ := by
   unfold landing
   conv => lhs; rw [← range_nth l]
   rw [List.map_map]; rfl
  rw [e];unfold logW;refine List.map_congr_left fun k hk => ?_;obtain ⟨a, b⟩ := hat k (List.mem_range.1 hk);rw [a, b]
 unfold Dk.openD;rw [if_neg (by rw [hd]; decide), if_neg (by rintro (h | h); omega; exact h r0), r1, marked_mark hlp hv.few]
 rw [if_neg (fun h => by cases h), if_neg (by show ¬ (l.length : Int) = 0; omega)]
 simp only [Int.toNat_natCast];rw [if_pos hok, hlw]
theorem rest_open {c : Nat → List UInt8} {d : Dk} (hr : Rest c d) (hd : d.down = false) : d.openD = (0, d) := by
 obtain ⟨hs, hmk, hpl⟩ := hr;have hb := hs.big;have hmany := many_of hb.1;have r0 : d.read 0 = sect [97, 112, 115, 116] := by
  have := read_V hs.wait (i := 0) (by omega)
  rw [hs.sign] at this; exact this
 have r1 : d.read 1 = sect [] := by
  have := read_V hs.wait (i := 1) (by omega)
  rw [hmk] at this; exact this
 have e : marked (sect []) = (0, true) := by unfold marked; rw [if_pos rfl]
 unfold Dk.openD;rw [if_neg (by rw [hd]; decide), if_neg (by rintro (h | h); omega; exact h r0), r1, e]
 rfl
end Go.VM
end
section
namespace Go.VM
open Go.Proofs
set_option maxRecDepth 4000
attribute [-simp] Int.not_lt Int.not_le Nat.not_lt Nat.not_le
theorem Rest.restart {c : Nat → List UInt8} {d : Dk} (h : Rest c d) : Rest c d.restart := ⟨⟨rfl, h.1.big, h.1.sign⟩, h.2.1, h.2.2⟩
theorem Rest.arm {c : Nat → List UInt8} {d : Dk} {a : Cr} (h : Rest c d) : Rest c (d.arm a) := ⟨⟨h.1.wait, h.1.big, h.1.sign⟩, h.2.1, h.2.2⟩
theorem Mid.restart {l : List Wr} {c : Nat → List UInt8} {d : Dk} (h : Mid l c d) : Mid l c d.restart := ⟨⟨rfl, h.1.big, h.1.sign⟩, h.2.1, h.2.2.1, h.2.2.2⟩
theorem Mid.arm {l : List Wr} {c : Nat → List UInt8} {d : Dk} {a : Cr} (h : Mid l c d) : Mid l c (d.arm a) := ⟨⟨h.1.wait, h.1.big, h.1.sign⟩, h.2.1, h.2.2.1, h.2.2.2⟩
def newC (l : List Wr) (c : Nat → List UInt8) (i : Nat) : List UInt8 := over l i (c i)
def Som (l : List Wr) (c : Nat → List UInt8) (d : Dk) : Prop := Rest c d ∨ (Valid l d.lasts.length ∧ l ≠ [] ∧ Mid l c d) ∨ Rest (newC l c) d
theorem Som.restart {l : List Wr} {c : Nat → List UInt8} {d : Dk} (h : Som l c d) : Som l c d.restart := by
 rcases h with h | ⟨h1, h2, h⟩ | h
 ·exact .inl h.restart
 ·exact .inr (.inl ⟨h1, h2, h.restart⟩)
 ·exact .inr (.inr h.restart)
theorem Som.arm {l : List Wr} {c : Nat → List UInt8} {d : Dk} {a : Cr} (h : Som l c d) : Som l c (d.arm a) := by
 rcases h with h | ⟨h1, h2, h⟩ | h
 ·exact .inl h.arm
 ·exact .inr (.inl ⟨h1, h2, h.arm⟩)
 ·exact .inr (.inr h.arm)
theorem calm_lands {d : Dk} {l : List Wr} (h : Calm d) (hb : 157 < d.lasts.length) (hf : ∀ w ∈ l, Fits d w) : (d.lands l).1 = 0 := by
 rw [Dk.lands, calm_writes h hf];simp only [if_true];rw [calm_writes (last_calm h) (fits_mark (by rw [last_len]; exact hb) (sect_length _))]
theorem calm_open {l : List Wr} {c : Nat → List UInt8} {d : Dk} (h : Som l c d) (hd : Calm d) : d.openD.1 = 0 ∧ (Rest c d.openD.2 ∨ Rest (newC l c) d.openD.2) := by
 rcases h with h | ⟨h1, h2, h⟩ | h
 ·rw [rest_open h hd.down]; exact ⟨rfl, .inl h⟩
 ·rw [mid_open h1 h2 h hd.down];have hz := calm_lands hd h.1.big.1 (fun w hw => (fits_landing h1 w hw).1);obtain ⟨a1, a2⟩ := mid_lands h1 h hd.down;refine ⟨hz, .inr ?_⟩;rcases a2 with ⟨_, _, a⟩ | ⟨a, _⟩
  ·exact a
  ·rw [hz] at a; cases a
 ·rw [rest_open h hd.down]; exact ⟨rfl, .inr h⟩
theorem rest_jread {c : Nat → List UInt8} {d : Dk} (h : Rest c d) {i : Nat} (hi : 157 + i < d.lasts.length) : d.jread i = c i := by
 have hm := many_of h.1.big.1;rw [Dk.jread, if_neg (by omega), show (157 + (i : Int)) = ((157 + i : Nat) : Int) by omega, read_V h.1.wait hi]
 exact h.2.2 i hi
structure BX (S : St) (x y : Obj) : Prop where
 o0 : S.obj 0 = x
 o1 : S.obj 1 = y
 nx : 2 ≤ S.next
theorem BX.mod {S S' : St} {x y : Obj} {id : Nat} (h : BX S x y) (hM : Mod S S' id) (hid : 2 ≤ id) : BX S' x y :=
 ⟨by rw [hM.1 0 (by have := h.nx; omega) (by omega)]; exact h.o0, by rw [hM.1 1 (by have := h.nx; omega) (by omega)]; exact h.o1, Nat.le_trans h.nx hM.2.1⟩
theorem jread_len {d : Dk} {n i : Nat} (hw : Ok d n) (hi : 157 + i < d.lasts.length) : (d.jread i).length = 64 := by
 have hm : d.many = (d.lasts.length : Int) - 157 := many_of (by omega)
 rw [Dk.jread, if_neg (by omega)]
 exact hw.wf.read (by omega) (by omega)
end Go.VM
end
