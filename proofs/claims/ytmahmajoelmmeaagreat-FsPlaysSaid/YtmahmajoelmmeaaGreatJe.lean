/- Chapter 2: a disk that doesn't crash. No condition. -/
import Derived.Test.YtmahmajoelmmeaaGreatJd
section
namespace Go.VM
open Go.Proofs
set_option maxRecDepth 4000
attribute [-simp] Int.not_lt Int.not_le Nat.not_lt Nat.not_le
structure Calm (d : Dk) : Prop where
 armed : d.armed = false
 down : d.down = false
def Fits (d : Dk) (w : Wr) : Prop := (0 ≤ w.pos ∧ w.pos < d.lasts.length) ∧ w.data.length = 64
def Dk.more (d : Dk) (l : List Wr) (n : Int) : Dk := { d with ops := d.ops + n, waits := d.waits ++ l }
theorem calm_falls {d : Dk} (h : Calm d) : d.falls = (false, { d with ops := d.ops + 1 }) := by simp [Dk.falls, h.armed]
theorem calm_write {d : Dk} {w : Wr} (h : Calm d) (hf : Fits d w) : d.write w.pos w.data = (0, d.more [w] 1) := by
 have hh : d.has w.pos = true := by simp [Dk.has, hf.1.1, hf.1.2]
 simp [Dk.write, h.down, hh, hf.2, calm_falls h, Dk.more]
theorem calm_flush {d : Dk} (h : Calm d) : d.flush = (0, (d.more [] 1).last fun _ => true) := by
 simp [Dk.flush, h.down, calm_falls h, Dk.more]
theorem more_more {d : Dk} {l m : List Wr} {n k : Int} : (d.more l n).more m k = d.more (l ++ m) (n + k) := by simp [Dk.more, Int.add_assoc]
theorem calm_writes : ∀ {l : List Wr} {d : Dk}, Calm d → (∀ w ∈ l, Fits d w) → d.writes l = (0, (d.more l (l.length + 1)).last fun _ => true) := by
 intro l
 induction l with
 | nil => intro d h _; rw [Dk.writes, calm_flush h]; rfl
 | cons w l ih =>
  intro d h hf;rw [Dk.writes_cons, calm_write h (hf w (by simp))]
  simp only [if_pos];rw [ih (d := d.more [w] 1) ⟨h.armed, h.down⟩ (fun x hx => hf x (by simp [hx])), more_more]
  congr 3;simp; omega
theorem over_append {a b : List Wr} {i : Int} {x : List UInt8} : over (a ++ b) i x = over b i (over a i x) := by simp [over]
theorem over_one {w : Wr} {i : Int} {x : List UInt8} : over [w] i x = if w.pos = i then w.data else x := rfl
theorem land_get {ws : List Wr} {l : List (List UInt8)} (hp : ∀ w ∈ ws, 0 ≤ w.pos) {i : Nat} (hi : i < l.length) : ∀ n, n ≤ ws.length → nth (land (fun _ => true) ws l n) i = over (ws.take n) i (nth l i) := by
 intro n
 induction n with
 | zero => intro _; rfl
 | succ n ih =>
  intro hn;rw [land_succ, takeN (by omega), over_append, over_one, ← ih (by omega)]
  simp only [if_pos];have h0 := hp _ (nth_mem (show n < ws.length by omega))
  have hl : i < (land (fun _ => true) ws l n).length := by rw [land_length]; exact hi
  by_cases h : (nth ws n).pos = i
  ·have : (nth ws n).pos.toNat = i := by omega
   rw [if_pos h, this];simp [nth, hl]
  ·have : (nth ws n).pos.toNat ≠ i := by omega
   rw [if_neg h];have e := List.getElem?_set_ne (a := (nth ws n).data) (l := land (fun _ => true) ws l n) this;simp only [nth, List.getD];simp only [nth, List.getD] at e;rw [e]
theorem last_read {d : Dk} {l : List Wr} {k : Int} (hw : ∀ w ∈ d.waits, Fits d w) (hf : ∀ w ∈ l, Fits d w) {i : Int} (h0 : 0 ≤ i) (h1 : i < d.lasts.length) : ((d.more l k).last fun _ => true).read i = over l i (d.read i) := by
 have hh : d.has i = true := by simp [Dk.has, h0, h1]
 have hh2 : ((d.more l k).last fun _ => true).has i = true := by
  simp only [Dk.has, Dk.last, land_length, Dk.more]; exact hh
 rw [Dk.read, if_pos hh2, Dk.read, if_pos hh, ← over_append];show over [] i (nth (land (fun _ => true) (d.waits ++ l) d.lasts (d.waits ++ l).length) i.toNat) = _;have hi : ((i.toNat : Nat) : Int) = i := by omega
 rw [land_get (i := i.toNat) (fun w hw2 => ?_) (by omega) _ (Nat.le_refl _), hi, List.take_length]
 ·rfl
 ·rcases List.mem_append.1 hw2 with h | h
  ·exact (hw w h).1.1
  ·exact (hf w h).1.1
theorem last_calm {d : Dk} {l : List Wr} {k : Int} (h : Calm d) : Calm ((d.more l k).last fun _ => true) := ⟨h.armed, h.down⟩
theorem last_len {d : Dk} {l : List Wr} {k : Int} {kp : Nat → Bool} : ((d.more l k).last kp).lasts.length = d.lasts.length := land_length
theorem over_out {l : List Wr} {i : Int} {x : List UInt8} (h : ∀ w ∈ l, w.pos ≠ i) : over l i x = x := by
 induction l with
 | nil => rfl
 | cons w l ih =>
  show over l i (if w.pos = i then w.data else x) = x;rw [if_neg (h w (by simp)), ih (fun y hy => h y (by simp [hy]))]
theorem over_in {l : List Wr} {k : Nat} {x : List UInt8} (hk : k < l.length) (h : ∀ j, j < l.length → j ≠ k → (nth l j).pos ≠ (nth l k).pos) : over l (nth l k).pos x = (nth l k).data := by
 have e : l = l.take k ++ nth l k :: l.drop (k + 1) := by rw [← drop_cons hk, List.take_append_drop]
 have hd : ∀ w ∈ l.drop (k + 1), w.pos ≠ (nth l k).pos := by
  intro w hw;obtain ⟨j, hj, rfl⟩ := List.getElem_of_mem hw;have hj2 : j < l.length - (k + 1) := by simpa using hj
  have := h (k + 1 + j) (by omega) (by omega)
  have e2 : nth l (k + 1 + j) = (l.drop (k + 1))[j] := by simp [nth, show k + 1 + j < l.length by omega]
  rw [← e2]; exact this
 have key : ∀ (a b : List Wr) (w : Wr) (p : Int), w.pos = p → (∀ y ∈ b, y.pos ≠ p) → over (a ++ w :: b) p x = w.data := by
  intro a b w p hp hb;rw [over_append];show over b p (if w.pos = p then w.data else _) = _;rw [if_pos hp, over_out hb]
 have := key (l.take k) (l.drop (k + 1)) (nth l k) (nth l k).pos rfl hd;rw [← e] at this;exact this
structure Good (d : Dk) (c : Int → List UInt8) : Prop where
 calm : Calm d
 wait : ∀ w ∈ d.waits, Fits d w
 big : 157 < d.lasts.length ∧ d.lasts.length ≤ 2000
 sign : d.read 0 = sect [97, 112, 115, 116]
 mark : d.read 1 = sect []
 place : ∀ i, 0 ≤ i → i < d.many → d.read (157 + i) = c i
theorem many_of {d : Dk} (h : 157 < d.lasts.length) : d.many = (d.lasts.length : Int) - 157 := by unfold Dk.many; omega
theorem fmt_fits {d : Dk} {k : Nat} (hk : 157 + k ≤ d.lasts.length) (h : 157 < d.lasts.length) : ∀ w ∈ fmt k, Fits d w := by
 intro w hw;simp only [fmt, List.mem_append, List.mem_cons, List.not_mem_nil, or_false, List.mem_map, List.mem_range] at hw;rcases hw with (rfl | rfl) | ⟨i, hi, rfl⟩
 ·exact ⟨⟨Int.le_refl _, by show (0 : Int) < d.lasts.length; omega⟩, sect_length _⟩
 ·exact ⟨⟨by decide, by show (1 : Int) < d.lasts.length; omega⟩, sect_length _⟩
 ·exact ⟨⟨by show (0 : Int) ≤ 157 + (i : Int); omega, by show 157 + (i : Int) < d.lasts.length; omega⟩, sect_length _⟩
theorem fmt_over {k : Nat} {x : List UInt8} : over (fmt k) 0 x = sect [97, 112, 115, 116] ∧ over (fmt k) 1 x = sect [] ∧ ∀ i : Int, 0 ≤ i → i < k → over (fmt k) (157 + i) x = sect [] := by
 have hm : ∀ (m : Nat) (j : Int) (x : List UInt8), (j < 157 ∨ 157 + (m : Int) ≤ j) → over ((List.range m).map fun (i : Nat) => (⟨157 + (i : Int), sect []⟩ : Wr)) j x = x := by
  intro m j x hj;refine over_out fun w hw => ?_;obtain ⟨i, hi, rfl⟩ := List.mem_map.1 hw;have := List.mem_range.1 hi;show 157 + (i : Int) ≠ j;omega
 refine ⟨?_, ?_, fun i h0 h1 => ?_⟩
 ·rw [fmt, over_append, hm _ 0 _ (.inl (by decide))]; rfl
 ·rw [fmt, over_append, hm _ 1 _ (.inl (by decide))]; rfl
 ·obtain ⟨m, rfl⟩ : ∃ m : Nat, i = m := ⟨i.toNat, by omega⟩
  have hlt : m < ((List.range k).map fun (i : Nat) => (⟨157 + (i : Int), sect []⟩ : Wr)).length := by simp; omega
  have he : nth ((List.range k).map fun (i : Nat) => (⟨157 + (i : Int), sect []⟩ : Wr)) m = ⟨157 + (m : Int), sect []⟩ := by
   have : m < k := by omega
   simp [nth, this]
  have := over_in (x := over [⟨0, sect [97, 112, 115, 116]⟩, ⟨1, sect []⟩] (157 + (m : Int)) x) hlt (fun j hj hne => by
   have hj' : j < k := by simpa using hj
   have : nth ((List.range k).map fun (i : Nat) => (⟨157 + (i : Int), sect []⟩ : Wr)) j = ⟨157 + (j : Int), sect []⟩ := by simp [nth, hj']
   rw [this, he];show 157 + (j : Int) ≠ 157 + (m : Int);omega)
  rw [he] at this;rw [fmt, over_append];exact this
theorem good_format {d : Dk} (hc : Calm d) (hw : ∀ w ∈ d.waits, Fits d w) (hb : 157 < d.lasts.length ∧ d.lasts.length ≤ 2000) : d.format.1 = 0 ∧ Good d.format.2 (fun _ => sect []) ∧ d.format.2.lasts.length = d.lasts.length ∧ d.format.2.waits = [] := by
 have hm := many_of hb.1;have hf := fmt_fits (d := d) (k := d.many.toNat) (by omega) hb.1
 have e : d.format = (0, (d.more (fmt d.many.toNat) ((fmt d.many.toNat).length + 1)).last fun _ => true) := by
  rw [Dk.format, if_neg (by omega), calm_writes hc hf]
 rw [e];refine ⟨rfl, ⟨last_calm hc, fun w hw => by simp [Dk.last] at hw, by rw [last_len]; exact hb, ?_, ?_, fun i h0 h1 => ?_⟩, last_len, rfl⟩
 ·rw [last_read hw hf (by decide) (by omega)]; exact fmt_over.1
 ·rw [last_read hw hf (by decide) (by omega)]; exact fmt_over.2.1
 ·have h1' : i < d.many := by rw [Dk.many_eq last_len] at h1; exact h1
  rw [last_read hw hf (by omega) (by omega)]; exact fmt_over.2.2 i h0 (by omega)
theorem over_landing {l : List Wr} {i : Int} : ∀ {x : List UInt8}, over (landing l) (157 + i) x = over l i x := by
 induction l with
 | nil => intro x; rfl
 | cons w l ih =>
  intro x;show over (landing l) (157 + i) (if 157 + w.pos = 157 + i then w.data else x) = over l i (if w.pos = i then w.data else x);rw [ih];by_cases h : w.pos = i
  ·rw [if_pos h, if_pos (by omega)]
  ·rw [if_neg h, if_neg (by omega)]
theorem good_commit {d : Dk} {c : Int → List UInt8} {l : List Wr} (hg : Good d c) (hw : d.wrong l = 0) (hl : l ≠ []) : (d.commit l).1 = 0 ∧ Good (d.commit l).2 (fun i => over l i (c i)) ∧ (d.commit l).2.lasts.length = d.lasts.length := by
 obtain ⟨w1, w2⟩ := wrong_ok hw;have hb := hg.big;have hm := many_of hb.1;have hll : lists l.length ≤ 5 := by unfold lists; omega
 have f1 : ∀ w ∈ logOf l, Fits d w ∧ 2 ≤ w.pos ∧ w.pos < 157 := by
  intro w hw;rcases List.mem_append.1 hw with h | h
  ·obtain ⟨k, hk, rfl⟩ := List.mem_map.1 h;have hk := List.mem_range.1 hk;obtain ⟨_, _, b3, _⟩ := w2 k hk;exact ⟨⟨⟨by show (0 : Int) ≤ 2 + _ + _; omega, by show (2 : Int) + (lists l.length : Int) + (k : Int) < d.lasts.length; omega⟩, b3⟩, by show (2 : Int) ≤ 2 + (lists l.length : Int) + (k : Int); omega, by show (2 : Int) + (lists l.length : Int) + (k : Int) < 157; omega⟩
  ·obtain ⟨k, hk, rfl⟩ := List.mem_map.1 h;have hk := List.mem_range.1 hk;exact ⟨⟨⟨by show (0 : Int) ≤ 2 + (k : Int); omega, by show (2 : Int) + (k : Int) < d.lasts.length; omega⟩, sect_length _⟩, by show (2 : Int) ≤ 2 + (k : Int); omega, by show (2 : Int) + (k : Int) < 157; omega⟩
 have f2 : ∀ {b : List UInt8}, b.length = 64 → ∀ w ∈ [(⟨1, b⟩ : Wr)], Fits d w := by
  intro b hbl w hw;obtain rfl : w = ⟨1, b⟩ := by simpa using hw
  exact ⟨⟨(by decide : (0 : Int) ≤ 1), by show (1 : Int) < d.lasts.length; omega⟩, hbl⟩
 have f3 : ∀ w ∈ landing l, Fits d w ∧ 157 ≤ w.pos := by
  intro w hw;obtain ⟨x, hx, rfl⟩ := List.mem_map.1 hw;obtain ⟨k, hk, rfl⟩ := List.getElem_of_mem hx;have e : nth l k = l[k] := by simp [nth, hk]
  obtain ⟨b1, b2, b3, _⟩ := w2 k hk;rw [e] at b1 b2 b3;exact ⟨⟨⟨by show (0 : Int) ≤ 157 + l[k].pos; omega, by show 157 + l[k].pos < d.lasts.length; omega⟩, b3⟩, by show (157 : Int) ≤ 157 + l[k].pos; omega⟩
 have hmk : (markB l.length).length = 64 := sect_length _;obtain ⟨d1, e1⟩ : ∃ d1, d1 = (d.more (logOf l) ((logOf l).length + 1)).last fun _ => true := ⟨_, rfl⟩;have g1 : d.writes (logOf l) = (0, d1) := by rw [e1]; exact calm_writes hg.calm fun w hw => (f1 w hw).1
 have l1 : d1.lasts.length = d.lasts.length := by rw [e1, last_len]
 have c1 : Calm d1 := by rw [e1]; exact last_calm hg.calm
 have v1 : d1.waits = [] := by rw [e1]; rfl
 have F1 : ∀ {w}, Fits d1 w ↔ Fits d w := by intro w; unfold Fits; rw [l1]
 have r1 : ∀ i : Int, 0 ≤ i → i < d.lasts.length → d1.read i = over (logOf l) i (d.read i) := fun i a b => by rw [e1]; exact last_read hg.wait (fun w hw => (f1 w hw).1) a b
 obtain ⟨d2, e2⟩ : ∃ d2, d2 = (d1.more [⟨1, markB l.length⟩] (1 + 1)).last fun _ => true := ⟨_, rfl⟩;have g2 : d1.writes [⟨1, markB l.length⟩] = (0, d2) := by rw [e2]; exact calm_writes c1 fun w hw => F1.2 (f2 hmk w hw)
 have l2 : d2.lasts.length = d.lasts.length := by rw [e2, last_len, l1]
 have c2 : Calm d2 := by rw [e2]; exact last_calm c1
 have v2 : d2.waits = [] := by rw [e2]; rfl
 have F2 : ∀ {w}, Fits d2 w ↔ Fits d w := by intro w; unfold Fits; rw [l2]
 have r2 : ∀ i : Int, 0 ≤ i → i < d.lasts.length → d2.read i = over [⟨1, markB l.length⟩] i (d1.read i) := fun i a b => by rw [e2]; exact last_read (by rw [v1]; intro w hw; cases hw) (fun w hw => F1.2 (f2 hmk w hw)) a (by rw [l1]; exact b)
 obtain ⟨d3, e3⟩ : ∃ d3, d3 = (d2.more (landing l) ((landing l).length + 1)).last fun _ => true := ⟨_, rfl⟩;have g3 : d2.writes (landing l) = (0, d3) := by rw [e3]; exact calm_writes c2 fun w hw => F2.2 (f3 w hw).1
 have l3 : d3.lasts.length = d.lasts.length := by rw [e3, last_len, l2]
 have c3 : Calm d3 := by rw [e3]; exact last_calm c2
 have v3 : d3.waits = [] := by rw [e3]; rfl
 have F3 : ∀ {w}, Fits d3 w ↔ Fits d w := by intro w; unfold Fits; rw [l3]
 have r3 : ∀ i : Int, 0 ≤ i → i < d.lasts.length → d3.read i = over (landing l) i (d2.read i) := fun i a b => by rw [e3]; exact last_read (by rw [v2]; intro w hw; cases hw) (fun w hw => F2.2 (f3 w hw).1) a (by rw [l2]; exact b)
 obtain ⟨d4, e4⟩ : ∃ d4, d4 = (d3.more [⟨1, sect []⟩] (1 + 1)).last fun _ => true := ⟨_, rfl⟩;have g4 : d3.writes [⟨1, sect []⟩] = (0, d4) := by rw [e4]; exact calm_writes c3 fun w hw => F3.2 (f2 (sect_length _) w hw)
 have l4 : d4.lasts.length = d.lasts.length := by rw [e4, last_len, l3]
 have c4 : Calm d4 := by rw [e4]; exact last_calm c3
 have v4 : d4.waits = [] := by rw [e4]; rfl
 have r4 : ∀ i : Int, 0 ≤ i → i < d.lasts.length → d4.read i = over [⟨1, sect []⟩] i (d3.read i) := fun i a b => by rw [e4]; exact last_read (by rw [v3]; intro w hw; cases hw) (fun w hw => F3.2 (f2 (sect_length _) w hw)) a (by rw [l3]; exact b)
 have e : d.commit l = (0, d4) := by
  rw [Dk.commit, if_neg (by rintro (h | h); exact h hw; exact hl h), g1]
  simp only [ne_eq, not_true_eq_false, if_false];rw [g2];simp only [not_true_eq_false, if_false];rw [Dk.lands, g3];simp only [if_true];rw [g4]
 rw [e];refine ⟨rfl, ⟨c4, fun w hw => (by rw [v4] at hw; cases hw), (by rw [l4]; exact hb), ?_, ?_, fun i h0 h1 => ?_⟩, l4⟩
 ·show d4.read 0 = _;rw [r4 0 (by decide) (by omega), r3 0 (by decide) (by omega), r2 0 (by decide) (by omega), r1 0 (by decide) (by omega), over_out, over_out, over_out, over_out]
  ·exact hg.sign
  ·intro w hw; have := (f1 w hw).2.1; omega
  ·intro w hw; rw [List.mem_singleton.1 hw]; exact (by decide : (1 : Int) ≠ 0)
  ·intro w hw; have := (f3 w hw).2; omega
  ·intro w hw; rw [List.mem_singleton.1 hw]; exact (by decide : (1 : Int) ≠ 0)
 ·show d4.read 1 = _;rw [r4 1 (by decide) (by omega)]; rfl
 ·have h1' : i < d.many := by rw [Dk.many_eq l4] at h1; exact h1
  show d4.read (157 + i) = _;rw [r4 _ (by omega) (by omega), r3 _ (by omega) (by omega), r2 _ (by omega) (by omega), r1 _ (by omega) (by omega), over_out (l := [⟨1, sect []⟩]), over_landing, over_out (l := [⟨1, markB l.length⟩]), over_out (l := logOf l), hg.place i h0 h1']
  ·intro w hw; have := (f1 w hw).2.2; omega
  ·intro w hw; rw [List.mem_singleton.1 hw]; show (1 : Int) ≠ 157 + i; omega
  ·intro w hw; rw [List.mem_singleton.1 hw]; show (1 : Int) ≠ 157 + i; omega
theorem good_open {d : Dk} {c : Int → List UInt8} (hg : Good d c) : d.openD = (0, d) := by
 have hm := many_of hg.big.1;have e : marked (sect []) = (0, true) := by unfold marked; rw [if_pos rfl]
 unfold Dk.openD;rw [if_neg (by rw [hg.calm.down]; decide), if_neg (by rintro (h | h); have := hg.big.1; omega; exact h hg.sign), hg.mark, e]
 rfl
theorem good_read {d : Dk} {c : Int → List UInt8} (hg : Good d c) {i : Int} (h0 : 0 ≤ i) (h1 : i < d.many) : d.jread i = c i := by
 rw [Dk.jread, if_neg (by omega)]
 exact hg.place i h0 h1
theorem new_calm {n : Nat} : Calm (Dk.new n) := ⟨rfl, rfl⟩
theorem new_good {n : Nat} (h : 157 < n ∧ n ≤ 2000) : (Dk.new n).format.1 = 0 ∧ Good (Dk.new n).format.2 (fun _ => sect []) ∧ (Dk.new n).format.2.lasts.length = n := by
 have hl : (Dk.new n).lasts.length = n := by simp [Dk.new]
 obtain ⟨h1, h2, h3, h4⟩ := good_format (d := Dk.new n) new_calm (fun w hw => by simp [Dk.new] at hw) (by rw [hl]; exact h)
 exact ⟨h1, h2, h3.trans hl⟩
end Go.VM
end
section
namespace Go.VM
open Go.Proofs
set_option maxRecDepth 4000
attribute [-simp] Int.not_lt Int.not_le Nat.not_lt Nat.not_le
theorem Ok.lands {d : Dk} {n : Nat} {l : List Wr} (h : Ok d (n + l.length + 3)) : Ok (d.lands l).2 n := by
 have h1 : Ok d ((n + 2) + l.length + 1) := h.less (by omega)
 unfold Dk.lands;split
 ·exact Ok.writes (l := [⟨1, sect []⟩]) (n := n) h1.writes
 ·exact h1.writes.less (by omega)
theorem Ok.format {d : Dk} {n : Nat} (h : Ok d (n + 3000)) : Ok d.format.2 n := by
 have := h.wf.many;unfold Dk.format;split
 ·exact h.less (by omega)
 ·refine Ok.writes (h.less ?_);rw [fmt_length]; unfold Dk.many; omega
theorem Ok.openD {d : Dk} {n : Nat} (h : Ok d (n + 200)) : Ok d.openD.2 n := by
 unfold Dk.openD;split
 ·exact h.less (by omega)
 ·split
  ·exact h.less (by omega)
  ·split
   ·exact h.less (by omega)
   ·rename_i hm;have hm2 : (marked (d.read 1)).2 = true := by simpa using hm
    have := marked_le hm2;split
    ·exact h.less (by omega)
    ·split
     ·refine Ok.lands (h.less ?_);rw [logW_length]; omega
     ·exact h.less (by omega)
theorem Ok.commit {d : Dk} {n : Nat} {l : List Wr} (h : Ok d (n + 320)) : Ok (d.commit l).2 n := by
 unfold Dk.commit;split
 ·exact h.less (by omega)
 ·rename_i hc;have hw : d.wrong l = 0 := by
   by_cases e : d.wrong l = 0
   ·exact e
   ·exact absurd (.inl e) hc
  have hl := (wrong_ok hw).1;have h1 : Ok d ((n + 157) + (logOf l).length + 1) := h.less (by rw [logOf_length]; unfold lists; omega)
  have h2 : Ok (d.writes (logOf l)).2 ((n + 155) + [(⟨1, markB l.length⟩ : Wr)].length + 1) := h1.writes;split
  ·exact h1.writes.less (by omega)
  ·split
   ·exact h2.writes.less (by omega)
   ·exact Ok.lands (h2.writes.less (by simp [landing]; omega))
theorem new_ok {k n : Nat} (hk : k ≤ 2000) (hn : n ≤ 1000000) : Ok (Dk.new k) n := ⟨new_wf hk hn, Nat.zero_le _⟩
end Go.VM
end
