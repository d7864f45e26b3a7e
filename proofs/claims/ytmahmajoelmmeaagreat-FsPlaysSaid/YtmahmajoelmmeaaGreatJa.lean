/- Chapter 2: a journal on a disk: what the program's functions do to the disk. No condition. -/
import Derived.Test.YtmahmajoelmmeaaGreatDl
import Derived.Test.YtmahmajoelmmeaaGreatEr
namespace Go.VM
open Go.Proofs
set_option maxRecDepth 4000
attribute [-simp] Int.not_lt Int.not_le Nat.not_lt Nat.not_le
structure Ok (d : Dk) (n : Nat) : Prop where
 wf : WfD d n
 keep : d.keep.length ≤ 1000000
theorem Dk.write_keep {d : Dk} {i : Int} {b : List UInt8} : (d.write i b).2.keep = d.keep := by
 unfold Dk.write Dk.falls;split
 ·rfl
 ·split
  ·rfl
  ·split <;> split <;> rfl
theorem Dk.flush_keep {d : Dk} : d.flush.2.keep = d.keep := by
 unfold Dk.flush Dk.falls;split
 ·rfl
 ·split <;> split <;> rfl
theorem Dk.write_len {d : Dk} {i : Int} {b : List UInt8} : (d.write i b).2.lasts.length = d.lasts.length := by
 unfold Dk.write;split
 ·rfl
 ·split
  ·rfl
  ·split <;> exact Dk.falls_len
theorem Dk.flush_len {d : Dk} : d.flush.2.lasts.length = d.lasts.length := by
 unfold Dk.flush;split
 ·rfl
 ·split
  ·exact Dk.falls_len
  ·exact land_length.trans Dk.falls_len
theorem Ok.less {d : Dk} {n m : Nat} (h : Ok d n) (k : m ≤ n) : Ok d m := ⟨h.wf.less k, h.keep⟩
theorem Ok.write {d : Dk} {n : Nat} {i : Int} {b : List UInt8} (h : Ok d (n + 1)) : Ok (d.write i b).2 n := ⟨h.wf.write, by rw [Dk.write_keep]; exact h.keep⟩
theorem Ok.flush {d : Dk} {n : Nat} (h : Ok d (n + 1)) : Ok d.flush.2 n := ⟨h.wf.flush, by rw [Dk.flush_keep]; exact h.keep⟩
def Dk.many (d : Dk) : Int := max ((d.lasts.length : Int) - 157) 0
def Dk.writes (d : Dk) : List Wr → Int × Dk
 | [] => d.flush
 | w :: l => if (d.write w.pos w.data).1 = 0 then (d.write w.pos w.data).2.writes l else d.write w.pos w.data
theorem Ok.writes : ∀ {l : List Wr} {d : Dk} {n : Nat}, Ok d (n + l.length + 1) → Ok (d.writes l).2 n := by
 intro l
 induction l with
 | nil => intro d n h; exact h.flush
 | cons w l ih =>
  intro d n h;unfold Dk.writes;split
  ·exact ih (h.write (n := n + l.length + 1))
  ·exact (h.write (n := n + l.length + 1)).less (by omega)
theorem Dk.writes_len : ∀ {l : List Wr} {d : Dk}, (d.writes l).2.lasts.length = d.lasts.length := by
 intro l
 induction l with
 | nil => intro d; exact Dk.flush_len
 | cons w l ih =>
  intro d;unfold Dk.writes;split
  ·rw [ih, Dk.write_len]
  ·exact Dk.write_len
theorem Dk.many_eq {d d' : Dk} (h : d'.lasts.length = d.lasts.length) : d'.many = d.many := by unfold Dk.many; rw [h]
def Dk.jread (d : Dk) (i : Int) : List UInt8 := if i < 0 ∨ d.many ≤ i then [] else d.read (157 + i)
def Dk.lands (d : Dk) (l : List Wr) : Int × Dk := if (d.writes l).1 = 0 then (d.writes l).2.writes [⟨1, sect []⟩] else d.writes l
theorem sect_take {b : List UInt8} : (sect b).take 64 = sect b := List.take_of_length_le (by rw [sect_length]; exact Nat.le_refl _)
attribute [simp] sect_length sect_take
theorem setPs_cons {e : Env} {p : Tmp} {ps : List Tmp} {v : LV} {vs : List LV} : setPs e (p :: ps) (v :: vs) = setPs (e.set p v) ps vs := rfl
theorem setPs_nil {e : Env} : setPs e [] [] = e := rfl
attribute [simp] setPs_cons setPs_nil
theorem fits1 {n : Nat} (h : n ≤ 1000000) : fits n 1 := by unfold fits; omega
theorem app_z {x : LV} {n : Int} : appendT Tryz.prog #[40, 3] x (.d (.int .i64 n)) = if 0 ≤ n ∧ n ≤ 70368744177664 ∧ n * ((1 : Nat) : Int) ≤ 70368744177664 then growT 1 1 x (List.replicate n.toNat (.int .u8 0)) else .no := by
 have h1 : tyElem Tryz.prog 40 = some (5, 1) := by kernel_rfl
 have h2 : zeroD Tryz.prog 5 = some (.int .u8 0) := by kernel_rfl
 have h3 : tyBytes Tryz.prog 5 = 1 := by kernel_rfl
 have h4 : tyInt Tryz.prog 3 = some .i64 := by kernel_rfl
 simp only [appendT, List.getElem?_toArray, List.getElem?_cons_zero, List.getElem?_cons_succ, Option.bind_some, h1, h2, h3, h4];rfl
theorem rep_zeros {n : Nat} : List.replicate n (D.int .u8 0) = byD (zeros n) := by simp [byD, zeros]
theorem sect_eq {b : List UInt8} (h : b.length ≤ 64) : b ++ zeros (64 - b.length) = sect b := by unfold sect; rw [List.take_of_length_le h]
theorem grow_lit {es b : Nat} {xs ys : List D} (h1 : sized es xs) (h2 : ys ≠ []) (h3 : fits (xs.length + ys.length) b) : growT es b (.lit xs) ys = .new (.arr es (xs ++ ys) false) fun id => .ret (.ar (.arr id) es 0 (xs.length + ys.length)) := by
 unfold growT;simp only [if_pos h1, if_pos (show xs = [] ∨ ys ≠ [] from .inr h2), if_pos h3]
theorem jour_sector_lit {S : St} {b : List UInt8} {xs : List D} {Q : LV → St → Prop} (hx : xs = byD b) (hb : b.length < 64) (h : Q (.ar (.arr S.next) 1 0 64) (S.alloc (.arr 1 (byD (sect b)) false))) : SQ cf 66 [.lit xs] S Q := by
 subst hx;refine S_intro Tryz.func66 rfl rfl (Nat.le_of_ble_eq_true rfl) ?_;have e1 : IntKind.i64.wrap (64 - (b.length : Int)) = ((64 - b.length : Nat) : Int) := by rw [wrap_i64 (by omega) (by omega)]; omega
 have hz : byD (zeros (64 - b.length)) ≠ [] := by
  intro h;have := congrArg List.length h;simp [byD, zeros] at this; omega
 simp;intro _;rw [app_z, e1, if_pos (by omega), Int.toNat_natCast, rep_zeros, grow_lit (byD_sized b) hz (fits1 (by simp; omega))]
 simp [byD_append, sect_eq (Nat.le_of_lt hb)];rw [show b.length + (64 - b.length) = 64 by omega]
 exact h
theorem jour_sector_ar {S : St} {b : List UInt8} {id n : Nat} {Q : LV → St → Prop} (ho : S.obj id = .arr 1 (byD b) false) (hn : n = b.length) (hb : b.length ≤ 64) (h : Q (.ar (.arr S.next) 1 0 64) ((S.set id .dead).alloc (.arr 1 (byD (sect b)) false))) : SQ cf 66 [.ar (.arr id) 1 0 n] S Q := by
 subst hn;refine S_intro Tryz.func66 rfl rfl (Nat.le_of_ble_eq_true rfl) ?_;have e1 : IntKind.i64.wrap (64 - (b.length : Int)) = ((64 - b.length : Nat) : Int) := by rw [wrap_i64 (by omega) (by omega)]; omega
 simp;intro _;rw [app_z, e1, if_pos (by omega), Int.toNat_natCast, rep_zeros, grow_ar, if_pos rfl]
 have hl : b.length + (64 - b.length) = 64 := by omega
 have hf : fits 64 1 := fits1 (by omega)
 simp [ho, hl, byD_append, sect_eq hb];exact h
theorem sh_sector0 {S : St} {K : LV → St → List Nat → List Nat → Prop} (hK : K (.d (.sl (byD (sect [])))) S.tick [] []) : ShD cf 66 [.lit []] S K := by
 refine ShD_0 rfl rfl (jour_sector_lit (b := []) rfl (by decide) ?_)
 simp;exact hK
def twoB (n : Int) : List UInt8 := [u8 (n / 256), u8 n]
theorem jour_two {n : Int} {Q : LV → Prop} (h : Q (.d (.sl (byD (twoB n))))) : VQ cf 125 [.int .i64 n] Q := by
 refine V_intro rfl (S_intro Tryz.func125 rfl rfl (Nat.le_of_ble_eq_true rfl) ?_);simp;have e : n.fdiv (2 ^ min 8 IntKind.i64.bits) = n / 256 := by
  rw [Int.fdiv_eq_ediv_of_nonneg _ (by decide)]; rfl
 rw [e];exact h
theorem jour_lists {n : Nat} {Q : LV → Prop} (hn : n ≤ 1000000) (h : Q (.d (.int .i64 ((n + 31) / 32 : Nat)))) : VQ cf 107 [.int .i64 n] Q := by
 refine V_intro rfl (S_intro Tryz.func107 rfl rfl (Nat.le_of_ble_eq_true rfl) ?_);have e1 : IntKind.i64.wrap ((n : Int) + 32) = (n : Int) + 32 := wrap_i64 (by omega) (by omega)
 have e2 : IntKind.i64.wrap ((n : Int) + 32 - 1) = (n : Int) + 31 := by rw [wrap_i64 (by omega) (by omega)]; omega
 have e3 : IntKind.i64.wrap (((n : Int) + 31).tdiv 32) = (((n + 31) / 32 : Nat) : Int) := by
  have : ((n : Int) + 31).tdiv 32 = (((n + 31) / 32 : Nat) : Int) := by rw [Int.tdiv_eq_ediv_of_nonneg (by omega)]; omega
  rw [this, wrap_i64 (by omega) (by omega)]
 simp [e1, e2, e3];exact h
theorem jour_one {b : List UInt8} {Q : LV → Prop} (hb : 2 ≤ b.length) (h : Q (.d (.int .i64 (numAt b 0)))) : VQ cf 106 [.sl (byD b)] Q := by
 refine V_intro rfl (S_intro Tryz.func106 rfl rfl (Nat.le_of_ble_eq_true rfl) ?_);simp;refine X_draw (by decide) ?_
 have h0 : 0 < b.length := by omega
 simp [h0];refine ⟨by omega, ?_⟩
 have k0 := (nth b 0).toNat_lt;have k1 := (nth b 1).toNat_lt;have e : (IntKind.i64.wrap ((nth b 0).toNat * 2 ^ min 8 IntKind.i64.bits) % 2 ^ IntKind.i64.bits).toNat = (nth b 0).toNat * 256 := by
  have : ((nth b 0).toNat : Int) * 2 ^ min 8 IntKind.i64.bits = ((nth b 0).toNat * 256 : Nat) := by simp [IntKind.bits]
  rw [this, wrap_i64 (by omega) (by omega)]
  simp only [IntKind.bits];omega
 have e2 : (nth b 1).toNat % 2 ^ IntKind.i64.bits = (nth b 1).toNat := Nat.mod_eq_of_lt (by simp only [IntKind.bits]; omega)
 have e3 : (nth b 0).toNat * 256 ||| (nth b 1).toNat = (nth b 0).toNat * 256 + (nth b 1).toNat := by
  have := Nat.two_pow_add_eq_or_of_lt (i := 8) (b := (nth b 1).toNat) k1 (nth b 0).toNat;rw [Nat.mul_comm, show (256 : Nat) = 2 ^ 8 from rfl, ← this]
 rw [e, e2, e3, wrap_i64 (by omega) (by omega)]
 exact h
theorem jour_made {n : Int} {Q : LV → Prop} (h : Q (.d (.sl (byD (sect ([109, 97, 114, 107] ++ twoB n)))))) : VQ cf 85 [.int .i64 n] Q := by
 refine V_intro rfl (S_intro Tryz.func85 rfl rfl (Nat.le_of_ble_eq_true rfl) ?_);simp;refine jour_two ?_;simp;show TQ (growT 1 1 (.lit (byD [109, 97, 114, 107])) (byD (twoB n))) _ _;rw [grow_lit (byD_sized [109, 97, 114, 107]) (by simp [twoB, byD]) (fits1 (by simp [twoB, byD]))]
 simp [twoB];refine jour_sector_ar (b := [109, 97, 114, 107] ++ twoB n) (by simp [St.alloc, byD, twoB]) (by simp [twoB]) (by simp [twoB]) ?_
 simp [sect_length];exact h
theorem b_max {P : Program} {ts : Array TypeId} {k : IntKind} {a b : Int} : builtinT P .max ts [.d (.int k a), .d (.int k b)] = .ret (.d (.int k (if b > a then b else a))) := by simp [builtinT, minmaxT]
theorem b_min {P : Program} {ts : Array TypeId} {k : IntKind} {a b : Int} : builtinT P .min ts [.d (.int k a), .d (.int k b)] = .ret (.d (.int k (if b < a then b else a))) := by simp [builtinT, minmaxT]
attribute [simp] b_max b_min
theorem jour_Many {S : St} {id : Nat} {d : Dk} {Q : LV → St → Prop} (hI : IsD S id d) (hm : d.lasts.length ≤ 2000) (h : Q (.d (.int .i64 d.many)) S) : SQ cf 34 [.ptr id 0] S Q := by
 refine S_intro Tryz.func34 rfl rfl (Nat.le_of_ble_eq_true rfl) ?_;simp;refine dev_Size hI hm ?_;have e : IntKind.i64.wrap ((d.lasts.length : Int) - 157) = (d.lasts.length : Int) - 157 := wrap_i64 (by omega) (by omega)
 simp [e];have e2 : (if (d.lasts.length : Int) - 157 < 0 then (0 : Int) else (d.lasts.length : Int) - 157) = d.many := by unfold Dk.many; split <;> omega
 rw [e2]; exact h
theorem sh_Many {S : St} {id : Nat} {d : Dk} {K : LV → St → List Nat → List Nat → Prop} (hI : IsD S id d) (hm : d.lasts.length ≤ 2000) (hK : ∀ S2, IsD S2 id d → (∀ j, j ≠ id → S2.obj j = S.obj j) → S2.next = S.next → S2.clk = S.clk + 1 → S2.esc = S.esc → K (.d (.int .i64 d.many)) S2 [id] [id]) :
  ShD cf 34 [.ptr id 0] S K := ShD_D (d' := d) (x := .int .i64 d.many) hI rfl (by simp [argTame]) (fun S0 h0 => jour_Many h0 hm ⟨h0, close_d rfl⟩) hK
theorem Dk.writes_cons {d : Dk} {w : Wr} {l : List Wr} : d.writes (w :: l) = if (d.write w.pos w.data).1 = 0 then (d.write w.pos w.data).2.writes l else d.write w.pos w.data := rfl
theorem drop_cons {α : Type} [Inhabited α] {l : List α} {k : Nat} (h : k < l.length) : l.drop k = nth l k :: l.drop (k + 1) := by
 have : nth l k = l[k] := by simp [nth, h]
 rw [this, ← List.drop_eq_getElem_cons h]
theorem jour_writes {S : St} {id n : Nat} {d : Dk} {l : List Wr} {Q : LV → St → Prop} (hI : IsD S id d) (hw : Ok d (n + l.length + 1)) (hl : l.length ≤ 1000000)
  (h : ∀ S', IsD S' id (d.writes l).2 → Mod S S' id → Q (.d (.int .i64 (d.writes l).1)) S') : SQ cf 83 [.ptr id 0, .d (.sl (rowD wrD l))] S Q := by
 refine S_intro Tryz.func83 rfl rfl (Nat.le_of_ble_eq_true rfl) ?_;simp;intro _;refine X_loop (fun (k : Nat) e S' => k ≤ l.length ∧ e 0 = .ptr id 0 ∧ e 8 = .d (.sl (rowD wrD l)) ∧ e 9 = .d (.int .i64 l.length) ∧ e 10 = .d (.int .i64 k) ∧ ∃ d', IsD S' id d' ∧ Mod S S' id ∧ Ok d' (n + (l.drop k).length + 1) ∧ d.writes l = d'.writes (l.drop k)) (fun k => l.length - k) 0 ?_ ?_
 ·simp;exact ⟨d, hI, Mod.refl _ _, hw, rfl⟩
 ·intro k e S' hJ;obtain ⟨g1, g2, g3, g4, g5, d', hI', hM, hok, heq⟩ := hJ;simp [g4, g5];refine f_intro (fun j1 => ?_) (fun j1 => ?_)
  ·have q1 : ¬ id = S'.next := by have := hI'.1; omega
   rw [drop_cons j1] at heq hok;simp [g2, g3, g5, j1];have hIa : IsD (S'.alloc (.cells [.d (.int .i64 (nth l k).pos), .d (.sl (byD (nth l k).data))])) id d' := hI'.of (by simp [q1]) (by have := hI'.1; simp; omega)
   have hok1 : Ok d' ((n + (l.drop (k + 1)).length + 1) + 1) := by simpa [Nat.add_assoc] using hok
   refine dev_Write hIa hok1.wf hok1.keep fun S2 hI2 hM2 => ?_;have hM' : Mod S S2 id := (hM.alloc).trans hM2;rw [Dk.writes_cons] at heq;simp;refine f_intro (fun j2 => ?_) (fun j2 => ?_)
   ·rw [if_pos j2] at heq;simp [j2, g2, g3, g4, g5];exact ⟨k + 1, ⟨by omega, wrap_i64 (by omega) (by omega), _, hI2, hM', by simpa using hok1.write (i := (nth l k).pos) (b := (nth l k).data), heq⟩, by omega⟩
   ·rw [if_neg j2] at heq;rw [heq] at h;simp [j2];exact h _ hI2 hM'
  ·have e0 : l.drop k = [] := List.drop_of_length_le (by omega)
   rw [e0] at heq hok;simp [g2];have hok1 : Ok d' (n + 1) := hok;refine dev_Flush hI' hok1.wf hok1.keep fun S2 hI2 hM2 => ?_;have e1 : d.writes l = d'.flush := heq;rw [e1] at h;simp;exact h _ hI2 (hM.trans hM2)
theorem jour_lands {S : St} {id n : Nat} {d : Dk} {l : List Wr} {Q : LV → St → Prop} (hI : IsD S id d) (hw : Ok d (n + l.length + 3)) (hl : l.length ≤ 1000000)
  (h : ∀ S', IsD S' id (d.lands l).2 → Mod S S' id → Q (.d (.int .i64 (d.lands l).1)) S') : SQ cf 69 [.ptr id 0, .d (.sl (rowD wrD l))] S Q := by
 refine S_intro Tryz.func69 rfl rfl (Nat.le_of_ble_eq_true rfl) ?_;simp;have hw1 : Ok d ((n + 2) + l.length + 1) := hw.less (by omega)
 refine jour_writes hI hw1 hl fun S1 hI1 hM1 => ?_;have hw2 : Ok (d.writes l).2 (n + 2) := hw1.writes;simp;refine f_intro (fun j2 => ?_) (fun j2 => ?_)
 ·simp [j2];refine jour_sector_lit (b := []) rfl (by decide) ?_
  have hn := hI1.1;have q1 : ¬ id = S1.next := by omega
  simp;refine jour_writes (l := [⟨1, sect []⟩]) (n := n) (d := (d.writes l).2) ?_ hw2 (by decide) fun S2 hI2 hM2 => ?_
  ·exact hI1.of (by simp [q1]) (by simp; omega)
  ·rw [Dk.lands, if_pos j2] at h;simp;refine h _ hI2 ?_;refine Mod.trans ?_ hM2;exact hM1.alloc
 ·simp [j2];rw [Dk.lands, if_neg j2] at h;exact h _ hI1 hM1
theorem jour_Read {S : St} {id n : Nat} {d : Dk} {i : Int} {Q : LV → St → Prop} (hI : IsD S id d) (hw : Ok d n)
  (h : ∀ S' v, IsD S' id d → Kept S S' → (v = .d (.sl (byD (d.jread i))) ∨ (v = .lit [] ∧ d.jread i = [])) → Q v S') : SQ cf 36 [.ptr id 0, .d (.int .i64 i)] S Q := by
 refine S_intro Tryz.func36 rfl rfl (Nat.le_of_ble_eq_true rfl) ?_;have hmm : 0 ≤ d.many ∧ d.many ≤ 2000 := by have := hw.wf.many; unfold Dk.many; omega
 simp;refine f_intro (fun j1 => ?_) (fun j1 => ?_)
 ·simp [j1];exact h _ _ hI (Kept.refl S) (.inr ⟨rfl, if_pos (.inl j1)⟩)
 ·simp [j1];refine jour_Many hI hw.wf.many ?_;simp;refine f_intro (fun j2 => ?_) (fun j2 => ?_)
  ·simp [j2];exact h _ _ hI (Kept.refl S) (.inr ⟨rfl, if_pos (.inr j2)⟩)
  ·have e1 : IntKind.i64.wrap (157 + i) = 157 + i := wrap_i64 (by omega) (by omega)
   have e2 : d.jread i = d.read (157 + i) := if_neg (by omega)
   simp [j2, e1];refine dev_Read hI hw.wf fun v S' hk hv => ?_;simp;rw [e2] at h;exact h _ _ (hI.kept hk) hk hv
theorem jour_all1 {S : St} {id y bx : Nat} {d : Dk} {J : Nat → St → Prop} {Q : LV → St → Prop} (hI : IsD S id d) (hm : d.lasts.length ≤ 2000) (hb : S.obj bx = .cells [.ptr id 0]) (h0 : J 0 S)
  (hJ : ∀ (k : Nat) S1, (k : Int) < d.many → J k S1 → SQ cf YID [.yl y, .d (.int .i64 (157 + k))] S1 fun v S2 => v = .d (.bool true) ∧ J (k + 1) S2)
  (h : ∀ S', J d.many.toNat S' → Q (.tup []) S') : SQ cf 128 [.yl y, .ptr bx 0] S Q := by
 refine S_intro Tryz.func128 rfl rfl (Nat.le_of_ble_eq_true rfl) ?_;have hmm : 0 ≤ d.many ∧ d.many ≤ 2000 := by unfold Dk.many; omega
 simp [hb];refine jour_Many hI hm ?_;simp;refine X_loop (fun (k : Nat) e S' => (k : Int) ≤ d.many ∧ e 0 = .yl y ∧ e 5 = .d (.int .i64 d.many) ∧ e 6 = .d (.int .i64 k) ∧ J k S') (fun k => d.many.toNat - k) 0 ?_ ?_
 ·simp;exact ⟨hmm.1, h0⟩
 ·intro k e S' hK;obtain ⟨g1, g2, g3, g4, g5⟩ := hK;simp [g3, g4];refine f_intro (fun j1 => ?_) (fun j1 => ?_)
  ·have e1 : IntKind.i64.wrap (157 + (k : Int)) = 157 + (k : Int) := wrap_i64 (by omega) (by omega)
   simp [g2, g4, j1, e1];refine SQ_mono (hJ k S' j1 g5) fun v S2 hv => ?_;obtain ⟨rfl, hv⟩ := hv;simp [g2, g3, g4];exact ⟨k + 1, ⟨by omega, wrap_i64 (by omega) (by omega), hv⟩, by omega⟩
  ·have : k = d.many.toNat := by omega
   subst this;simp;exact h _ g5
theorem jour_all {S : St} {id : Nat} {Q : LV → St → Prop} (h : Q (.fn 128 [.ptr S.next 0]) (S.alloc (.cells [.ptr id 0]))) (hid : id ≤ S.next) : SQ cf 103 [.ptr id 0] S Q := by
 refine S_intro Tryz.func103 rfl rfl (Nat.le_of_ble_eq_true rfl) ?_;simp [hid];exact h
def fmt (k : Nat) : List Wr := [⟨0, sect [97, 112, 115, 116]⟩, ⟨1, sect []⟩] ++ (List.range k).map fun i => ⟨157 + (i : Int), sect []⟩
theorem fmt_succ {k : Nat} : fmt (k + 1) = fmt k ++ [⟨157 + (k : Int), sect []⟩] := by simp [fmt, List.range_succ]
theorem fmt_length {k : Nat} : (fmt k).length = k + 2 := by simp [fmt]
theorem fmt_row {k : Nat} : rowD wrD (fmt k) ++ [D.agg [.int .i64 (157 + k), .sl (byD (sect []))]] = rowD wrD (fmt (k + 1)) := by rw [fmt_succ]; simp [rowD]; rfl
theorem LoopO.same {L : LoopO} {c : Code} (h : c = L.bd) (hs : L.st = .rdy) : LoopO.mk L.ps L.as c L.e .rdy = L := by subst h; cases L; simp only at hs; subst hs; rfl
def Dk.format (d : Dk) : Int × Dk := if d.many = 0 then (5, d) else d.writes (fmt d.many.toNat)
theorem jour_Format {S : St} {id n : Nat} {d : Dk} {Q : LV → St → Prop} (hI : IsD S id d) (hw : Ok d (n + 3000))
  (h : ∀ S', IsD S' id d.format.2 → Mod S S' id → Q (.d (.int .i64 d.format.1)) S') : SQ cf 61 [.ptr id 0] S Q := by
 refine S_intro Tryz.func61 rfl rfl (Nat.le_of_ble_eq_true rfl) ?_;have hmm : 0 ≤ d.many ∧ d.many ≤ 2000 := by have := hw.wf.many; unfold Dk.many; omega
 have hid := hI.1;simp;refine jour_Many hI hw.wf.many ?_;simp;refine f_intro (fun j1 => ?_) (fun j1 => ?_)
 ·rw [Dk.format, if_pos j1] at h;simp [j1];exact h _ hI (Mod.refl _ _)
 ·rw [Dk.format, if_neg j1] at h;simp [j1];refine jour_sector_lit (b := [97, 112, 115, 116]) rfl (by decide) ?_
  simp;refine jour_sector_lit (b := []) rfl (by decide) ?_
  simp;refine jour_all ?_ (by simp; omega)
  simp;refine X_range (by simp; exact ⟨rfl, rfl⟩) (by decide) ?_
  simp;obtain ⟨a, ha⟩ : ∃ a, a = S.next + 1 + 1 := ⟨_, rfl⟩;obtain ⟨y, hy⟩ : ∃ y, y = S.next + 1 + 1 + 1 + 1 := ⟨_, rfl⟩;generalize hL : LoopO.mk _ _ _ _ _ = L;have q1 : ¬ id = S.next := by omega
  have q2 : ¬ id = S.next + 1 := by omega
  have q3 : ¬ id = S.next + 1 + 1 := by omega
  have q4 : ¬ id = S.next + 1 + 1 + 1 := by omega
  have q5 : ¬ id = S.next + 1 + 1 + 1 + 1 := by omega
  refine jour_all1 (id := id) (d := d) (J := fun k S' => S'.obj y = .loop L ∧ IsD S' id d ∧ Mod S S' id ∧ y < S'.next ∧ ∃ c, S'.obj a = .cells [c] ∧ (c = .lit (rowD wrD (fmt k)) ∨ ∃ v, c = .own v 2 (rowD wrD (fmt k)) false)) ?_ hw.wf.many ?_ ?_ (fun k S1 hk hJ => ?_) (fun S' hJ => ?_)
  ·exact hI.of (by simp [q1, q2, q3, q4, q5]) (by simp; omega)
  ·simp
  ·refine ⟨by simp [hy], hI.of (by simp [q1, q2, q3, q4, q5]) (by simp; omega), ?_, by simp [hy], _, by simp [ha]; rfl, .inl rfl⟩
   exact (((((((Mod.refl S id).alloc).alloc).set (.inr (by omega))).set (.inr (by omega))).alloc).set (.inr (by omega))).alloc.alloc
  ·obtain ⟨g1, g2, g3, g4, c, g5, g6⟩ := hJ;rw [← hy];refine S_yield cf_yid g1 (by rw [← hL]; rfl) (by rw [← hL]) ?_
   have hlp : L.ps = [21] := by rw [← hL]
   have e1 : L.as = .region 7 #[⟨some 4, .assign (.tmp 21), 3, "jour.go:77", #[], none⟩] false := by rw [← hL]
   have e2 : L.e 3 = .ptr a 0 := by rw [← hL, ha]; simp
   have hst : L.st = .rdy := by rw [← hL]
   have hay : ¬ a = y := by omega
   have hya : ¬ y = a := by omega
   have e3 := congrArg LoopO.bd hL;simp only at e3;clear hL;rw [e1, hlp];simp;refine ⟨L, g1, hst, ?_⟩;rw [← e3];have hi2 := g2.1;have r2 : ∀ m, ¬ a = S1.next + m := fun m => by omega
   have r3 : ∀ m, ¬ y = S1.next + m := fun m => by omega
   simp;refine X_draw (by decide) ?_
   have hqy : ¬ id = y := by omega
   have hqa : ¬ id = a := by omega
   have hq5 : ¬ id = S1.next + 500 := by omega
   have hge := g3.2.1;have hfl : (rowD wrD (fmt k)).length = k + 2 := by rw [rowD_length, fmt_length]
   rcases g6 with rfl | ⟨v, rfl⟩
   ·simp [e2, g5, hay];refine sh_sector0 ?_;simp [hay];rw [grow_lit (by rw [wrD_sized]; trivial) (by simp) (by rw [hfl]; unfold fits; simp; omega)]
    simp [e2, g5, hay, hya, r2, r3];refine ⟨⟨by decide, by decide⟩, rfl, LoopO.same e3 hst, ?_, ?_, by omega, fmt_row⟩
    ·exact g2.of (by simp [hqy, hqa, hq5]) (by simp; omega)
    ·exact g3.of (fun j hj hne => by simp [show ¬ j = y by omega, show ¬ j = a by omega, show ¬ j = S1.next + 500 by omega]) (by simp) (by simp) rfl
   ·simp [e2, g5, hay];refine sh_sector0 ?_;simp [e2, g5, hay, hya, r2, r3];have hfl2 : (fmt k).length = k + 2 := fmt_length;refine ⟨⟨by omega, by omega⟩, ⟨by decide, by decide⟩, rfl, LoopO.same e3 hst, ?_, ?_, by omega, fmt_row⟩
    ·exact g2.of (by simp [hqy, hqa, hq5]) (by simp; omega)
    ·exact g3.of (fun j hj hne => by simp [show ¬ j = y by omega, show ¬ j = a by omega, show ¬ j = S1.next + 500 by omega]) (by simp) (by simp) rfl
  ·obtain ⟨g1, g2, g3, g4, c, g5, g6⟩ := hJ;have hst : L.st = .rdy := by rw [← hL]
   clear hL;rw [← hy, ← ha];refine endY_rdy g1 hst ?_;have hay : ¬ a = y := by omega
   have hya : ¬ y = a := by omega
   have hlen : (fmt d.many.toNat).length ≤ 2002 := by rw [fmt_length]; omega
   have hw1 : Ok d (n + (fmt d.many.toNat).length + 1) := hw.less (by omega)
   have hqy : ¬ id = y := by omega
   have hqa : ¬ id = a := by omega
   rcases g6 with rfl | ⟨v, rfl⟩
   ·simp [g5, hay];refine jour_writes (d := d) (g2.of (by simp [hqy]) (by simp; exact g2.1)) hw1 (by omega) fun S2 hI2 hM2 => ?_
    simp;refine h _ hI2 ?_;refine Mod.trans ?_ hM2;exact g3.set (.inr (by omega))
   ·simp [g5, hay];refine jour_writes (d := d) (g2.of (by simp [hqy, hqa]) (by simp; exact g2.1)) hw1 (by omega) fun S2 hI2 hM2 => ?_
    simp;refine h _ hI2 ?_;refine Mod.trans ?_ hM2;exact (g3.set (.inr (by omega))).set (.inr (by omega))
end Go.VM
