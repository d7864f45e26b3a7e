/- Law FsRoom. No condition. -/
import Derived.Test.YtmahmajoelmmeaaGreatPg
namespace Go.VM
open Go.Proofs
set_option maxRecDepth 4000
attribute [-simp] Int.not_lt Int.not_le Nat.not_lt Nat.not_le
def nameI (i : Nat) : List UInt8 := [102, u8 (48 + (i / 10 : Nat)), u8 (48 + (i % 10 : Nat))]
def sizeI (sizes : List Int) (i : Nat) : Nat := ((nth sizes i % 2 ^ 64).toNat &&& 511)
def opI (sizes : List Int) (i : Nat) : FOp := ⟨false, nameI i, zeros (sizeI sizes i)⟩
def opsI (sizes : List Int) (k : Nat) : List FOp := (List.range k).map (opI sizes)
def needI (sizes : List Int) (k : Nat) : Nat := ((List.range k).map fun i => needN (sizeI sizes i)).sum
theorem nameI_ok : ∀ i, i < 45 → isName (nameI i) = true ∧ ∀ j, j < 45 → nameI i = nameI j → i = j := by decide +kernel
theorem opsI_ok {sizes : List Int} {k : Nat} (hk : k ≤ 45) : (∀ o ∈ opsI sizes k, o.drop = false ∧ isName o.name = true ∧ o.data.length ≤ 600) ∧ ((opsI sizes k).map (·.name)).Nodup ∧ ((opsI sizes k).map fun o => needN o.data.length).sum = needI sizes k := by
 refine ⟨fun o ho => ?_, ?_, ?_⟩
 ·obtain ⟨i, hi, rfl⟩ := List.mem_map.1 ho;have hi := List.mem_range.1 hi;refine ⟨rfl, (nameI_ok i (by omega)).1, ?_⟩
  show (zeros (sizeI sizes i)).length ≤ 600;rw [zeros_length];exact Nat.le_trans Nat.and_le_right (by decide)
 ·unfold opsI;rw [List.map_map];refine List.pairwise_map.2 (List.Pairwise.imp_of_mem (fun {i j} hi hj hij e => hij ?_) List.nodup_range);have hi := List.mem_range.1 hi;have hj := List.mem_range.1 hj;exact (nameI_ok i (by omega)).2 j (by omega) e
 ·unfold opsI needI;rw [List.map_map];congr 1;refine List.map_congr_left fun i _ => ?_;show needN (zeros (sizeI sizes i)).length = _;rw [zeros_length]
theorem bytes2 {a b : UInt8} : bytesOf? [.int .u8 a.toNat, .int .u8 b.toNat] = some [a, b] := byD_of (b := [a, b])
theorem opsI_succ {sizes : List Int} {k : Nat} (hk : k < 45) : rowD fopD (opsI sizes k) ++ [.agg [.bool false, .str [102, u8 (IntKind.i64.wrap (48 + IntKind.i64.wrap ((k : Int) / 10))), u8 (IntKind.i64.wrap (48 + (k : Int).tmod 10))], .sl (byD (zeros (sizeI sizes k)))]] = rowD fopD (opsI sizes (k + 1)) := by
 have e1 : IntKind.i64.wrap (48 + IntKind.i64.wrap ((k : Int) / 10)) = 48 + ((k / 10 : Nat) : Int) := by
  rw [wrap_i64 (n := (k : Int) / 10) (by omega) (by omega), wrap_i64 (by omega) (by omega)]; omega
 have e2 : IntKind.i64.wrap (48 + (k : Int).tmod 10) = 48 + ((k % 10 : Nat) : Int) := by
  rw [Int.tmod_eq_emod_of_nonneg (by omega), wrap_i64 (by omega) (by omega)]; omega
 rw [e1, e2];unfold opsI;rw [List.range_succ, List.map_append];simp [rowD];rfl
theorem opsI_len {sizes : List Int} {k : Nat} : (opsI sizes k).length = k := by simp [opsI]
theorem sizeI_le {sizes : List Int} {k : Nat} : sizeI sizes k ≤ 511 := Nat.and_le_right
theorem sizeI_eq {sizes : List Int} {k : Nat} : IntKind.i64.wrap ((((nth sizes k % 2 ^ IntKind.i64.bits).toNat &&& 511 % 2 ^ IntKind.i64.bits : Nat)) : Int) = (sizeI sizes k : Int) := by
 have h := sizeI_le (sizes := sizes) (k := k);have e : ((nth sizes k % 2 ^ IntKind.i64.bits).toNat &&& 511 % 2 ^ IntKind.i64.bits) = sizeI sizes k := by
  rw [bits64];rfl
 rw [e, wrap_i64 (by omega) (by omega)]
theorem needI_le {sizes : List Int} {k : Nat} : needI sizes k ≤ k * 10 := by
 have := sum_le (l := List.range k) (g := fun i => needN (sizeI sizes i)) (k := 10) fun i _ => need_600 (Nat.le_trans sizeI_le (by decide))
 rwa [List.length_range] at this
theorem needI_succ {sizes : List Int} {k : Nat} (hk : k < 45) : IntKind.i64.wrap ((needI sizes k : Int) + IntKind.i64.wrap ((IntKind.i64.wrap ((sizeI sizes k : Int) + 63)).tdiv 64)) = (needI sizes (k + 1) : Int) := by
 have h1 := needI_le (sizes := sizes) (k := k);have h2 := sizeI_le (sizes := sizes) (k := k);have h3 := need_600 (n := sizeI sizes k) (by omega)
 have e : needI sizes (k + 1) = needI sizes k + needN (sizeI sizes k) := by
  unfold needI;rw [List.range_succ, List.map_append, List.sum_append];simp
 rw [go_need (by omega), wrap_i64 (by omega) (by omega), e]
 omega
set_option maxHeartbeats 4000000 in
theorem law_FsRoom {places : Int} {sizes : List Int} (_ : (Lit.int .i64 places).wf = true) (hs : (∀ a ∈ sizes, (Lit.int .i64 a).wf = true) ∧ sizes.length * 8 ≤ lim) : VQ cf 4 [.int .i64 places, .sl (inD sizes)] fun v => v = .d (.bool true) := by
 refine V_intro rfl (S_intro Tryz.func4 rfl rfl (Nat.le_of_ble_eq_true rfl) ?_);simp;refine f_intro (fun k1 => ?_) (fun k1 => ?_)
 ·simp [k1]
 simp [k1];refine f_intro (fun k2 => ?_) (fun k2 => ?_)
 ·simp [k2]
 simp [k2];intro _;refine f_intro (fun k3 => ?_) (fun k3 => ?_)
 ·simp [k3]
 obtain ⟨p, rfl⟩ : ∃ p : Nat, places = p := ⟨places.toNat, by omega⟩
 simp [k3];refine law5_disk (p := p) (by omega) fun S1 a c ha hc hne hI hR hK => ?_
 obtain ⟨s1, s3⟩ := fmt_sd (p := p) (by omega)
 have o1 : Ok (fmtD p) 10000 := fmt_ok (by omega) (by decide)
 have hmt := mount_sd s1;simp;refine fs_Mount hI (n := 9800) o1 (fun he => absurd (by rw [hmt]) he) fun _ S2 fid hf hI2 hF2 hM2 => ?_
 rw [hmt] at hI2 hF2;replace hI2 : IsD S2 a (fmtD p) := hI2;replace hF2 : IsF S2 fid a [] := hF2;clear hI hR hK hmt;generalize fmtD p = d0 at s1 s3 o1 hI2 hF2;simp;refine X_loop (fun (k : Nat) e S => k ≤ sizes.length ∧ e 0 = .d (.int .i64 p) ∧ e 1 = .d (.sl (inD sizes)) ∧ e 7 = .ptr fid 0 ∧ e 10 = .d (.int .i64 (needI sizes k)) ∧ e 11 = .d (.int .i64 k) ∧ Kept S2 S ∧ NewSl S2 S (e 9) 3 (rowD fopD (opsI sizes k))) (fun k => sizes.length - k) 0 ?_ ?_
 ·simp;exact ⟨rfl, Kept.refl _, .inl ⟨rfl, rfl⟩⟩
 intro k e S hJ;obtain ⟨g1, g0, g2, g7, g10, g11, hK, hN⟩ := hJ;simp [g2, g11];intro _;refine f_intro (fun j1 => ?_) (fun j1 => ?_)
 ·have hk45 : k < 45 := by omega
  have hsz := sizeI_le (sizes := sizes) (k := k);simp [g2, g11, g10, j1, sizeI_eq];refine X_drawM [0, 0, 2, 6, 14, 0, 32, 96, 224, 510, 1022, 2046, 0, 4096, 16382, 32766, 65534, 131071, 262143] (by decide +kernel) (by decide +kernel) ?_
  simp [g11, bytes2];refine ⟨by omega, ?_⟩
  have hKn := hK.2.1;refine NewSl.growL (zs := rowD fopD (opsI sizes (k + 1))) (hN.up (fun j _ hj => by simp [show ¬ j = S.next + 1300 by omega]) (by simp)) (by simp; omega) (opsI_succ hk45) (by rw [rowD_length, opsI_len]; unfold fits; omega) fun i S3 r w q1 q2 q3 q4 q5 q6 q7 q8 q9 q10 => ?_
  simp at q5 q6 q7 q8 q9 q10;simp [g0, g2, g7, g11];have hK3 := q4 ⟨fun j hj => by simp [show ¬ j = S.next + 1300 by omega, hK.1 j hj], by simp; omega, by have := hK.2.2.1; simp; omega, hK.2.2.2⟩
  refine ⟨⟨by omega, by omega⟩, ⟨⟨.inl (by decide), .inl (by decide)⟩, by decide⟩, k + 1, ⟨by omega, needI_succ hk45, wrap_i64 (by omega) (by omega), ⟨hK3.1, by show S2.next ≤ S.next + 1900; omega, by have := hK.2.2.1; show S2.clk ≤ S.clk + 1900; omega, hK3.2.2.2⟩, .inr ⟨i, q2, by show i < S.next + 1900; omega, by rw [rowD_length], q1⟩⟩, by omega⟩
 ·have hkl : k = sizes.length := by omega
  subst hkl;simp [g7];refine hN.lend fun S3 q1 q2 q3 q4 => ?_;have hK3 := q1 hK;obtain ⟨t1, t2, t3⟩ := opsI_ok (sizes := sizes) (k := sizes.length) (by omega)
  obtain ⟨u1, u2⟩ := room_all (many := d0.many) (ops := opsI sizes sizes.length) (by omega) s1.wl t1 t2
  rw [t3, opsI_len] at u1 u2;have hnl := needI_le (sizes := sizes) (k := sizes.length);simp;refine fs_DoS (n := 9000) (hI2.kept hK3) (hF2.of (hK3.1 _ hF2.lt.1) (by have := hF2.lt.1; have := hK3.2.1; omega)) s1 (o1.less (by omega)) ⟨by rw [opsI_len]; omega, fun o ho => by have := (t1 o ho).2.2; omega⟩ fun S4 d4 c4 hI4 hF4 s4 o4 m4 ho4 hn4 => ?_
  have wp : IntKind.i64.wrap ((p : Int) - 40) = (p : Int) - 40 := wrap_i64 (by omega) (by omega)
  have wn : IntKind.i64.wrap ((needI sizes sizes.length : Int) + (sizes.length : Int)) = (needI sizes sizes.length : Int) + (sizes.length : Int) := wrap_i64 (by omega) (by omega)
  have wq : IntKind.i64.wrap ((p : Int) - 40 - (needI sizes sizes.length : Int)) = (p : Int) - 40 - (needI sizes sizes.length : Int) := wrap_i64 (by omega) (by omega)
  have hll := left_len s4.wl (by omega)
  rw [← nmd_sum] at hll;generalize needI sizes sizes.length = N at hnl u1 u2 wn wq g10 hll;generalize hr : doR [] d0.many (opsI sizes sizes.length) = r at u1 u2 hF4 s4 hll;obtain ⟨er, w, fl⟩ := r;simp only at u1 u2 hF4 s4 hll;simp [-X_seq];refine PX_seqcut (fun e' S' => e' 0 = .d (.int .i64 p) ∧ e' 1 = .d (.sl (inD sizes)) ∧ e' 7 = .ptr fid 0 ∧ e' 10 = .d (.int .i64 N) ∧ e' 13 = .d (.int .i64 er) ∧ e' 14 = .d (.bool (decide ((N : Int) ≤ d0.many - 40 ∧ sizes.length ≤ 40 ∧ N + sizes.length ≤ 150))) ∧ S' = S4) ?_ fun e5 S5 hE => ?_
  ·simp [g0, g10, wp];refine f_intro (fun x1 => ?_) (fun x1 => ?_)
   ·simp [g2, x1];intro _;refine f_intro (fun x2 => ?_) (fun x2 => ?_)
    ·simp [g2, g10, x2, wn];intro _;refine ⟨g0, g7, ?_⟩;rw [Bool.eq_iff_iff];simp;omega
    ·simp [g2, g10, x2, g0, g7];omega
   ·simp [g2, g10, x1, g0, g7];omega
  obtain ⟨h0, h1, h7, h10, h13, h14, rfl⟩ := hE;clear g0 g2 g7 g10 g11;by_cases hwell : (N : Int) ≤ d0.many - 40 ∧ sizes.length ≤ 40 ∧ N + sizes.length ≤ 150
  ·obtain ⟨z1, z2, z3⟩ := u1 hwell;rw [decide_eq_true hwell] at h14;simp [h14, h13, z1, h7];refine fs_List hF4 (wl_list s4.wl) fun v S6 hK6 hN6 => ?_;have e9 : (listF fl).length = sizes.length := by simp [listF, z2]
   simp;refine hN6.r.lenF ?_;rw [rowD_length, e9];simp [h1];intro _;simp [h7];refine fs_Left (hI4.kept hK6) (hF4.of (hK6.1 _ hF4.lt.1) (by have := hF4.lt.1; have := hK6.2.1; omega)) (wl_size s4.wl) o4 fun S7 hI7 hF7 hM7 => ?_
   have wr : IntKind.i64.wrap ((p : Int) - 40 - (N : Int)) = ((leftOf' fl d4.many).length : Int) := by rw [wq, hll, z3]; omega
   simp [h0, h10, wp, wr];refine law5_known ?_;simp
  ·obtain ⟨z1, z2⟩ := u2 hwell;rw [decide_eq_false hwell] at h14;subst z2;simp [h14, h13, z1, h7];refine fs_List hF4 (wl_list s4.wl) fun v S6 hK6 hN6 => ?_;simp;refine hN6.r.lenF ?_;rw [rowD_length];simp [h7, listF];refine fs_Left (hI4.kept hK6) (hF4.of (hK6.1 _ hF4.lt.1) (by have := hF4.lt.1; have := hK6.2.1; omega)) (wl_size s4.wl) o4 fun S7 hI7 hF7 hM7 => ?_
   have wr : ((leftOf' [] d4.many).length : Int) = (p : Int) - 40 := by rw [hll]; simp; omega
   simp [h0, wp, wr];refine law5_known ?_;simp
end Go.VM
