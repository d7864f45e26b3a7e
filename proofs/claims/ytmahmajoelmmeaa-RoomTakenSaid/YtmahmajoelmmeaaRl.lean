/- Chapter 4: which places are free: the document's Is, the laws. No condition. -/
import Derived.Test.YtmahmajoelmmeaaRr
namespace Go.VM
open Go.Proofs
set_option maxRecDepth 4000
attribute [-simp] Int.not_lt Int.not_le Nat.not_lt Nat.not_le
theorem ref4_Is {l : List Nd} {many : Int} {Q : LV → Prop} (hz : ∀ x ∈ l, x.size ≤ 9223372036854775807) (h : Q (.d (.bool (roomIs l many)))) : VQ cf 30 [.sl (rowD ndD l), .int .i64 many] Q := by
  refine V_intro rfl (S_intro Try.func30 rfl rfl (Nat.le_of_ble_eq_true rfl) ?_)
  simp
  intro hl
  refine f_intro (fun k1 => ?_) (fun k1 => ?_)
  · simp [k1]
    simpa [roomIs, show ¬ l.length ≤ 40 from by omega] using h
  · simp [k1]
    refine f_intro (fun k2 => ?_) (fun k2 => ?_)
    · simp [k2]
      simpa [roomIs, show ¬ 0 ≤ many from by omega] using h
    · simp [k2]
      refine f_intro (fun k3 => ?_) (fun k3 => ?_)
      · simp [k3]
        simpa [roomIs, show ¬ many ≤ 2000 from by omega] using h
      · simp [k3]
        refine X_loop (fun (i : Nat) e S => i ≤ l.length ∧ e 0 = .d (.sl (rowD ndD l)) ∧ e 1 = .d (.int .i64 many) ∧ e 5 = .d (.int .i64 i) ∧ Gd (l.take i) many) (fun i => l.length - i) 0 ?_ ?_
        · simp [Gd_nil]
        · intro i e S hI
          obtain ⟨g1, g2, g3, g4, g5⟩ := hI
          simp [g2, g4, hl]
          refine f_intro (fun j1 => ?_) (fun j1 => ?_)
          · have bad : ¬ Gd (l.take (i + 1)) many → Q (.d (.bool false)) := fun hb => by rw [roomIs_not j1 hb] at h; exact h
            simp [g2, g4, j1]
            refine ref3_IsN (x := nth l i) (hz _ (nth_mem j1)) ?_
            simp
            refine f_intro (fun j2 => ?_) (fun j2 => ?_)
            · simp [j2]
              refine bad fun hg => ?_
              rw [takeN j1, Gd_snoc] at hg
              rw [hg.2.1] at j2; cases j2
            · simp [j2]
              refine X_loop (fun (j : Nat) e S => j ≤ (nth l i).places.length ∧ e 0 = .d (.sl (rowD ndD l)) ∧ e 1 = .d (.int .i64 many) ∧ e 5 = .d (.int .i64 i) ∧ e 6 = .d (.int .i64 j) ∧
                ∀ p ∈ (nth l i).places.take j, (40 ≤ p ∧ p < many) ∧ p ∉ placesOf (l.take i)) (fun j => (nth l i).places.length - j) 0 ?_ ?_
              · simp [g2, g3, g4]
              · intro j e S hJ
                obtain ⟨f1, f2, f3, f4, f5, f6⟩ := hJ
                simp [f2, f4, f5, j1]
                intro hp
                refine f_intro (fun m1 => ?_) (fun m1 => ?_)
                · simp
                  refine X_draw (by decide) ?_
                  have hbad : (¬ (40 ≤ nth (nth l i).places j ∧ nth (nth l i).places j < many) ∨ nth (nth l i).places j ∈ placesOf (l.take i)) → Q (.d (.bool false)) := by
                    intro hb
                    refine bad fun hg => ?_
                    rw [takeN j1, Gd_snoc] at hg
                    obtain ⟨u1, u2⟩ := hg.2.2.2 _ (nth_mem m1)
                    rcases hb with hb | hb
                    · exact hb u1
                    · exact u2 hb
                  simp [f2, f3, f4, f5, j1, m1]
                  refine f_intro (fun m2 => ?_) (fun m2 => ?_)
                  · simp [m2]
                    exact hbad (.inl (by omega))
                  · simp [m2, f2, f3, f4, f5, j1, m1]
                    refine f_intro (fun m3 => ?_) (fun m3 => ?_)
                    · simp [m3]
                      exact hbad (.inl (by omega))
                    · simp [m3, f2, f3, f4, f5, j1, m1]
                      refine ⟨by omega, ref4_has ?_⟩
                      simp
                      refine f_intro (fun m4 => ?_) (fun m4 => ?_)
                      · simp [m4]
                        exact hbad (.inr m4)
                      · simp [m4, f2, f3, f4, f5]
                        refine ⟨j + 1, ⟨by omega, wrap_i64 (by omega) (by omega), fun p hp2 => ?_⟩, by omega⟩
                        rw [takeN m1] at hp2
                        rcases List.mem_append.1 hp2 with hp2 | hp2
                        · exact f6 p hp2
                        · simp at hp2; subst hp2
                          exact ⟨by omega, m4⟩
                · have hj : j = (nth l i).places.length := by omega
                  subst hj
                  rw [List.take_length] at f6
                  simp
                  refine X_loop (fun (k : Nat) e S => k ≤ i ∧ e 0 = .d (.sl (rowD ndD l)) ∧ e 1 = .d (.int .i64 many) ∧ e 5 = .d (.int .i64 i) ∧ e 7 = .d (.int .i64 k) ∧ (nth l i).name ∉ namesOf (l.take k)) (fun k => i - k) 0 ?_ ?_
                  · simp [f2, f3, f4, namesOf]
                  · intro k e S hN
                    obtain ⟨n1, n2, n3, n4, n5, n6⟩ := hN
                    simp [n4, n5]
                    refine f_intro (fun m2 => ?_) (fun m2 => ?_)
                    · have hk : k < l.length := by omega
                      simp
                      refine X_draw (by decide) ?_
                      simp [n2, n4, n5, j1, hk]
                      refine f_intro (fun m3 => ?_) (fun m3 => ?_)
                      · simp [m3]
                        refine bad fun hg => ?_
                        rw [takeN j1, Gd_snoc] at hg
                        refine hg.2.2.1 (m3 ▸ ?_)
                        refine List.mem_map.2 ⟨nth l k, ?_, rfl⟩
                        have : nth (l.take i) k = nth l k := nth_take m2
                        rw [← this]
                        exact nth_mem (by simp; omega)
                      · simp [m3, n2, n3, n4, n5]
                        refine ⟨k + 1, ⟨by omega, wrap_i64 (by omega) (by omega), fun hm => ?_⟩, by omega⟩
                        rw [takeN hk, namesOf_snoc] at hm
                        rcases List.mem_append.1 hm with hm | hm
                        · exact n6 hm
                        · simp at hm; exact m3 hm.symm
                    · have hk : k = i := by omega
                      subst hk
                      simp [n2, n3, n4]
                      refine ⟨k + 1, ⟨by omega, wrap_i64 (by omega) (by omega), ?_⟩, by omega⟩
                      rw [takeN j1, Gd_snoc]
                      exact ⟨g5, by simpa using j2, n6, f6⟩
          · have hi : i = l.length := by omega
            subst hi
            rw [List.take_length] at g5
            have hr : roomIs l many = true := by simp [roomIs, g5]; omega
            simp
            rw [← hr]; exact h
theorem law4_many {l : List Nd} {Q : LV → Prop} (hl : l.length ≤ lim) (hs : ∀ x ∈ l, x.name.length ≤ lim ∧ x.places.length ≤ lim) (h : ∀ b, (b = false → l.length ≤ 1500) → Q (.d (.bool b))) : VQ cf 28 [.sl (rowD ndD l)] Q := by
  refine V_intro rfl (S_intro Try.func28 rfl rfl (Nat.le_of_ble_eq_true rfl) ?_)
  simp
  intro hl1
  refine X_loop (fun (i : Nat) e S => i ≤ 60 ∧ e 0 = .d (.sl (rowD ndD l)) ∧ (∃ n : Nat, e 3 = .d (.int .i64 n) ∧ l.length ≤ n ∧ n ≤ lim + 2 * lim * i) ∧ e 4 = .d (.int .i64 i)) (fun i => 60 - i) 0 ?_ ?_
  · simp
    exact ⟨l.length, rfl, by omega, hl⟩
  · intro i e S hI
    obtain ⟨g1, g2, ⟨n, g3, g4, g5⟩, g6⟩ := hI
    have fin : Q (.d (.bool (decide (1500 < (n : Int))))) := by
      refine h _ fun hb => ?_
      simp at hb; omega
    simp [g2, g6, hl1]
    refine f_intro (fun j1 => ?_) (fun j1 => ?_)
    · simp [g6, j1]
      refine f_intro (fun j2 => ?_) (fun j2 => ?_)
      · simp [j1, j2]
        refine X_draw (by decide) ?_
        obtain ⟨s1, s2⟩ := hs _ (nth_mem j1)
        have w1 : IntKind.i64.wrap ((n : Int) + (nth l i).places.length) = n + (nth l i).places.length := wrap_i64 (by omega) (by simp only [lim] at *; omega)
        have w2 : IntKind.i64.wrap ((n : Int) + (nth l i).places.length + (nth l i).name.length) = n + (nth l i).places.length + (nth l i).name.length := wrap_i64 (by omega) (by simp only [lim] at *; omega)
        simp [g2, g3, g6, j1, w1, w2]
        intro _ _
        refine ⟨i + 1, ⟨by omega, ⟨n + (nth l i).places.length + (nth l i).name.length, by omega, by omega, ?_⟩, wrap_i64 (by omega) (by omega)⟩, by omega⟩
        simp only [lim] at *; omega
      · simp [j1, j2, g3]
        simpa using fin
    · simp [j1, g3]
      simpa using fin
theorem law4_of {l : List Nd} {Q : LV → Prop} (hl : l.length ≤ 1500) (h : Q (.d (.sl (rowD ndD l)))) : VQ cf 29 [.sl (rowD ndD l)] Q := by
  refine V_intro rfl (S_intro Try.func29 rfl rfl (Nat.le_of_ble_eq_true rfl) ?_)
  simp
  refine X_loop (fun (i : Nat) e S => i ≤ l.length ∧ e 0 = .d (.sl (rowD ndD l)) ∧ e 4 = .d (.int .i64 i) ∧ (i = 0 ∧ e 3 = .lit [] ∨ ∃ a, 0 < i ∧ a < S.next ∧ e 3 = .ar (.arr a) 3 0 i ∧ S.obj a = .arr 3 (rowD ndD (l.take i)) false)) (fun i => l.length - i) 0 ?_ ?_
  · simp
  · intro i e S hI
    obtain ⟨g1, g2, g3, g4⟩ := hI
    simp [g2, g3]
    intro _
    refine f_intro (fun j1 => ?_) (fun j1 => ?_)
    · simp
      refine X_draw (by decide) ?_
      rcases g4 with ⟨rfl, g4⟩ | ⟨a, a0, a1, g4, g5⟩
      · simp [g2, g3, g4, j1]
        refine ⟨1, ⟨by omega, rfl, by omega, _, by omega, ⟨rfl, rfl⟩, ?_⟩, by omega⟩
        simp [takeN j1, rowD_one, ndD]
      · simp [g2, g3, g4, g5, j1]
        refine ⟨⟨by omega, by omega, by omega⟩, i + 1, ⟨by omega, wrap_i64 (by omega) (by omega), by omega, _, by omega, ⟨rfl, rfl⟩, ?_⟩, by omega⟩
        simp [takeN j1, rowD_snoc, ndD, List.take_take]
    · have hi : i = l.length := by omega
      subst hi
      simp
      rcases g4 with ⟨g0, g4⟩ | ⟨a, a0, a1, g4, g5⟩
      · have hnil : l = [] := by cases l with
          | nil => rfl
          | cons x l => cases g0
        subst hnil
        simp [g4]
        exact h
      · rw [List.take_length] at g5
        simp [g4, g5]
        exact h
theorem law4_named {l : List Nd} {s : List UInt8} {Q : LV → Prop} (h : Q (.d (.bool (decide (s ∈ namesOf l))))) : VQ cf 38 [.sl (rowD ndD l), .str s] Q := by
  refine V_intro rfl (S_intro Try.func38 rfl rfl (Nat.le_of_ble_eq_true rfl) ?_)
  simp
  refine X_loop (fun (i : Nat) e S => i ≤ l.length ∧ e 0 = .d (.sl (rowD ndD l)) ∧ e 1 = .d (.str s) ∧ e 5 = .d (.int .i64 i) ∧ s ∉ namesOf (l.take i)) (fun i => l.length - i) 0 ?_ ?_
  · simp [namesOf]
  · intro i e S hI
    obtain ⟨g1, g2, g3, g4, g5⟩ := hI
    simp [g2, g4]
    intro hl
    refine f_intro (fun j1 => ?_) (fun j1 => ?_)
    · simp [g2, g3, g4, j1]
      refine f_intro (fun m2 => ?_) (fun m2 => ?_)
      · simp [m2]
        have hin : s ∈ namesOf l := List.mem_map.2 ⟨nth l i, nth_mem j1, m2⟩
        simpa [hin] using h
      · simp [m2, g2, g3, g4]
        refine ⟨i + 1, ⟨by omega, wrap_i64 (by omega) (by omega), fun hm => ?_⟩, by omega⟩
        rw [takeN j1, namesOf_snoc] at hm
        rcases List.mem_append.1 hm with hm | hm
        · exact g5 hm
        · simp at hm; exact m2 hm.symm
    · have hi : i = l.length := by omega
      subst hi
      rw [List.take_length] at g5
      simp
      simpa [g5] using h
theorem law4_known {Q : LV → Prop} (h : Q (.d (.bool true))) : VQ cf 32 [] Q := by
  refine V_intro rfl (S_intro Try.func32 rfl rfl (Nat.le_of_ble_eq_true rfl) ?_)
  simp
  refine room_Take (l := []) (by simp) ?_
  simp [takeD, show takeOf (if roomIs [] 43 = true then freeOf [] 43 else []) 2 = ([40, 41], true) from by decide]
  refine room_Free (l := []) (by simp) ?_
  simp [show (if roomIs [] 43 = true then freeOf [] 43 else []) = [40, 41, 42] from by decide]
  refine ref4_Ints (l := [40, 41, 42]) (k := [40, 41, 42]) ?_
  simp
  refine ref4_Ints (l := [40, 41]) (k := [40, 41]) ?_
  simp
  refine room_Is (l := []) (by simp) ?_
  simp [show roomIs [] 43 = true from by decide]
  refine room_Is (l := []) (by simp) ?_
  simp [show roomIs [] (-1) = false from by decide]
  exact h
def okNd (x : Nd) : Prop := x.name.length ≤ lim ∧ (Lit.int .i64 x.size).wf = true ∧ ((∀ a ∈ x.places, (Lit.int .i64 a).wf = true) ∧ x.places.length * 8 ≤ lim) ∧ True
theorem wf_i64 {n : Int} : (Lit.int .i64 n).wf = true ↔ -9223372036854775808 ≤ n ∧ n ≤ 9223372036854775807 := by
  simp [Lit.wf, IntKind.min, IntKind.max, IntKind.bits, IntKind.signed]
theorem okNd_size {l : List Nd} (h : ∀ x ∈ l, okNd x) : ∀ x ∈ l, x.size ≤ 9223372036854775807 := fun x hx => (wf_i64.1 (h x hx).2.1).2
theorem law_RoomTells {l : List Nd} {many want : Int} (k0 : (∀ x ∈ l, okNd x) ∧ l.length * 48 ≤ lim) (_ : (Lit.int .i64 many).wf = true) (_ : (Lit.int .i64 want).wf = true) : VQ cf 6 [.sl (rowD ndD l), .int .i64 many, .int .i64 want] fun v => v = .d (.bool true) := by
  have hz := okNd_size k0.1
  refine V_intro rfl (S_intro Try.func6 rfl rfl (Nat.le_of_ble_eq_true rfl) ?_)
  simp
  refine law4_many (by have := k0.2; simp only [lim] at *; omega) (fun x hx => ⟨(k0.1 x hx).1, by have := (k0.1 x hx).2.2.1.2; simp only [lim] at *; omega⟩) fun b hb => ?_
  cases b with
  | true => simp
  | false =>
    have hl := hb rfl
    simp
    refine law4_of hl ?_
    simp
    have no : roomIs l many = false → VQ cf 31 [.sl (rowD ndD l), .int .i64 many] fun v => v = .d (.bool false) := fun hr => room_Is hz (by rw [hr])
    refine f_intro (fun k1 => ?_) (fun k1 => ?_)
    · simp [k1]
      refine f_intro (fun k2 => ?_) (fun k2 => ?_)
      · simp [k1, k2]
        refine ref4_Is hz ?_
        simp
        refine room_Is hz ?_
        cases hr : roomIs l many with
        | false =>
          simp [hr]
          refine room_Is hz ?_
          simp [hr]
          exact law4_known (by simp)
        | true =>
          simp [hr]
          refine room_Take hz ?_
          simp [hr, takeD]
          refine ref4_Take k2 ?_
          simp [takeD]
          refine room_Free hz ?_
          simp [hr]
          refine ref4_Free k2 ?_
          simp
          refine ref4_Ints ?_
          simp
          refine ref4_Ints ?_
          simp
          exact law4_known (by simp)
      · have hr : roomIs l many = false := by simp [roomIs, k2]
        simp [k1, k2]
        refine room_Is hz ?_
        simp [hr]
        refine room_Is hz ?_
        simp [hr]
        exact law4_known (by simp)
    · have hr : roomIs l many = false := by simp [roomIs, k1]
      simp [k1]
      refine room_Is hz ?_
      simp [hr]
      refine room_Is hz ?_
      simp [hr]
      exact law4_known (by simp)
theorem mem_freeTo {l : List Nd} {n : Nat} {p : Int} : p ∈ freeTo l n ↔ (40 ≤ p ∧ p < 40 + n) ∧ p ∉ placesOf l := by
  unfold freeTo
  simp only [List.mem_filter, List.mem_map, List.mem_range, decide_eq_true_eq]
  constructor
  · rintro ⟨⟨k, hk, rfl⟩, h⟩
    exact ⟨by omega, h⟩
  · rintro ⟨⟨h1, h2⟩, h3⟩
    exact ⟨⟨(p - 40).toNat, by omega, by omega⟩, h3⟩
theorem freeTo_nodup {l : List Nd} {n : Nat} : (freeTo l n).Nodup := by
  induction n with
  | zero => simp [freeTo]
  | succ n ih =>
    rw [freeTo_succ]
    split
    · exact ih
    · rw [List.nodup_append]
      refine ⟨ih, by simp, fun a ha b hb => ?_⟩
      simp at hb; subst hb
      have := (mem_freeTo.1 ha).1.2
      omega
theorem filter_take {f : List Int} (h : f.Nodup) (w : Nat) : f.filter (fun p => decide (p ∉ f.take w)) = f.drop w := by
  have hs : f = f.take w ++ f.drop w := (List.take_append_drop w f).symm
  have h2 : (f.take w ++ f.drop w).Nodup := by rw [← hs]; exact h
  rw [List.nodup_append] at h2
  have e : ∀ g : List Int, (∀ p ∈ f.take w, p ∈ g) → (∀ p ∈ f.drop w, p ∉ g) → (f.take w ++ f.drop w).filter (fun p => decide (p ∉ g)) = f.drop w := by
    intro g h3 h4
    rw [List.filter_append, List.filter_eq_nil_iff.2 (fun p hp => by simp [h3 p hp]), List.filter_eq_self.2 (fun p hp => by simp [h4 p hp])]
    rfl
  have := e (f.take w) (fun p hp => hp) (fun p hp hm => h2.2.2 p hm p hp rfl)
  rw [← hs] at this
  exact this
theorem freeOf_snoc {l : List Nd} {x : Nd} {many : Int} {w : Nat} (h : x.places = (freeOf l many).take w) : freeOf (l ++ [x]) many = (freeOf l many).drop w := by
  rw [← filter_take (f := freeOf l many) freeTo_nodup w, ← h]
  unfold freeOf freeTo
  rw [List.filter_filter]
  congr 1
  funext p
  rw [placesOf_snoc]
  by_cases h1 : p ∈ placesOf l <;> by_cases h2 : p ∈ x.places <;> simp [h1, h2]
def takenNd (want : Int) (a : List Int) : Nd := ⟨[126, 126, 126, 116, 97, 107, 101, 110], 64 * want, a⟩
theorem taken_is {l : List Nd} {many want : Int} (hr : roomIs l many = true) (hl : l.length ≤ 30) (h0 : 0 ≤ want) (h9 : want ≤ 9) (hf : want ≤ (freeOf l many).length) :
    roomIs (l ++ [takenNd want ((freeOf l many).take want.toNat)]) many = decide ((takenNd want []).name ∉ namesOf l) := by
  simp only [roomIs, Bool.and_eq_true, decide_eq_true_eq] at hr
  obtain ⟨⟨⟨_, r2⟩, r3⟩, r4⟩ := hr
  have hmem : ∀ p ∈ (freeOf l many).take want.toNat, (40 ≤ p ∧ p < many) ∧ p ∉ placesOf l := by
    intro p hp
    have := mem_freeTo.1 (List.mem_of_mem_take hp)
    exact ⟨by omega, this.2⟩
  have hlen : ((freeOf l many).take want.toNat).length = want.toNat := by simp; omega
  have hneed : need (64 * want) = want := by
    unfold need
    split
    · omega
    · rw [Int.tdiv_eq_ediv_of_nonneg (by omega)]; omega
  have hx : ndIs (takenNd want ((freeOf l many).take want.toNat)) = true := by
    have e1 : isName [126, 126, 126, 116, 97, 107, 101, 110] = true := by decide
    have e2 : ((freeOf l many).take want.toNat).all placeOk = true := by
      rw [List.all_eq_true]
      intro p hp
      have := hmem p hp
      simp [placeOk]; omega
    have e3 : ((freeOf l many).take want.toNat).Nodup := freeTo_nodup.sublist (List.take_sublist _ _)
    unfold ndIs takenNd
    simp only [nodeIs, Bool.and_eq_true, decide_eq_true_eq]
    exact ⟨⟨⟨⟨⟨e1, by omega⟩, by omega⟩, by rw [hneed, hlen]; omega⟩, e2⟩, e3⟩
  have hg : Gd (l ++ [takenNd want ((freeOf l many).take want.toNat)]) many ↔ (takenNd want []).name ∉ namesOf l := by
    rw [Gd_snoc]
    exact ⟨fun h => h.2.2.1, fun h => ⟨r4, hx, h, hmem⟩⟩
  by_cases hn : (takenNd want []).name ∈ namesOf l
  · have : ¬ Gd (l ++ [takenNd want ((freeOf l many).take want.toNat)]) many := fun h => hg.1 h hn
    simp [roomIs, this, hn]
  · have : Gd (l ++ [takenNd want ((freeOf l many).take want.toNat)]) many := hg.2 hn
    simp [roomIs, this, hn]
    omega
theorem law_RoomTaken {l : List Nd} {many want : Int} (k0 : (∀ x ∈ l, okNd x) ∧ l.length * 48 ≤ lim) (_ : (Lit.int .i64 many).wf = true) (_ : (Lit.int .i64 want).wf = true) : VQ cf 7 [.sl (rowD ndD l), .int .i64 many, .int .i64 want] fun v => v = .d (.bool true) := by
  have hz := okNd_size k0.1
  refine V_intro rfl (S_intro Try.func7 rfl rfl (Nat.le_of_ble_eq_true rfl) ?_)
  simp
  refine law4_many (by have := k0.2; simp only [lim] at *; omega) (fun x hx => ⟨(k0.1 x hx).1, by have := (k0.1 x hx).2.2.1.2; simp only [lim] at *; omega⟩) fun b hb => ?_
  cases b with
  | true => simp
  | false =>
    have hl := hb rfl
    simp
    intro hl1
    refine f_intro (fun k1 => ?_) (fun k1 => ?_)
    · simp [k1]
    · simp [k1]
      refine f_intro (fun k2 => ?_) (fun k2 => ?_)
      · simp [k2]
      · simp [k2]
        refine f_intro (fun k3 => ?_) (fun k3 => ?_)
        · simp [k3]
        · simp [k3]
          refine f_intro (fun k4 => ?_) (fun k4 => ?_)
          · simp [k4]
          · simp [k4]
            refine f_intro (fun k5 => ?_) (fun k5 => ?_)
            · simp [k5]
            · simp [k5]
              refine law4_of hl ?_
              simp
              refine ref4_Is hz ?_
              cases hr : roomIs l many with
              | false => simp
              | true =>
                simp
                refine room_Take hz ?_
                rw [if_pos hr]
                by_cases hf : want ≤ (freeOf l many).length
                · have ht : takeOf (freeOf l many) want = ((freeOf l many).take want.toNat, true) := by
                    unfold takeOf
                    rw [if_neg (by omega)]
                  have hlen : ((freeOf l many).take want.toNat).length = want.toNat := by simp; omega
                  have w1 : IntKind.i64.wrap (64 * want) = 64 * want := wrap_i64 (by omega) (by omega)
                  have hti := taken_is hr (by omega) (by omega) (by omega) hf
                  have hz2 : ∀ x ∈ l ++ [takenNd want ((freeOf l many).take want.toNat)], x.size ≤ 9223372036854775807 := by
                    intro x hx
                    rcases List.mem_append.1 hx with hx | hx
                    · exact hz x hx
                    · simp at hx; subst hx
                      simp only [takenNd]; omega
                  rw [ht]
                  have hmax : max want 0 = want := by omega
                  have hrow : rowD ndD l ++ [.agg [.str [126, 126, 126, 116, 97, 107, 101, 110], .int .i64 (64 * want), .sl (inD ((freeOf l many).take want.toNat))]] = rowD ndD (l ++ [takenNd want ((freeOf l many).take want.toNat)]) := by
                    rw [rowD_snoc]; rfl
                  simp [takeD, w1, hlen]
                  refine ⟨by omega, by omega, ?_⟩
                  intro _
                  refine f_intro (fun _ => ?_) (fun hc => absurd hmax hc)
                  simp [hmax, hrow]
                  refine room_Is (l := l ++ [takenNd want ((freeOf l many).take want.toNat)]) hz2 ?_
                  rw [hti]
                  by_cases hn : (takenNd want []).name ∈ namesOf l
                  · simp [hn]
                    refine law4_of hl ?_
                    simp
                    refine ref4_Is hz ?_
                    simp [hr]
                    refine law4_named (s := (takenNd want []).name) ?_
                    simp [hn]
                    exact law4_known (by simp)
                  · simp [hn]
                    refine room_Free hz2 ?_
                    rw [hti, freeOf_snoc rfl]
                    simp [hn]
                    intro _
                    refine law4_of hl ?_
                    simp
                    refine ref4_Free (by omega) ?_
                    simp
                    intro hfl
                    have w2 : IntKind.i64.wrap (((freeOf l many).length : Int) - want) = (freeOf l many).length - want := wrap_i64 (by omega) (by omega)
                    have e2 : (((freeOf l many).length - want.toNat : Nat) : Int) = (freeOf l many).length - want := by omega
                    simp [w2, e2]
                    exact law4_known (by simp [w2, e2])
                · have ht : takeOf (freeOf l many) want = ([], false) := by
                    unfold takeOf
                    rw [if_pos (by omega)]
                  rw [ht]
                  simp [takeD]
                  refine room_Free hz ?_
                  simp [hr]
                  intro _
                  simp [show ((freeOf l many).length : Int) < want from by omega, inD_nil]
                  exact law4_known (by simp)
end Go.VM
