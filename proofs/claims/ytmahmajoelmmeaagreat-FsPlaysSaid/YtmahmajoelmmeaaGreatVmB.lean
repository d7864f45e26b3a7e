/- The machine of values, part 2: Go code run on plain data, and that what it answers is what the program answers. No condition. -/
import Derived.Test.YtmahmajoelmmeaaGreatVmA
import Derived.RangeFuncSeq
import Derived.RangeFuncCalls
import Derived.OrdersIn
import Derived.LoopNIn
import Derived.RangeFuncLeaves
import Derived.RangeFuncIn
section
namespace Go.VM
open Go.RowKit
variable {w w' w1 w2 : World} {G G' G1 G2 : Gh} {S S' S1 S2 : St} {P : Program}
def EntRel (w : World) (St : Nat → Prop) (es : List (D × D)) (l : List MapEntry) : Prop :=
 l.length = es.length ∧ ∀ (i : Nat) (p : D × D) (q : MapEntry), es[i]? = some p → l[i]? = some q → Rep w St p.1 q.key ∧ Rep w St p.2 q.val
theorem find_rel {St : Nat → Prop} {ks : Option IntKind} {k : D} {kv : Value} (hk : Rep w St k kv) (hi : k.isKey ks = true) : ∀ (es : List (D × D)) (l : List MapEntry) (n : Nat), EntRel w St es l → (∀ p ∈ es, p.1.isKey ks = true) →
  (look es k = none ∧ Instr.findNow (keyDesc ks) kv l n = some none ∧ (∀ x, upd es k x = es ++ [(k, x)]) ∧ era es k = es) ∨
  ∃ j p q, es[j]? = some p ∧ l[j]? = some q ∧ kv = q.key ∧ look es k = some p.2 ∧ Instr.findNow (keyDesc ks) kv l n = some (some (n + j, q.val)) ∧ (∀ x, upd es k x = es.set j (k, x)) ∧ era es k = es.eraseIdx j := by
 intro es
 induction es with
 | nil =>
  intro l n hl _;have : l = [] := List.eq_nil_of_length_eq_zero hl.1;subst this;exact .inl ⟨rfl, rfl, fun x => rfl, rfl⟩
 | cons p es ih =>
  intro l n hl hp
  cases l with
  | nil => cases hl.1
  | cons q l =>
   obtain ⟨h1, h2⟩ := same_now hk (hl.2 0 p q rfl rfl).1 hi (hp p (by simp))
   cases hs : k.same p.1 with
   | true =>
    rw [hs] at h1;exact .inr ⟨0, p, q, rfl, rfl, h2 hs, by simp [look, hs], by simp [Instr.findNow, h1], fun x => by simp [upd, hs], by simp [era, hs]⟩
   | false =>
    rw [hs] at h1;rcases ih l (n + 1) ⟨by have := hl.1; simpa using this, fun i p' q' a b => hl.2 (i + 1) p' q' (by simpa using a) (by simpa using b)⟩ (fun p' hp' => hp p' (by simp [hp'])) with ⟨e1, e2, e3, e4⟩ | ⟨j, p', q', e1, e2, e3, e4, e5, e6, e7⟩
    ·refine .inl ⟨?_, by simp [Instr.findNow, h1, e2], fun x => by simp [upd, hs, e3], by simp [era, hs, e4]⟩
     simp only [look, List.find?, hs] at e1 ⊢; exact e1
    ·refine .inr ⟨j + 1, p', q', by simpa using e1, by simpa using e2, e3, ?_, ?_, fun x => by simp [upd, hs, e6], by simp [era, hs, e7]⟩
     ·simp only [look, List.find?, hs] at e4 ⊢; exact e4
     ·simp only [Instr.findNow, h1, e5]; congr 3; omega
theorem key_is {St : Nat → Prop} {ks : Option IntKind} {k : D} {kv : Value} (hk : Rep w St k kv) (hi : k.isKey ks = true) : MapKept.IsKey (keyDesc ks) kv := by
 cases hk <;> simp [D.isKey] at hi
 ·subst hi; rfl
 ·subst hi; trivial
theorem map_under {t tk te : TypeId} (h : tyMap P t = some (tk, te)) : P.underlying t = some (.map tk te) := by
 unfold tyMap at h;split at h
 ·cases h; assumption
 ·cases h
theorem dOf_rel {lv : LV} {v : Value} {x : D} (hv : LVRel w G lv v) (h : dOf? lv = some x) : Rep w G.St x v := by
 cases lv with
 | d y => cases h; cases hv; assumption
 | lit xs => cases h; cases hv; assumption
 | _ => cases h
theorem zeroM_rel {t : TypeId} {z : D} (h : zeroM P t = some z) : ∃ i zv, P.info? t = some i ∧ i.zero = some zv ∧ ∀ (w : World) (St : Nat → Prop), Rep w St z zv := by
 have key : ∀ (v : Value) (d : D), dOf? (ofConst v) = some d → ∀ (w : World) (St : Nat → Prop), Rep w St d v ∧ v.oneCell' = true := by
  intro v d hd w St;have hk : known (ofConst v) = true := by
   revert hd
   cases ofConst v <;> intro hd <;> first | rfl | cases hd
  obtain ⟨h2, h3⟩ := const_rel hk w ⟨fun _ => (0, 0), fun _ => 0, fun _ => 0, fun _ => False, fun _ => none, St, fun _ => False⟩;exact ⟨dOf_rel h2 hd, h3⟩
 unfold zeroM at h
 cases hi : P.info? t with
 | none => simp [hi] at h
 | some i =>
  cases hz : i.zero with
  | none => simp [hi, hz] at h
  | some zv =>
   refine ⟨i, zv, rfl, hz, fun w St => ?_⟩;simp only [hi, Option.bind_some, hz] at h;split at h
   ·rename_i cs heq
    cases heq
    cases hm : dsOf? (cs.toList.map ofConst) with
    | none => simp [hm] at h
    | some ds =>
     simp [hm] at h;subst h;obtain ⟨hlen, hget⟩ := dsOf_get _ hm;have hg : ∀ (k : Nat) (d : D) (v : Value), ds[k]? = some d → cs[k]? = some v → Rep w St d v ∧ v.oneCell' = true := by
      intro k d v h1 h2;exact key v d (hget k _ d (by simp [h2]) h1) w St
     have hl : ds.length = cs.size := by simpa using hlen
     refine .agg ds cs hl (fun d hd => ?_) (fun k d v h1 h2 => (hg k d v h1 h2).1);obtain ⟨k, hk⟩ := List.getElem?_of_mem hd;have hlt : k < cs.size := by have := (List.getElem?_eq_some_iff.1 hk).1; omega
     have := hg k d _ hk (Array.getElem?_eq_getElem hlt);exact this.1.one' this.2
   ·rename_i v heq hx
    cases hx
    exact (key _ _ h w St).1
   ·rename_i heq; cases heq
theorem found_rel {v : Option D} {z : D} {ok : Bool} {vv zv : Value} (hv : ∀ x, v = some x → Rep w G.St x vv) (hz : v = none → Rep w G.St z zv) :
  LVRel w G (found v z ok) (if ok then .tuple #[if v.isSome then vv else zv, .bool v.isSome] else if v.isSome then vv else zv) := by
 have two : ∀ (a b : LV) (x y : Value), LVRel w G a x → LVRel w G b y → LVRel w G (.tup [a, b]) (.tuple #[x, y]) := by
  intro a b x y h1 h2;refine .tup _ _ rfl (fun i c v e1 e2 => ?_)
  match i with
  | 0 => simp at e1 e2; subst e1 e2; exact h1
  | 1 => simp at e1 e2; subst e1 e2; exact h2
  | i + 2 => simp at e1
 cases v with
 | some x =>
  have := hv x rfl
  cases ok with
  | true => exact two _ _ _ _ (.d _ _ this) (.d _ _ (.bool _))
  | false => exact .d _ _ this
 | none =>
  have := hz rfl
  cases ok with
  | true => exact two _ _ _ _ (.d _ _ this) (.d _ _ (.bool _))
  | false => exact .d _ _ this
theorem lookup_sim (hr : Rel w G S) {t : TypeId} {m i : LV} {mv iv : Value} {ok : Bool} (hm : LVRel w G m mv) (hi : LVRel w G i iv) :
  Sim P w G S (Instr.lookup t mv iv ok) (lookupT P t m i ok) (fun w' G' lv v => LVRel w' G' lv v) := by
 refine Sim.pure' hr fun lv S' h => ?_;unfold lookupT at h;split at h
 case h_2 => cases h
 rename_i tk te k htm hk;have hu := map_under htm;have hkr := dOf_rel hi hk;split at h
 case h_2 => cases h
 rename_i ks z hks hz;obtain ⟨ii, zv, hi2, hzv, hzr⟩ := zeroM_rel hz;split at h
 case isFalse => cases h
 rename_i hkey;have hkd := keyTy hks;have hik := key_is hkr hkey;have hck : ∀ e, (Instr.checkKey e 10000 tk iv).run P w = .ok () w := fun e => MapKept.run_checkKey (n := 9999) hkd hik e;have hzero : (zeroValue te).run P w = .ok zv w := by simp [zeroValue, typeInfo, hi2, hzv]
 split at h
 ·-- a map
  rename_i id;simp only [T.run] at h
  cases hm with | mp _ hd =>
  cases ho : S.obj id with
  | mp ks' es =>
   rw [ho] at h;simp only at h;split at h
   case isFalse => cases h
   rename_i hkk;subst hkk
   cases h
   have hob := hr.obj id;rw [ho] at hob;obtain ⟨h1, h2, h3, en, cl, h4, h5, h6, hbn⟩ := hob;have hent : EntRel w G.St es en.toList := ⟨by simpa using h5, fun i p q a b => h6 i p q a (by simpa using b)⟩
   have hgo := MapKept.run_getObj_map (P := P) h4;rcases find_rel hkr hkey es en.toList 0 hent h1 with ⟨f1, f2, _, _⟩ | ⟨j, p, q, f1, f2, _, f3, f4, _, _⟩
   ·rw [f1];refine ⟨rfl, _, ?_, found_rel (vv := zv) (zv := zv) (fun x h => by cases h) (fun _ => hzr w G.St)⟩
    have hf := MapKept.run_findKey (P := P) (w := w) hkd f2
    cases ok <;> simp [Instr.lookup, run_underlying hu, hck, hf, hzero, hgo]
   ·rw [f3];refine ⟨rfl, _, ?_, found_rel (vv := q.val) (zv := zv) (fun x h => by cases h; exact (hent.2 j p q f1 f2).2) (fun h => by cases h)⟩
    have hf := MapKept.run_findKey (P := P) (w := w) hkd f4
    cases ok <;> simp [Instr.lookup, run_underlying hu, hck, hf, hgo]
  | _ => rw [ho] at h; cases h
 ·cases hm with | d _ _ hm => cases hm with | nilM =>
  cases h
  refine ⟨rfl, _, ?_, found_rel (vv := zv) (zv := zv) (fun x h => by cases h) (fun _ => hzr w G.St)⟩
  have hf : (Instr.findKey tk iv []).run P w = .ok none w := MapKept.run_findKey hkd rfl
  cases ok <;> simp [Instr.lookup, run_underlying hu, hck, hf, hzero]
 ·cases h
theorem same_bits {n : Nat} {St : Nat → Prop} {ks : Option IntKind} {k : D} {kv : Value} (hk : Rep w St k kv) (hi : k.isKey ks = true) : Instr.sameBits n kv kv = true := by
 cases hk <;> simp [D.isKey] at hi
 ·cases n <;> simp [Instr.sameBits]
 ·cases n <;> simp [Instr.sameBits, MapKept.bytes_beq]
theorem born_push {en : Array MapEntry} {cl : Nat} {a b : Value} (h : Born en cl) : Born (en.push { key := a, val := b, born := cl }) (cl + 1) := by
 obtain ⟨h1, h2⟩ := h;refine ⟨?_, fun x hx => ?_⟩
 ·rw [Array.toList_push, List.map_append, List.nodup_append];refine ⟨h1, by simp, fun x hx y hy => ?_⟩
  obtain ⟨q, hq, rfl⟩ := List.mem_map.1 hx;simp at hy;have := h2 q hq;omega
 ·rw [Array.toList_push] at hx;rcases List.mem_append.1 hx with hx | hx
  ·exact Nat.lt_succ_of_lt (h2 x hx)
  ·simp at hx; subst hx; exact Nat.lt_succ_self _
theorem born_map {en en' : Array MapEntry} {cl : Nat} (h : Born en cl) (he : en'.toList.map (·.born) = en.toList.map (·.born)) : Born en' cl := by
 refine ⟨by rw [he]; exact h.1, fun x hx => ?_⟩
 have hm : x.born ∈ en.toList.map (·.born) := by rw [← he]; exact List.mem_map.2 ⟨x, hx, rfl⟩
 obtain ⟨y, hy, e⟩ := List.mem_map.1 hm;have := h.2 y hy;omega
theorem born_modify {en : Array MapEntry} {cl j : Nat} {a b : Value} (h : Born en cl) : Born (en.modify j fun e => { e with key := a, val := b }) cl := by
 refine born_map h (List.ext_getElem? fun i => ?_);rw [List.getElem?_map, List.getElem?_map, Array.getElem?_toList, Array.getElem?_toList, Array.getElem?_modify];split
 ·cases en[i]? <;> rfl
 ·rfl
theorem born_erase {en : Array MapEntry} {cl j : Nat} (h : Born en cl) : Born (en.eraseIdxIfInBounds j) cl := by
 have hs : (en.eraseIdxIfInBounds j).toList = en.toList.eraseIdx j := by
  unfold Array.eraseIdxIfInBounds;split
  ·simp
  ·rename_i hj;rw [List.eraseIdx_of_length_le (by simpa using hj)]
 refine ⟨?_, fun x hx => ?_⟩
 ·rw [hs];exact h.1.sublist ((List.eraseIdx_sublist _ _).map _)
 ·rw [hs] at hx;exact h.2 x (List.mem_of_mem_eraseIdx hx)
theorem mapUpdate_sim (hr : Rel w G S) {t : TypeId} {m i v : LV} {mv iv vv : Value} (hm : LVRel w G m mv) (hi : LVRel w G i iv) (hv : LVRel w G v vv) :
  Sim P w G S (Instr.mapUpdate t mv iv vv) (mapUpdateT P t m i v) (fun _ _ lv _ => lv = .un) := by
 intro lv S' h hf;unfold mapUpdateT at h;split at h
 case h_2 => cases h
 rename_i tk te k id htm hk;have hu := map_under htm;have hkr := dOf_rel hi hk;split at h
 case h_2 => cases h
 rename_i ks hks;split at h
 case isFalse => cases h
 rename_i hkey;have hkd := keyTy hks;obtain ⟨x, S1, h1, h2⟩ := T.bind_ok h;obtain ⟨G1, a1, a2, a3, a4, a5, a6⟩ := toD_ok hr hv h1;simp only at a1 a4 a5 a6;have hkr1 := hkr.ext hr.wf a2;have hik := key_is hkr1 hkey;have hck : ∀ e, (Instr.checkKey e 10000 tk iv).run P w = .ok () w := fun e => MapKept.run_checkKey (n := 9999) hkd hik e;have hm1 := hm.ext hr.wf a2
 cases hm1 with | mp _ hd =>
 simp only [T.run] at h2
 cases ho : S1.obj id with
 | mp ks' es =>
  rw [ho] at h2;simp only at h2;split at h2
  case isFalse => cases h2
  rename_i hkk;subst hkk
  cases h2
  have hob := a1.obj id;rw [ho] at hob;obtain ⟨h1, h2, h3, en, cl, h4, h5, h6, hbn⟩ := hob;have hent : EntRel w G1.St es en.toList := ⟨by simpa using h5, fun i p q a b => h6 i p q a (by simpa using b)⟩
  have hgo := MapKept.run_getObj_map (P := P) h4;have fin : ∀ (en' : Array MapEntry) (cl' : Nat), (Instr.mapUpdate t (.map (some (G1.addr (.arr id)).1)) iv vv).run P w = .ok () { w with heap := w.heap.setIfInBounds (G1.addr (.arr id)).1 (.map en' cl') } →
    (∀ p ∈ upd es k x, p.1.isKey ks = true) → EntRel w G1.St (upd es k x) en'.toList → Born en' cl' →
    ∃ a w' G', (Instr.mapUpdate t (.map (some (G1.addr (.arr id)).1)) iv vv).run P w = .ok a w' ∧ LV.un = .un ∧ Rel w' G' (S1.set id (.mp ks (upd es k x))) ∧ Ext w G w' G' ∧ DomLe G G' S (S1.set id (.mp ks (upd es k x))) := by
   intro en' cl' hrun hkeys hen hbn';obtain ⟨e1, e2, e3⟩ := Ext.setObj (o' := .map en' cl') a1.wf h3 h4;have hat := (MapKept.heap_set (o' := .map en' cl') h4).1;refine ⟨(), _, G1, hrun, rfl, a1.putObj e1 e2 e3 ?_, a2.trans e1, fun k hk => .inl ((a3 k).1 hk)⟩;exact ⟨hkeys, h2, h3, en', cl', hat, by simpa using hen.1, fun i p q a b => by
    obtain ⟨g1, g2⟩ := hen.2 i p q a (by simpa using b)
    exact ⟨g1.ext a1.wf e1, g2.ext a1.wf e1⟩, hbn'⟩
  rcases find_rel hkr1 hkey es en.toList 0 hent h1 with ⟨_, f2, f3, _⟩ | ⟨j, p, q, f1, f2, f0, _, f4, f5, _⟩
  ·refine fin (en.push { key := iv, val := vv, born := cl }) (cl + 1) ?_ ?_ ?_ (born_push hbn)
   ·have hf := MapKept.run_findKey (P := P) (w := w) hkd f2;have hso := MapKept.run_setObj_map (P := P) (.map (en.push { key := iv, val := vv, born := cl }) (cl + 1)) h4;simp [Instr.mapUpdate, run_underlying hu, hck, hf, hgo, hso]
   ·rw [f3]; intro p hp;rcases List.mem_append.1 hp with hp | hp
    ·exact h1 p hp
    ·simp at hp; subst hp; exact hkey
   ·rw [f3];refine ⟨by simp [h5], fun i p q a b => ?_⟩
    rw [Array.toList_push] at b;by_cases hlt : i < es.length
    ·rw [List.getElem?_append_left hlt] at a;rw [List.getElem?_append_left (by simpa [h5] using hlt)] at b
     exact hent.2 i p q a b
    ·rw [List.getElem?_append_right (by omega)] at a
     rw [List.getElem?_append_right (by simp [h5]; omega)] at b
     have hl : i - es.length = 0 := by have := (List.getElem?_eq_some_iff.1 a).1; simp at this; omega
     have hl2 : i - en.toList.length = 0 := by have := (List.getElem?_eq_some_iff.1 b).1; simp at this; simp; omega
     rw [hl] at a; rw [hl2] at b
     cases a; cases b
     exact ⟨hkr1, a4⟩
  ·have hjl : j < en.size := by have := (List.getElem?_eq_some_iff.1 f2).1; simpa using this
   have hen : en[j]? = some q := by simpa using f2
   refine fin (en.modify j fun e => { e with key := iv, val := vv }) cl ?_ ?_ ?_ (born_modify hbn)
   ·have hf := MapKept.run_findKey (P := P) (w := w) hkd f4;have hso := MapKept.run_setObj_map (P := P) (.map (en.modify j fun e => { e with key := iv, val := vv }) cl) h4;have hsb : (Instr.keyThatStays q.key iv).run P w = .ok iv w := by
     rw [← f0];unfold Instr.keyThatStays;rw [if_pos (same_bits hkr1 hkey)]; rfl
    simp only [Instr.mapUpdate, Sem.run_bind, run_underlying hu, Result.andThen_ok, hck, hf, hgo, Nat.zero_add, hen, Option.map_some, Option.getD_some, hsb, hso]
   ·rw [f5]; intro p' hp;rcases List.mem_or_eq_of_mem_set hp with hp | hp
    ·exact h1 p' hp
    ·subst hp; exact hkey
   ·rw [f5];refine ⟨by simp [h5], fun i p' q' a b => ?_⟩
    rw [List.getElem?_set] at a;have b' : (en.modify j fun e => { e with key := iv, val := vv })[i]? = some q' := by rw [Array.getElem?_toList] at b; exact b
    rw [Array.getElem?_modify] at b';by_cases hij : j = i
    ·subst hij;rw [if_pos rfl] at a b';rw [hen] at b';have hjl2 : j < es.length := (List.getElem?_eq_some_iff.1 f1).1;rw [if_pos hjl2] at a
     cases a; cases b'
     exact ⟨hkr1, a4⟩
    ·rw [if_neg hij] at a b';exact hent.2 i p' q' a (by simpa using b')
 | _ => rw [ho] at h2; cases h2
theorem delete_sim (hr : Rel w G S) {ts : Array TypeId} {ty : TypeId} {m i : LV} {mv iv : Value} (hm : LVRel w G m mv) (hi : LVRel w G i iv) :
  Sim P w G S (Builtin.delete_ ts ty #[mv, iv]) (deleteT P ts m i) (fun w' G' lv v => LVRel w' G' lv v) := by
 intro lv S' h hf;unfold deleteT at h;split at h
 case h_2 => cases h
 rename_i tk te k id htm hk;have hkr := dOf_rel hi hk
 cases ht : ts[0]? with
 | none => rw [ht] at htm; cases htm
 | some t =>
 rw [ht] at htm;have hu := map_under htm;split at h
 case h_2 => cases h
 rename_i ks hks;split at h
 case isFalse => cases h
 rename_i hkey;have hkd := keyTy hks;have hik := key_is hkr hkey;have hck : ∀ e, (Instr.checkKey e 10000 tk iv).run P w = .ok () w := fun e => MapKept.run_checkKey (n := 9999) hkd hik e
 cases hm with | mp _ hd =>
 simp only [T.run] at h
 cases ho : S.obj id with
 | mp ks' es =>
  rw [ho] at h;simp only at h;split at h
  case isFalse => cases h
  rename_i hkk;subst hkk
  cases h
  have hob := hr.obj id;rw [ho] at hob;obtain ⟨h1, h2, h3, en, cl, h4, h5, h6, hbn⟩ := hob;have hent : EntRel w G.St es en.toList := ⟨by simpa using h5, fun i p q a b => h6 i p q a (by simpa using b)⟩
  have hgo := MapKept.run_getObj_map (P := P) h4;have fin : ∀ (en' : Array MapEntry) (cl' : Nat), (Builtin.delete_ ts ty #[.map (some (G.addr (.arr id)).1), iv]).run P w = .ok (.tuple #[]) { w with heap := w.heap.setIfInBounds (G.addr (.arr id)).1 (.map en' cl') } →
    (∀ p ∈ era es k, p.1.isKey ks = true) → EntRel w G.St (era es k) en'.toList → Born en' cl' →
    ∃ a w' G', (Builtin.delete_ ts ty #[.map (some (G.addr (.arr id)).1), iv]).run P w = .ok a w' ∧ LVRel w' G' (.tup []) a ∧ Rel w' G' (S.set id (.mp ks (era es k))) ∧ Ext w G w' G' ∧ DomLe G G' S (S.set id (.mp ks (era es k))) := by
   intro en' cl' hrun hkeys hen hbn';obtain ⟨e1, e2, e3⟩ := Ext.setObj (o' := .map en' cl') hr.wf h3 h4;have hat := (MapKept.heap_set (o' := .map en' cl') h4).1;refine ⟨_, _, G, hrun, .tup _ _ rfl (fun i c v a => by simp at a), hr.putObj e1 e2 e3 ?_, e1, fun k hk => .inl hk⟩
   exact ⟨hkeys, h2, h3, en', cl', hat, by simpa using hen.1, fun i p q a b => by
    obtain ⟨g1, g2⟩ := hen.2 i p q a (by simpa using b)
    exact ⟨g1.ext hr.wf e1, g2.ext hr.wf e1⟩, hbn'⟩
  rcases find_rel hkr hkey es en.toList 0 hent h1 with ⟨_, f2, _, f3⟩ | ⟨j, p, q, f1, f2, f0, _, f4, _, f5⟩
  ·rw [f3] at fin ⊢;refine fin en cl ?_ h1 hent hbn;have hf := MapKept.run_findKey (P := P) (w := w) hkd f2;have hso := MapKept.run_setObj_map (P := P) (.map en cl) h4;simp [Builtin.delete_, ht, run_underlying hu, hck, hf, hgo, hso]
  ·rw [f5] at fin ⊢;have hjl : j < en.size := by have := (List.getElem?_eq_some_iff.1 f2).1; simpa using this
   refine fin (en.eraseIdxIfInBounds j) cl ?_ (fun p hp => h1 p (List.mem_of_mem_eraseIdx hp)) ?_ (born_erase hbn)
   ·have hf := MapKept.run_findKey (P := P) (w := w) hkd f4;have hso := MapKept.run_setObj_map (P := P) (.map (en.eraseIdxIfInBounds j) cl) h4;simp only [Nat.zero_add] at hf;simp [Builtin.delete_, ht, run_underlying hu, hck, hf, hgo, hso]
   ·have hel : (en.eraseIdxIfInBounds j).toList = en.toList.eraseIdx j := by simp [Array.eraseIdxIfInBounds, hjl]
    rw [hel];have hjl2 : j < es.length := (List.getElem?_eq_some_iff.1 f1).1;refine ⟨by simp [List.length_eraseIdx, h5, hjl2], fun i p' q' a b => ?_⟩
    rw [List.getElem?_eraseIdx] at a b;split at a
    ·rename_i hij; rw [if_pos hij] at b; exact hent.2 _ p' q' a b
    ·rename_i hij; rw [if_neg hij] at b; exact hent.2 _ p' q' a b
 | _ => rw [ho] at h; cases h
end Go.VM
end
section
namespace Go.VM
open Go.RowKit
variable {w w' w1 w2 : World} {G G' G1 G2 : Gh} {S S' S1 S2 : St} {P : Program}
def EnvRel (w : World) (G : Gh) (e : Env) (a : Act) : Prop := ∀ i, LVRel w G (e i) (a.tmps.getD i undef)
theorem EnvRel.ext {e : Env} {a : Act} (h : EnvRel w G e a) (hw : G.Wf w) (he : Ext w G w' G') : EnvRel w' G' e a := fun i => (h i).ext hw he
theorem EnvRel.lv {e : Env} {a : Act} (h : EnvRel w G e a) (x : Operand) : LVRel w G (Operand.lv e x) (a.eval x) := by
 cases x with
 | tmp t => exact h t
 | const v =>
  simp only [Operand.lv, Act.eval]
  cases hk : known (ofConst v) with
  | true => exact (const_rel hk w G).1
  | false =>
   revert hk
   cases ofConst v <;> intro hk <;> first | (simp [known] at hk; done) | exact .un v
 | func f => exact .fn f [] #[] rfl (fun i c v h => by simp at h)
 | global g => exact .un _
theorem EnvRel.opt {e : Env} {a : Act} (h : EnvRel w G e a) (x : Option Operand) : OptRel w G (x.map (Operand.lv e)) (x.map a.eval) := by
 cases x with
 | none => trivial
 | some x => exact h.lv x
theorem EnvRel.list {e : Env} {a : Act} (h : EnvRel w G e a) (l : Array Operand) : (l.toList.map (Operand.lv e)).length = (l.map a.eval).size ∧
  ∀ (i : Nat) (c : LV) (v : Value), (l.toList.map (Operand.lv e))[i]? = some c → (l.map a.eval)[i]? = some v → LVRel w G c v := by
 refine ⟨by simp, fun i c v h1 h2 => ?_⟩
 rw [List.getElem?_map] at h1;rw [Array.getElem?_map] at h2
 cases hx : l[i]? with
 | none => rw [hx] at h2; cases h2
 | some x =>
  rw [hx] at h2;rw [Array.getElem?_toList, hx] at h1
  cases h1; cases h2
  exact h.lv x
theorem Sim.map {α β γ : Type} {m : Sem α} {t : T β} {R : World → Gh → β → α → Prop} {R' : World → Gh → β → γ → Prop} {f : α → γ} (h : Sim P w G S m t R) (hf : ∀ w' G' b a, R w' G' b a → R' w' G' b (f a)) :
  Sim P w G S (m >>= fun x => pure (f x)) t R' := by
 intro d S2 h2 hf';obtain ⟨a, w', G', h3, h4, h5, h6, h7⟩ := h d S2 h2 hf';exact ⟨f a, w', G', by rw [Sem.run_bind, h3]; rfl, hf _ _ _ _ h4, h5, h6, h7⟩
def Leaves (w : World) (G : Gh) (lv : LV) (x : Next) : Prop := ∃ v, (x = .value v ∨ (x = .skip ∧ v = undef)) ∧ LVRel w G lv v
theorem Sim.value {m : Sem Value} {t : T LV} (h : Sim P w G S m t (fun w' G' lv v => LVRel w' G' lv v)) : Sim P w G S (do pure (.value (← m)) : Sem Next) t Leaves :=
 h.map (fun _ _ _ v hv => ⟨v, .inl rfl, hv⟩)
theorem Sim.unit {m : Sem Unit} {t : T LV} (h : Sim P w G S m t (fun _ _ lv _ => lv = .un)) : Sim P w G S (do m; pure .skip : Sem Next) t Leaves :=
 Sim.map (f := fun _ => Next.skip) h (fun _ _ b _ hv => ⟨undef, .inr ⟨rfl, rfl⟩, by subst hv; exact .un _⟩)
theorem nilCheck_sim (hr : Rel w G S) {o : Oper} {ρ : Operand → Value} {x : Operand} {lv : LV} (ho : o.op = .nilCheck x) (hx : LVRel w G lv (ρ x)) : Sim P w G S (execOp ρ o) (nilCheckT lv) Leaves := by
 generalize hv : ρ x = v at hx;have key : (∃ a, v = .pointer (some a)) ∨ (∃ f a b, v = .func (.func f) a b) → (execOp ρ o).run P w = .ok (.value v) w := by
  intro h;subst hv;rcases h with ⟨a, h⟩ | ⟨f, a, b, h⟩ <;> simp [execOp, ho, h]
 refine Sim.pure' hr fun y S' h => ?_;unfold nilCheckT at h;split at h
 ·cases h; refine ⟨rfl, _, key ?_, _, .inl rfl, hx⟩
  cases hx; exact .inl ⟨_, rfl⟩
 ·cases h; refine ⟨rfl, _, key ?_, _, .inl rfl, hx⟩
  cases hx; exact .inl ⟨_, rfl⟩
 ·cases h; refine ⟨rfl, _, key ?_, _, .inl rfl, hx⟩
  cases hx; exact .inl ⟨_, rfl⟩
 ·cases h; refine ⟨rfl, _, key ?_, _, .inl rfl, hx⟩
  cases hx; exact .inr ⟨_, _, _, rfl⟩
 ·cases h
theorem storeT_un {t : TypeId} {v a lv : LV} (h : (storeT P t v a).run S = .ok (lv, S')) : lv = .un := by
 unfold storeT at h;split at h
 case isFalse => cases h
 split at h
 ·obtain ⟨_, _, _, h⟩ := T.bind_ok h; cases h; rfl
 ·obtain ⟨_, _, _, h⟩ := T.bind_ok h;obtain ⟨_, _, _, _, h⟩ := arrT_run h;split at h
  ·cases h
  ·split at h
   ·split at h
    ·obtain ⟨_, _, _, h⟩ := T.bind_ok h; cases h; rfl
    ·cases h
   ·cases h
 ·cases h
theorem parts_rel {e : Env} {a : Act} (h : EnvRel w G e a) (l : Array (Nat × Operand)) : (l.toList.map fun p => (p.1, Operand.lv e p.2)).length = (l.map fun (i, x) => (i, a.eval x)).size ∧
  ∀ (i : Nat) (p : Nat × LV) (q : Nat × Value), (l.toList.map fun p => (p.1, Operand.lv e p.2))[i]? = some p → (l.map fun (i, x) => (i, a.eval x))[i]? = some q → p.1 = q.1 ∧ LVRel w G p.2 q.2 := by
 refine ⟨by simp, fun i p q h1 h2 => ?_⟩
 rw [List.getElem?_map] at h1;rw [Array.getElem?_map] at h2
 cases hx : l[i]? with
 | none => rw [hx] at h2; cases h2
 | some x =>
  rw [hx] at h2;rw [Array.getElem?_toList, hx] at h1
  cases h1; cases h2
  exact ⟨rfl, h.lv x.2⟩
theorem two_of {l : Array Operand} {e : Env} {x y : LV} (h : l.toList.map (Operand.lv e) = [x, y]) : ∃ p q, l = #[p, q] ∧ x = Operand.lv e p ∧ y = Operand.lv e q := by
 obtain ⟨l⟩ := l
 match l, h with
 | [p, q], h => simp at h; exact ⟨p, q, rfl, h.1.symm, h.2.symm⟩
 | [], h => simp at h
 | [_], h => simp at h
 | _ :: _ :: _ :: _, h => simp at h
theorem one_of {l : Array Operand} {e : Env} {x : LV} (h : l.toList.map (Operand.lv e) = [x]) : ∃ p, l = #[p] ∧ x = Operand.lv e p := by
 obtain ⟨l⟩ := l
 match l, h with
 | [p], h => simp at h; exact ⟨p, rfl, h.symm⟩
 | [], h => simp at h
 | _ :: _ :: _, h => simp at h
theorem builtin_sim (hr : Rel w G S) {e : Env} {a : Act} (he : EnvRel w G e a) {b : Builtin} {ts : Array TypeId} {ty : TypeId} {cs : Array Bool} {args : Array Operand} :
  Sim P w G S (builtin b ts ty cs (args.map a.eval)) (builtinT P b ts (args.toList.map (Operand.lv e))) Leaves := by
 unfold builtinT;split
 ·rename_i x hx;obtain ⟨p, rfl, rfl⟩ := one_of hx
  cases ht : ts[0]? with
  | none => exact Sim.no
  | some t =>
   have h1 : builtin .len ts ty cs (#[p].map a.eval) = (do pure (.value (← Builtin.len_ ts ty #[a.eval p])) : Sem Next) := by simp [builtin]
   rw [h1];exact (len_sim hr ht (he.lv p)).value
 ·rename_i x y hx;obtain ⟨p, q, rfl, rfl, rfl⟩ := two_of hx;have h1 : builtin .append ts ty cs (#[p, q].map a.eval) = (do pure (.value (← Builtin.append_ ts ty #[a.eval p, a.eval q])) : Sem Next) := by simp [builtin]
  rw [h1];exact (append_sim hr (he.lv p) (he.lv q)).value
 ·rename_i x y hx;obtain ⟨p, q, rfl, rfl, rfl⟩ := two_of hx;have h1 : builtin .copy ts ty cs (#[p, q].map a.eval) = (do pure (.value (← Builtin.copy_ ts ty #[a.eval p, a.eval q])) : Sem Next) := by simp [builtin]
  rw [h1];exact (copy_sim hr (he.lv p) (he.lv q)).value
 ·rename_i x y hx;obtain ⟨p, q, rfl, rfl, rfl⟩ := two_of hx;have h1 : builtin .delete ts ty cs (#[p, q].map a.eval) = (do pure (.value (← Builtin.delete_ ts ty #[a.eval p, a.eval q])) : Sem Next) := by simp [builtin]
  rw [h1];exact (delete_sim hr (he.lv p) (he.lv q)).value
 ·exact (minmax_sim hr (he.list args).1 (he.list args).2).1.value
 ·exact (minmax_sim hr (he.list args).1 (he.list args).2).2.value
 ·exact Sim.no
theorem step_sim (hr : Rel w G S) {e : Env} {a : Act} (he : EnvRel w G e a) (o : Oper) : Sim P w G S (execOp a.eval o) (stepT P e o.op) Leaves := by
 generalize hop : o.op = op;have hval : ∀ (m : Sem Value) (t : T LV), execOp a.eval o = (do pure (.value (← m)) : Sem Next) → Sim P w G S m t (fun w' G' lv v => LVRel w' G' lv v) → Sim P w G S (execOp a.eval o) t Leaves := by
  intro m t h1 h2; rw [h1]; exact h2.value
 cases op with
 | move x => exact Sim.pure' hr fun y S' h => by cases h; exact ⟨rfl, .value (a.eval x), by simp [execOp, hop], _, .inl rfl, he.lv x⟩
 | assign x => exact Sim.pure' hr fun y S' h => by cases h; exact ⟨rfl, .value (a.eval x), by simp [execOp, hop], _, .inl rfl, he.lv x⟩
 | pick c x y =>
  refine Sim.pure' hr fun z S' h => ?_;simp only [stepT] at h;have hc := he.lv c;split at h
  case h_2 => cases h
  rename_i t ht;rw [ht] at hc
  cases h
  generalize hcv : a.eval c = cv at hc
  cases hc with | d _ _ hc => cases hc with | bool _ =>
  refine ⟨rfl, .value (if t then a.eval x else a.eval y), by simp [execOp, hop, hcv, asBool], _, .inl rfl, ?_⟩
  cases t
  ·exact he.lv y
  ·exact he.lv x
 | alloc t => exact hval _ _ (by simp only [execOp, hop]) (alloc_sim (v := .tuple #[]) hr)
 | box t x => exact hval _ _ (by simp only [execOp, hop]) (box_sim (t := t) hr (he.lv x))
 | build t ps => exact hval _ _ (by simp only [execOp, hop]) (build_sim hr (parts_rel he ps).1 (parts_rel he ps).2)
 | buildSlice t n ps => exact hval _ _ (by simp only [execOp, hop]) (buildSlice_sim hr (parts_rel he ps).1 (parts_rel he ps).2)
 | load t x => exact hval _ _ (by simp only [execOp, hop]) (load_sim hr (he.lv x))
 | store t x v =>
  have h1 : execOp a.eval o = (do Instr.storeAt t (a.eval x) (a.eval v); pure .skip : Sem Next) := by simp only [execOp, hop]
  rw [h1];refine Sim.unit ?_;intro lv S' h hf;obtain ⟨u, w', G', k1, _, k3⟩ := store_sim hr (he.lv x) (he.lv v) lv S' h hf;exact ⟨u, w', G', k1, storeT_un h, k3⟩
 | nilCheck x => exact nilCheck_sim hr hop (he.lv x)
 | binOp op t x y _ => exact hval _ _ (by simp only [execOp, hop]) (bin_sim (xo := x) hr (he.lv x) (he.lv y) (fun c hc => by subst hc; rfl))
 | unOp op t x => exact hval _ _ (by simp only [execOp, hop]) (un_sim hr (he.lv x))
 | convert s d x => exact hval _ _ (by simp only [execOp, hop]) (convert_sim hr (he.lv x))
 | makeFunc fn first caps =>
  cases fn with
  | func f =>
   refine Sim.pure' hr fun z S' h => ?_;simp only [stepT] at h;split at h
   case isFalse => cases h
   rename_i hf
   cases h
   have hfirst : first = #[] := Array.eq_empty_of_size_eq_zero hf;subst hfirst;refine ⟨rfl, .value (.func (.func f) #[] (caps.map a.eval)), by simp [execOp, hop, Instr.makeFunc], _, .inl rfl, ?_⟩
   exact .fn f _ _ (he.list caps).1 (he.list caps).2
  | _ => exact Sim.no
 | makeMap t r =>
  cases r with
  | none => exact hval _ _ (by simp only [execOp, hop, Option.map_none]) (makeMap_sim hr)
  | some r => exact Sim.no
 | makeSlice t n c => exact hval _ _ (by simp only [execOp, hop]) (makeSlice_sim hr (he.lv n) (he.lv c))
 | slice t x lo hi mx =>
  simp only [stepT];split
  ·exact Sim.no
  ·rename_i hm;refine hval _ _ (by simp only [execOp, hop]) (slice_sim hr (he.lv x) (he.opt lo) (he.opt hi) (he.opt mx) (fun h => ?_))
   simp only [Option.isSome_map] at h ⊢
   cases hhi : hi.isSome with
   | true => rfl
   | false => exact absurd ⟨h, hhi⟩ hm
 | fieldAddr t x f => exact hval _ _ (by simp only [execOp, hop]) (fieldAddr_sim hr (he.lv x))
 | field t x f => exact hval _ _ (by simp only [execOp, hop]) (field_sim hr (he.lv x))
 | indexAddr t x i => exact hval _ _ (by simp only [execOp, hop]) (indexAddr_sim hr (he.lv x) (he.lv i))
 | index t x i => exact hval _ _ (by simp only [execOp, hop]) (index_sim hr (he.lv x) (he.lv i))
 | lookup t m i ok => exact hval _ _ (by simp only [execOp, hop]) (lookup_sim hr (he.lv m) (he.lv i))
 | mapUpdate t m i v =>
  have h1 : execOp a.eval o = (do Instr.mapUpdate t (a.eval m) (a.eval i) (a.eval v); pure .skip : Sem Next) := by simp only [execOp, hop]
  rw [h1];exact (mapUpdate_sim hr (he.lv m) (he.lv i) (he.lv v)).unit
 | extract x i => exact hval _ _ (by simp only [execOp, hop]) (extract_sim hr (he.lv x))
 | call c =>
  obtain ⟨cal, args, ts⟩ := c
  cases cal with
  | builtin b =>
   have h1 : execOp a.eval o = builtin b ts o.type (args.map fun | .const _ => true | _ => false) (args.map a.eval) := by
    simp only [execOp, hop, resolve]; rfl
   rw [h1];exact builtin_sim hr he
  | _ => exact Sim.no
 | _ => exact Sim.no
end Go.VM
end
section
namespace Go.VM
open Go.RowKit
variable {w w' w1 w2 : World} {G G' G1 G2 : Gh} {S S' S1 S2 : St} {P : Program}
def T.clean {α : Type} : T α → Prop
 | .ret _ | .no => True
 | .vac => False
 | .get _ k => ∀ o, (k o).clean
 | .put _ _ k => k.clean
 | .new _ k => ∀ i, (k i).clean
 | .tick k => ∀ v, (k v).clean
 | .leak k => k.clean
theorem T.clean.run {α : Type} : ∀ {t : T α} {S : St}, t.clean → t.run S ≠ .vac := by
 intro t
 induction t with
 | ret a => intro S _ h; cases h
 | no => intro S _ h; cases h
 | vac => intro S hc; exact hc.elim
 | get id k ih => intro S hc; exact ih _ (hc _)
 | put id o k ih => intro S hc; exact ih hc
 | new o k ih => intro S hc; exact ih _ (hc _)
 | tick k ih => intro S hc; exact ih _ (hc _)
 | leak k ih => intro S hc; exact ih hc
theorem T.clean.bind {α β : Type} {f : α → T β} (hf : ∀ a, (f a).clean) : ∀ {t : T α}, t.clean → (t.bind f).clean := by
 intro t
 induction t with
 | ret a => intro _; exact hf a
 | no => intro _; trivial
 | vac => intro hc; exact hc.elim
 | get id k ih => intro hc o; exact ih o (hc o)
 | put id o k ih => intro hc; exact ih hc
 | new o k ih => intro hc i; exact ih i (hc i)
 | tick k ih => intro hc v; exact ih v (hc v)
 | leak k ih => intro hc; exact ih hc
theorem clean_bind {α β : Type} {f : α → T β} {t : T α} (h : t.clean) (hf : ∀ a, (f a).clean) : (t.bind f).clean := T.clean.bind hf h
theorem clean_ret {α : Type} (a : α) : (T.ret a).clean := trivial
theorem clean_no {α : Type} : (T.no : T α).clean := trivial
theorem clean_arr {α : Type} {l : Loc} {k : Nat → List D → Bool → T α} (h : ∀ sz xs fz, (k sz xs fz).clean) : (arrT l k).clean := by
 cases l with
 | arr id => intro o; cases o <;> first | exact h _ _ _ | trivial
 | cell id off v =>
  intro o
  cases o <;> first | trivial | skip
  rename_i cs;simp only;split
  ·split
   ·exact h _ _ _
   ·trivial
  ·trivial
theorem clean_set {l : Loc} {sz : Nat} {xs : List D} {fz : Bool} : (setT l sz xs fz).clean := by
 cases l with
 | arr id => trivial
 | cell id off v => intro o; cases o <;> trivial
theorem clean_kill {l : Loc} : (killT l).clean := by
 cases l with
 | arr id => trivial
 | cell id off v => intro o; cases o <;> trivial
theorem clean_toD1 (v : LV) : (toD1 v).clean := by
 cases v <;> first | trivial | skip
 refine clean_arr fun sz xs fz => ?_;split
 ·split
  ·trivial
  ·exact clean_bind clean_set fun _ => clean_ret _
 ·trivial
theorem clean_mapL {α β : Type} {f : α → T β} (h : ∀ a, (f a).clean) : ∀ l : List α, (T.mapL f l).clean := by
 intro l
 induction l with
 | nil => trivial
 | cons a l ih => exact clean_bind (h a) fun _ => clean_bind ih fun _ => clean_ret _
theorem clean_toD (v : LV) : (toD v).clean := by
 unfold toD;split
 ·exact clean_bind (clean_mapL clean_toD1 _) fun _ => clean_ret _
 ·exact clean_toD1 _
theorem clean_peek1 (v : LV) : (peek1 v).clean := by
 cases v <;> first | trivial | skip
 refine clean_arr fun sz xs fz => ?_;split <;> trivial
theorem clean_peek (v : LV) : (peek v).clean := by
 unfold peek;split
 ·exact clean_bind (clean_mapL clean_peek1 _) fun _ => clean_ret _
 ·exact clean_peek1 _
theorem clean_stow {id : Nat} (v : LV) : (stow id v).clean := by
 unfold stow;split <;> first | trivial | skip
 ·refine clean_arr fun sz xs fz => ?_;split
  ·split
   ·trivial
   ·exact clean_bind clean_kill fun _ v => clean_ret _
  ·trivial
 ·split <;> trivial
 ·split <;> trivial
theorem clean_storeCell {id off : Nat} {v : LV} : (storeCellT id off v).clean := by
 refine clean_bind (clean_stow v) fun c o => ?_
 cases o <;> first | trivial | skip
 simp only;split <;> trivial
theorem clean_storeCells {id : Nat} : ∀ (l : List LV) (off : Nat), (storeCellsT id off l).clean := by
 intro l
 induction l with
 | nil => intro off; trivial
 | cons a l ih => intro off; exact clean_bind clean_storeCell fun _ => ih _
theorem clean_load {t : TypeId} {v : LV} : (loadT P t v).clean := by
 unfold loadT;split
 ·intro o
  cases o <;> first | trivial | skip
  simp only
  repeat' split
  all_goals trivial
 ·refine clean_arr fun sz xs fz => ?_
  repeat' split
  all_goals trivial
 ·repeat' split
  all_goals trivial
 ·trivial
theorem clean_store {t : TypeId} {v a : LV} : (storeT P t v a).clean := by
 unfold storeT;split
 ·split
  ·exact clean_bind (clean_storeCells _ _) fun _ => clean_ret _
  ·refine clean_bind (clean_mapL clean_toD1 _) fun ds => clean_arr fun sz xs fz => ?_;split
   ·trivial
   ·split
    ·split
     ·exact clean_bind clean_set fun _ => clean_ret _
     ·trivial
    ·trivial
  ·trivial
 ·trivial
theorem clean_cut {α : Type} {n : Nat} {lo hi mx : Option LV} {k : Nat → Nat → T α} (h : ∀ a b, (k a b).clean) : (cut n lo hi mx k).clean := by
 unfold cut;split
 ·split
  ·exact h _ _
  ·trivial
 ·trivial
theorem clean_src {es : Nat} {x : LV} {k : List D → T LV} (h : ∀ ys, (k ys).clean) : (srcT es x k).clean := by
 unfold srcT;split
 ·split
  ·exact h _
  ·trivial
 ·split
  ·exact h _
  ·trivial
 ·refine clean_arr fun sz xs fz => ?_;split
  ·exact h _
  ·trivial
 ·split
  ·exact h _
  ·trivial
 ·trivial
theorem clean_grow {es by_ : Nat} {x : LV} {ys : List D} : (growT es by_ x ys).clean := by
 unfold growT;split
 ·split
  ·split
   ·split
    ·intro i; trivial
    ·trivial
   ·trivial
  ·trivial
 ·split
  ·refine clean_arr fun sz xs fz => ?_;split
   ·trivial
   ·split
    ·exact clean_bind clean_kill fun _ i => clean_ret _
    ·trivial
  ·trivial
 ·trivial
theorem clean_append {ts : Array TypeId} {x y : LV} : (appendT P ts x y).clean := by
 unfold appendT;split
 ·split
  ·split
   ·split
    ·split
     ·split
      ·exact clean_grow
      ·trivial
     ·trivial
    ·split
     ·exact clean_src fun _ => clean_grow
     ·trivial
   ·trivial
  ·trivial
 ·trivial
theorem clean_copy {ts : Array TypeId} {x y : LV} : (copyT P ts x y).clean := by
 unfold copyT;split
 ·refine clean_src fun ys => ?_;split
  ·split
   ·refine clean_arr fun sz xs fz => ?_;split
    ·trivial
    ·split
     ·exact clean_bind clean_set fun _ => clean_ret _
     ·trivial
   ·trivial
  ·trivial
 ·trivial
theorem bin_vac {op : BinOp} {t : TypeId} {yn : Option Bool} {x y : LV} : binT P op t yn x y ≠ .vac := by
 have heq : ∀ b, eqNil op b ≠ .vac := by intro b; cases op <;> cases b <;> intro h <;> cases h
 unfold binT;split
 ·split
  ·exact heq _
  ·simp
 ·split
  ·exact heq _
  ·simp
 ·unfold binS;split
  ·split
   ·split <;> simp
   ·split <;> simp
   ·split
    ·unfold intBin
     repeat' split
     all_goals simp
    ·simp
  ·unfold strBin
   repeat' split
   all_goals simp
  ·split <;> simp
  ·simp
theorem un_vac {op : UnOp} {x : LV} : unT op x ≠ .vac := by
 unfold unT;split <;> simp
theorem clean_ofRes {α : Type} {r : Res α} (h : r ≠ .vac) : (T.ofRes r).clean := by
 cases r with
 | ok a => trivial
 | no => trivial
 | vac => exact absurd rfl h
theorem clean_slice {t : TypeId} {x : LV} {lo hi mx : Option LV} : (sliceT P t x lo hi mx).clean := by
 unfold sliceT;split
 ·split
  ·trivial
  ·split
   ·exact clean_cut fun _ _ => trivial
   ·trivial
 ·split
  ·split
   ·exact clean_cut fun _ _ => trivial
   ·trivial
  ·trivial
 ·split
  ·split
   ·exact clean_cut fun _ _ => trivial
   ·trivial
  ·trivial
 ·split
  ·split
   ·exact clean_cut fun _ _ => trivial
   ·trivial
  ·trivial
 ·trivial
theorem clean_convert {s d : TypeId} {x : LV} : (convertT P s d x).clean := by
 unfold convertT;split
 ·split
  ·split <;> trivial
  ·split
   ·trivial
   ·split
    ·intro i; trivial
    ·trivial
  ·split
   ·split
    ·refine clean_bind (clean_peek1 _) fun y => ?_;split
     ·split <;> trivial
     ·trivial
    ·trivial
   ·split
    ·split <;> trivial
    ·trivial
 ·trivial
theorem clean_indexAddr {t : TypeId} {x i : LV} : (indexAddrT P t x i).clean := by
 have he : ∀ xs es n, (elemOf xs es n).clean := by
  intro xs es n;unfold elemOf
  repeat' split
  all_goals trivial
 unfold indexAddrT
 repeat' split
 all_goals first | trivial | exact he _ _ _
theorem clean_lookup {t : TypeId} {m i : LV} {ok : Bool} : (lookupT P t m i ok).clean := by
 unfold lookupT;split
 ·split
  ·split
   ·split
    ·intro o
     cases o <;> first | trivial | skip
     simp only;split <;> trivial
    ·trivial
    ·trivial
   ·trivial
  ·trivial
 ·trivial
theorem clean_mapUpdate {t : TypeId} {m i v : LV} : (mapUpdateT P t m i v).clean := by
 unfold mapUpdateT;split
 ·split
  ·split
   ·refine clean_bind (clean_toD _) fun x o => ?_
    cases o <;> first | trivial | skip
    simp only;split <;> trivial
   ·trivial
  ·trivial
 ·trivial
theorem clean_delete {ts : Array TypeId} {m i : LV} : (deleteT P ts m i).clean := by
 unfold deleteT;split
 ·split
  ·split
   ·intro o
    cases o <;> first | trivial | skip
    simp only;split <;> trivial
   ·trivial
  ·trivial
 ·trivial
theorem clean_minmax {f : Int → Int → Int} {l : List LV} : (minmaxT f l).clean := by
 unfold minmaxT;split
 ·split <;> trivial
 ·trivial
theorem clean_fieldAddr {t : TypeId} {f : Nat} {x : LV} : (fieldAddrT P t f x).clean := by
 unfold fieldAddrT
 repeat' split
 all_goals trivial
theorem clean_field {t : TypeId} {f : Nat} {x : LV} : (fieldT P t f x).clean := by
 unfold fieldT
 repeat' split
 all_goals trivial
theorem clean_index {t : TypeId} {x i : LV} : (indexT P t x i).clean := by
 unfold indexT
 repeat' split
 all_goals trivial
theorem clean_makeSlice {t : TypeId} {n c : LV} : (makeSliceT P t n c).clean := by
 unfold makeSliceT;split
 ·split
  ·split
   ·intro i; trivial
   ·trivial
  ·trivial
 ·trivial
theorem clean_buildSlice {t : TypeId} {n : Nat} {ps : List (Nat × LV)} : (buildSliceT P t n ps).clean := by
 unfold buildSliceT;split
 ·split
  ·refine clean_bind (clean_mapL (fun p => clean_toD _) _) fun xs => ?_;split <;> trivial
  ·trivial
 ·trivial
theorem clean_build {t : TypeId} {ps : List (Nat × LV)} : (buildT P t ps).clean := by
 unfold buildT
 repeat' split
 all_goals trivial
theorem step_vac (hr : Rel w G S) {e : Env} {a : Act} (he : EnvRel w G e a) {op : Op} : (stepT P e op).run S ≠ .vac := by
 cases op with
 | move x => exact (clean_ret _).run
 | assign x => exact (clean_ret _).run
 | pick c a b =>
  refine T.clean.run ?_;simp only [stepT];split <;> trivial
 | alloc t =>
  refine T.clean.run ?_;simp only [stepT, allocT];split
  ·intro i; trivial
  ·trivial
 | box t x =>
  refine T.clean.run ?_;simp only [stepT, boxT];intro i;exact clean_bind (clean_storeCells _ _) fun _ => clean_ret _
 | build t ps => exact clean_build.run
 | buildSlice t n ps => exact clean_buildSlice.run
 | load t x => exact clean_load.run
 | store t x v => exact clean_store.run
 | nilCheck x =>
  refine T.clean.run ?_;simp only [stepT, nilCheckT];split <;> trivial
 | binOp op t x y _ => exact (clean_ofRes bin_vac).run
 | unOp op t x => exact (clean_ofRes un_vac).run
 | convert s d x => exact clean_convert.run
 | makeFunc fn first caps =>
  cases fn with
  | func f =>
   refine T.clean.run ?_;simp only [stepT];split <;> trivial
  | _ => exact clean_no.run
 | makeMap t r =>
  cases r with
  | none =>
   refine T.clean.run ?_;simp only [stepT, makeMapT];split
   ·intro i; trivial
   ·trivial
  | some r => exact clean_no.run
 | makeSlice t n c => exact clean_makeSlice.run
 | slice t x lo hi mx =>
  refine T.clean.run ?_;simp only [stepT];split
  ·trivial
  ·exact clean_slice
 | fieldAddr t x f => exact clean_fieldAddr.run
 | field t x f => exact clean_field.run
 | indexAddr t x i => exact clean_indexAddr.run
 | index t x i => exact clean_index.run
 | lookup t m i ok => exact clean_lookup.run
 | mapUpdate t m i v => exact clean_mapUpdate.run
 | extract x i =>
  refine T.clean.run ?_;simp only [stepT, extractT];split
  ·split <;> trivial
  ·trivial
 | call c =>
  obtain ⟨cal, args, ts⟩ := c
  cases cal with
  | builtin b =>
   simp only [stepT];unfold builtinT;split
   ·rename_i x hx;obtain ⟨p, rfl, rfl⟩ := one_of hx
    cases ht : ts[0]? with
    | none => exact clean_no.run
    | some t => exact len_vac hr (he.lv p)
   ·exact clean_append.run
   ·exact clean_copy.run
   ·exact clean_delete.run
   ·exact clean_minmax.run
   ·exact clean_minmax.run
   ·exact clean_no.run
  | _ => exact clean_no.run
 | _ => exact clean_no.run
end Go.VM
end
section
namespace Go.VM
open Go.RowKit
variable {w w' w1 w2 : World} {G G' G1 G2 : Gh} {S S' S1 S2 : St} {P : Program}
def ArgsRel (w : World) (G : Gh) (ls : List LV) (vs : List Value) : Prop := ls.length = vs.length ∧ ∀ (i : Nat) (c : LV) (v : Value), ls[i]? = some c → vs[i]? = some v → LVRel w G c v
def Fresh (G : Gh) (S : St) : Prop := ∀ l, G.dom l → match l with | .arr id => id < S.next | .cell _ _ v => v < S.clk
theorem Res.bind_vac {α β : Type} {r : Res α} {f : α → Res β} (h : r.bind f = .vac) : r = .vac ∨ ∃ a, r = .ok a ∧ f a = .vac := by
 cases r with
 | ok a => exact .inr ⟨a, rfl, h⟩
 | no => cases h
 | vac => exact .inl rfl
theorem closeV_rel {r r' : LV} {v : Value} (hr : Rel w G S) (hv : LVRel w G r v) (h : (closeV r).run S = .ok (r', S')) : dataV r' = true ∧ ∃ G', Rel w G' S' ∧ Ext w G w G' ∧ LVRel w G' r' v := by
 unfold closeV at h;split at h
 ·rename_i vs;obtain ⟨ds, S1, h1, h2⟩ := T.bind_ok h
  cases h2
  cases hv with
  | tup _ cs hl hh =>
   obtain ⟨G', a1, a2, _, a4, a5, _⟩ := mapL_ok toD_ok vs cs.toList hr (by simpa using hl) (fun k c x e1 e2 => hh k c x e1 (by simpa using e2)) h1
   refine ⟨by simp [dataV, data1], G', a1, a2, .tup _ cs (by simpa using a4) (fun i c x e1 e2 => ?_)⟩
   rw [List.getElem?_map] at e1
   cases hd : ds[i]? with
   | none => rw [hd] at e1; cases e1
   | some d => rw [hd] at e1; cases e1; exact .d _ _ (a5 i d x hd (by simpa using e2))
 ·obtain ⟨d, S1, h1, h2⟩ := T.bind_ok h
  cases h2
  obtain ⟨G', a1, a2, _, a4, _⟩ := toD_ok hr hv h1;exact ⟨rfl, G', a1, a2, .d _ _ a4⟩
theorem clean_close (r : LV) : (closeV r).clean := by
 unfold closeV;split
 ·exact clean_bind (clean_mapL clean_toD _) fun _ => clean_ret _
 ·exact clean_bind (clean_toD _) fun _ => clean_ret _
theorem prep_ok {lv lv' : LV} {v : Value} (hr : Rel w G S) (hv : LVRel w G lv v) (h : (prep lv).run S = .ok (lv', S')) :
  ∃ G', Rel w G' S' ∧ Ext w G w G' ∧ (∀ k, G'.dom k ↔ G.dom k) ∧ LVRel w G' lv' v ∧ S'.next = S.next ∧ S'.clk = S.clk := by
 unfold prep at h;split at h
 ·cases h; exact ⟨G, hr, Ext.refl w G, fun _ => Iff.rfl, hv, rfl, rfl⟩
 ·cases h; exact ⟨G, hr, Ext.refl w G, fun _ => Iff.rfl, hv, rfl, rfl⟩
 ·cases h; exact ⟨G, hr, Ext.refl w G, fun _ => Iff.rfl, hv, rfl, rfl⟩
 ·cases h; exact ⟨G, hr, Ext.refl w G, fun _ => Iff.rfl, hv, rfl, rfl⟩
 ·obtain ⟨d, S1, h1, h2⟩ := T.bind_ok h
  cases h2
  obtain ⟨G', a1, a2, a3, a4, a5, a6⟩ := toD_ok hr hv h1;exact ⟨G', a1, a2, a3, .d _ _ a4, a5, a6⟩
theorem mapP_ok {g : LV → T LV} (hg : ∀ {w : World} {G : Gh} {S S' : St} {lv lv' : LV} {v : Value}, Rel w G S → LVRel w G lv v → (g lv).run S = .ok (lv', S') →
  ∃ G', Rel w G' S' ∧ Ext w G w G' ∧ (∀ k, G'.dom k ↔ G.dom k) ∧ LVRel w G' lv' v ∧ S'.next = S.next ∧ S'.clk = S.clk) : ∀ (ls : List LV) (vs : List Value) {w : World} {G : Gh} {S : St} {as : List LV} {S' : St}, Rel w G S → ArgsRel w G ls vs → (T.mapL g ls).run S = .ok (as, S') →
  ∃ G', Rel w G' S' ∧ Ext w G w G' ∧ (∀ k, G'.dom k ↔ G.dom k) ∧ ArgsRel w G' as vs ∧ S'.next = S.next ∧ S'.clk = S.clk := by
 intro ls
 induction ls with
 | nil =>
  intro vs w G S as S' hr ha h
  cases h
  exact ⟨G, hr, Ext.refl w G, fun _ => Iff.rfl, ha, rfl, rfl⟩
 | cons c cs ih =>
  intro vs w G S as S' hr ha h
  cases vs with
  | nil => cases ha.1
  | cons v vs =>
   simp only [T.mapL] at h;obtain ⟨d, S1, h1, h2⟩ := T.bind_ok h;obtain ⟨ds, S2, h3, h4⟩ := T.bind_ok h2
   cases h4
   obtain ⟨G1, a1, a2, a3, a4, a5, a6⟩ := hg hr (ha.2 0 c v rfl rfl) h1;obtain ⟨G2, b1, b2, b3, b4, b5, b6⟩ := ih vs a1 ⟨by have := ha.1; simpa using this, fun i c x e1 e2 => (ha.2 (i + 1) c x (by simpa using e1) (by simpa using e2)).ext hr.wf a2⟩ h3
   refine ⟨G2, b1, a2.trans b2, fun k => (b3 k).trans (a3 k), ⟨by simp [b4.1], fun i c' x e1 e2 => ?_⟩, b5.trans a5, b6.trans a6⟩
   cases i with
   | zero => simp at e1 e2; subst e1 e2; exact a4.ext a1.wf b2
   | succ i => exact b4.2 i c' x (by simpa using e1) (by simpa using e2)
theorem preps_ok (ls : List LV) (vs : List Value) {w : World} {G : Gh} {S : St} {as : List LV} {S' : St} : Rel w G S → ArgsRel w G ls vs → (T.mapL prep ls).run S = .ok (as, S') →
  ∃ G', Rel w G' S' ∧ Ext w G w G' ∧ (∀ k, G'.dom k ↔ G.dom k) ∧ ArgsRel w G' as vs ∧ S'.next = S.next ∧ S'.clk = S.clk := mapP_ok prep_ok ls vs
theorem lend_ok {lv lv' : LV} {v : Value} (hr : Rel w G S) (hv : LVRel w G lv v) (h : (lend lv).run S = .ok (lv', S')) :
  ∃ G', Rel w G' S' ∧ Ext w G w G' ∧ (∀ k, G'.dom k ↔ G.dom k) ∧ LVRel w G' lv' v ∧ S'.next = S.next ∧ S'.clk = S.clk := by
 unfold lend at h;split at h
 ·obtain ⟨d, S1, h1, h2⟩ := T.bind_ok h
  cases h2
  obtain ⟨G', a1, a2, a3, a4, a5, a6⟩ := toD_ok hr hv h1;exact ⟨G', a1, a2, a3, .d _ _ a4, a5, a6⟩
 ·cases h
  cases hv with
  | lit _ a hx _ _ => exact ⟨G, hr, Ext.refl w G, fun _ => Iff.rfl, .d _ _ hx, rfl, rfl⟩
 ·cases h; exact ⟨G, hr, Ext.refl w G, fun _ => Iff.rfl, hv, rfl, rfl⟩
theorem clean_lend (v : LV) : (lend v).clean := by
 unfold lend;split
 ·rename_i l sz lo n;exact clean_bind (clean_toD (.ar l sz lo n)) fun _ => clean_ret _
 ·trivial
 ·trivial
theorem clean_prep (v : LV) : (prep v).clean := by
 unfold prep;split
 ·trivial
 ·trivial
 ·trivial
 ·trivial
 ·exact clean_bind (clean_toD _) fun _ => clean_ret _
theorem gather_ok : ∀ (n : Nat) (todo : List Nat) (done objs : List (Nat × Obj)) {S S' : St}, (∀ p ∈ done, S.obj p.1 = p.2) → (gather n todo done).run S = .ok (objs, S') → S' = S ∧ ∀ p ∈ objs, S.obj p.1 = p.2 := by
 intro n
 induction n with
 | zero =>
  intro todo done objs S S' hd h
  cases todo with
  | nil => cases h; exact ⟨rfl, hd⟩
  | cons i l => cases h
 | succ n ih =>
  intro todo done objs S S' hd h
  cases todo with
  | nil => cases h; exact ⟨rfl, hd⟩
  | cons i l =>
   simp only [gather] at h;split at h
   ·exact ih l done objs hd h
   ·refine ih _ _ objs (fun p hp => ?_) h
    cases hp with
    | head => rfl
    | tail _ hp => exact hd p hp
theorem clean_gather : ∀ (n : Nat) (todo : List Nat) (done : List (Nat × Obj)), (gather n todo done).clean := by
 intro n
 induction n with
 | zero => intro todo done; cases todo <;> trivial
 | succ n ih =>
  intro todo done
  cases todo with
  | nil => trivial
  | cons i l =>
   simp only [gather];split
   ·exact ih _ _
   ·intro o; exact ih _ _
theorem puts_run {α : Type} {F : Nat → Obj} {t : T α} : ∀ (R : List Nat) (S : St), (putsT (R.map fun i => (i, F i)) t).run S = t.run ⟨fun j => if j ∈ R then F j else S.obj j, S.next, S.clk, S.esc⟩ := by
 intro R
 induction R with
 | nil => intro S; simp [putsT]
 | cons i R ih =>
  intro S;simp only [List.map_cons, putsT];show (putsT (R.map fun i => (i, F i)) t).run (S.set i (F i)) = _;rw [ih];congr 1;have : (fun j => if j ∈ R then F j else (S.set i (F i)).obj j) = fun j => if j ∈ i :: R then F j else S.obj j := by
   funext j;by_cases hj : j ∈ R
   ·simp [hj]
   ·by_cases hi : j = i
    ·subst hi; simp [hj, St.set]
    ·simp [hj, hi, St.set]
  rw [this]; rfl
theorem small_obj {objs : List (Nat × Obj)} {S : St} (h : ∀ p ∈ objs, S.obj p.1 = p.2) (i : Nat) : (small objs).obj i = if i ∈ objs.map (·.1) then S.obj i else .dead := by
 show ((objs.find? fun p => p.1 == i).map (·.2)).getD .dead = _
 cases hf : objs.find? (fun p => p.1 == i) with
 | none =>
  rw [List.find?_eq_none] at hf;have : i ∉ objs.map (·.1) := by
   intro hm;obtain ⟨p, hp, e⟩ := List.mem_map.1 hm;exact hf p hp (by simp [e])
  rw [if_neg this]; rfl
 | some p =>
  have h1 := List.find?_some hf;have h2 := List.mem_of_find?_eq_some hf;have h3 : p.1 = i := by simpa using h1
  rw [if_pos (List.mem_map.2 ⟨p, h2, h3⟩), ← h3, h p h2]; rfl
theorem next_lt : ∀ {objs : List (Nat × Obj)} {i : Nat}, i ∈ objs.map (·.1) → i < nextOf objs := by
 intro objs
 induction objs with
 | nil => intro i h; cases h
 | cons p l ih =>
  intro i h;simp only [List.map_cons, List.mem_cons] at h;simp only [nextOf];rcases h with rfl | h
  ·omega
  ·have := ih h; omega
theorem clkC_lt : ∀ {cs : List LV} {k v sz : Nat} {xs : List D} {fz : Bool}, cs[k]? = some (.own v sz xs fz) → v < clkC cs := by
 intro cs
 induction cs with
 | nil => intro k v sz xs fz h; simp at h
 | cons c cs ih =>
  intro k v sz xs fz h
  cases k with
  | zero => simp at h; subst h; simp only [clkC]; omega
  | succ k =>
   have := ih (by simpa using h)
   cases c <;> simp only [clkC] <;> omega
theorem clk_lt : ∀ {objs : List (Nat × Obj)} {i k v sz : Nat} {cs : List LV} {xs : List D} {fz : Bool}, (i, Obj.cells cs) ∈ objs → cs[k]? = some (.own v sz xs fz) → v < clkOf objs := by
 intro objs
 induction objs with
 | nil => intro i k v sz cs xs fz h; cases h
 | cons p l ih =>
  intro i k v sz cs xs fz h hk
  cases h with
  | head => have := clkC_lt hk; simp only [clkOf]; omega
  | tail _ h =>
   have := ih h hk;obtain ⟨j, o⟩ := p
   cases o <;> simp only [clkOf] <;> omega
def curV (S : St) (id off : Nat) : Option Nat := match S.obj id with
 | .cells cs => match cs[off]? with
  | some (.own v _ _ _) => some v
  | _ => none
 | _ => none
theorem curV_some {S : St} {id off v : Nat} (h : curV S id off = some v) : ∃ cs sz xs fz, S.obj id = .cells cs ∧ cs[off]? = some (.own v sz xs fz) := by
 unfold curV at h;split at h
 ·rename_i cs hc;split at h
  ·rename_i v' sz xs fz hk; cases h; exact ⟨cs, sz, xs, fz, hc, hk⟩
  ·cases h
 ·cases h
theorem curV_of {S : St} {id off v sz : Nat} {cs : List LV} {xs : List D} {fz : Bool} (h : S.obj id = .cells cs) (k : cs[off]? = some (.own v sz xs fz)) : curV S id off = some v := by
 simp only [curV, h, k]
def domR (G : Gh) (S : St) (R : List Nat) : Loc → Prop
 | .arr id => id ∈ R ∧ G.dom (.arr id)
 | .cell id off v => id ∈ R ∧ G.dom (.cell id off v) ∧ curV S id off = some v
def ownR (R : List Nat) : Option Loc → Option Loc
 | some l => if l.id ∈ R then some l else none
 | none => none
def gR (G : Gh) (S : St) (R : List Nat) : Gh := ⟨G.addr, G.cap, G.esz, domR G S R, fun b => ownR R (G.own b), G.St, G.Lt⟩
theorem ownR_some {R : List Nat} {o : Option Loc} {l : Loc} (h : ownR R o = some l) : o = some l ∧ l.id ∈ R := by
 unfold ownR at h;split at h
 ·split at h
  ·cases h; exact ⟨rfl, by assumption⟩
  ·cases h
 ·cases h
theorem tame_rel {R : List Nat} {lv : LV} {v : Value} (ht : argTame R lv = true) (hr : LVRel w G lv v) : LVRel w (gR G S R) lv v := by
 cases hr with
 | d x v h => exact .d x v h
 | ptr id off hd =>
  have hi : id ∈ R := by simpa [argTame] using ht
  exact .ptr (G := gR G S R) id off ⟨hi, hd⟩
 | mp id hd =>
  have hi : id ∈ R := by simpa [argTame] using ht
  exact .mp (G := gR G S R) id ⟨hi, hd⟩
 | fn f cs vs hl hh =>
  cases cs with
  | nil => exact .fn f [] vs hl (fun i c v h => by simp at h)
  | cons c cs => cases ht
 | lit xs a h hl hn => exact .lit (G := gR G S R) xs a h hl hn
 | _ => cases ht
theorem cell_small {R : List Nat} {id k : Nat} {cs : List LV} {lv : LV} {v : Value} (hi : id ∈ R) (hc : S.obj id = .cells cs) (hk : cs[k]? = some lv) (ht : cellTame R lv = true) (hr : CellRel w G id k lv v) : CellRel w (gR G S R) id k lv v := by
 cases lv with
 | own ver sz xs fz =>
  obtain ⟨⟨a, cap, h1, h2⟩, h3⟩ := hr;have hd : domR G S R (.cell id k ver) := ⟨hi, h3.dom, curV_of hc hk⟩;refine ⟨⟨a, cap, h1, ?_⟩, ⟨hd, h3.esz, h3.hz, h3.ho, h3.len, fun hcap => ?_⟩⟩
  ·rw [h1] at h2 ⊢
   cases h2 with
   | ar _ _ _ _ _ _ hd' hs hb hc ha => exact .ar (G := gR G S R) _ _ _ _ _ _ hd hs hb hc ha
  ·obtain ⟨c, e, f, q1, q2, q3, q4⟩ := h3.row hcap;refine ⟨c, e, f, q1, q2, q3, ?_⟩
   cases fz with
   | true => exact q4
   | false =>
    simp only [Bool.false_eq_true, if_false] at q4 ⊢;refine ⟨?_, q4.2⟩;show ownR R (G.own (G.addr (.cell id k ver)).1) = _;rw [q4.1];simp [ownR, Loc.id, hi]
 | lit xs =>
  have hr' : LVRel w G (.lit xs) v := hr;show LVRel w (gR G S R) (.lit xs) v
  cases hr' with
  | lit _ a h hl hn => exact .lit (G := gR G S R) xs a h hl hn
 | un => exact LVRel.un v
 | _ => exact tame_rel (S := S) ht hr
theorem obj_small {R : List Nat} {id : Nat} (hi : id ∈ R) (ht : objTame R (S.obj id) = true) (hr : ObjRel w G id (S.obj id)) : ObjRel w (gR G S R) id (S.obj id) := by
 cases ho : S.obj id with
 | dead => trivial
 | arr sz xs fz => rw [ho] at ht; cases ht
 | loop L => rw [ho] at ht; cases ht
 | cells cs =>
  rw [ho] at ht hr;obtain ⟨hd, hown, c, e, f, h1, h2, h3, h4, h5⟩ := hr;refine ⟨⟨hi, hd⟩, ?_, c, e, f, h1, h2, h3, h4, fun k lv v a b => ?_⟩
  ·show ownR R (G.own (G.addr (.arr id)).1) = _;rw [hown]; simp [ownR, Loc.id, hi]
  ·refine cell_small hi ho a ?_ (h5 k lv v a b);simp only [objTame, List.all_eq_true] at ht;exact ht lv (List.mem_of_getElem? a)
 | mp ks es =>
  rw [ho] at hr;obtain ⟨hks, hd, hown, en, cl, h1, h2, h3⟩ := hr;refine ⟨hks, ⟨hi, hd⟩, ?_, en, cl, h1, h2, h3⟩;show ownR R (G.own (G.addr (.arr id)).1) = _;rw [hown]; simp [ownR, Loc.id, hi]
theorem rel_small {objs : List (Nat × Obj)} (h : ∀ p ∈ objs, S.obj p.1 = p.2) (ht : (objs.all fun p => objTame (objs.map (·.1)) p.2) = true) (hr : Rel w G S) : Rel w (gR G S (objs.map (·.1))) (small objs) := by
 refine ⟨⟨fun b l hb => ?_, hr.wf.st, hr.wf.lt, hr.wf.max⟩, fun id => ?_⟩
 ·exact hr.wf.own b l (ownR_some hb).1
 ·rw [small_obj h];split
  ·rename_i hi;refine obj_small hi ?_ (hr.obj id);obtain ⟨p, hp, e⟩ := List.mem_map.1 hi;simp only [List.all_eq_true] at ht;rw [← e, h p hp]; exact ht p hp
  ·trivial
theorem fresh_small {objs : List (Nat × Obj)} (h : ∀ p ∈ objs, S.obj p.1 = p.2) : Fresh (gR G S (objs.map (·.1))) (small objs) := by
 intro l hl
 cases l with
 | arr id => exact next_lt hl.1
 | cell id off v =>
  obtain ⟨cs, sz, xs, fz, h1, h2⟩ := curV_some hl.2.2;obtain ⟨p, hp, e⟩ := List.mem_map.1 hl.1;have := h p hp;rw [e, h1] at this;obtain ⟨i, o⟩ := p;simp only at this e;subst this e;exact clk_lt hp h2
def newL (R : List Nat) (c : Nat) (S : St) : Loc → Option Loc
 | .cell id off v => if id ∈ R ∧ v = c then (curV S id off).map (.cell id off) else none
 | .arr _ => none
def renL (R : List Nat) (c : Nat) (S : St) : Option Loc → Option Loc
 | some (.arr id) => if id ∈ R then some (.arr id) else none
 | some (.cell id off u) => if id ∈ R ∧ curV S id off = some u then some (.cell id off c) else none
 | none => none
def gB (G G2 : Gh) (R : List Nat) (c : Nat) (S2 : St) : Gh :=
 ⟨fun l => match newL R c S2 l with | some u => G2.addr u | none => G.addr l,
  fun l => match newL R c S2 l with | some u => G2.cap u | none => G.cap l,
  fun l => match newL R c S2 l with | some u => G2.esz u | none => G.esz l,
  fun l => match newL R c S2 l with | some u => G2.dom u | none => G.dom l,
  fun b => match G.own b with
  | some l => if l.id ∈ R then renL R c S2 (G2.own b) else some l
  | none => renL R c S2 (G2.own b),
  G2.St, G2.Lt⟩
def backS (S S2 : St) (R : List Nat) (c : Nat) : St := ⟨fun j => if j ∈ R then stampO c (S2.obj j) else S.obj j, S.next, S.clk + 1, S.esc⟩
theorem renL_some {R : List Nat} {c : Nat} {o : Option Loc} {l : Loc} (h : renL R c S o = some l) : ∃ l', o = some l' := by
 unfold renL at h;split at h
 ·exact ⟨_, rfl⟩
 ·exact ⟨_, rfl⟩
 ·cases h
theorem newL_old {R : List Nat} {c : Nat} {l : Loc} (hc : ∀ l, G.dom l → match l with | .arr _ => True | .cell _ _ v => v ≠ c) (h : G.dom l) : newL R c S2 l = none := by
 cases l with
 | arr id => rfl
 | cell id off v =>
  have := hc _ h;simp only at this;simp [newL, this]
theorem back_ok {R : List Nat} {c : Nat} (hr : Rel w G S) (hc : ∀ l, G.dom l → match l with | .arr _ => True | .cell _ _ v => v ≠ c) (hcS : S.clk = c) (hob : ∀ i ∈ R, objTame R (S.obj i) = true)
  (h2 : Rel w' G2 S2) (hx : Ext w (gR G S R) w' G2) (ht : ∀ i ∈ R, objTame R (S2.obj i) = true) :
  Rel w' (gB G G2 R c S2) (backS S S2 R c) ∧ Ext w G w' (gB G G2 R c S2) ∧ DomLe G (gB G G2 R c S2) S (backS S S2 R c) := by
 have hvar : ∀ i ∈ R, G.dom (.arr i) ∧ G.own (G.addr (.arr i)).1 = some (.arr i) := by
  intro i hi;have h1 := hob i hi;have h3 := hr.obj i
  cases ho : S.obj i with
  | dead => rw [ho] at h1; cases h1
  | arr sz xs fz => rw [ho] at h1; cases h1
  | loop L => rw [ho] at h1; cases h1
  | cells cs => rw [ho] at h3; exact ⟨h3.1, h3.2.1⟩
  | mp ks es => rw [ho] at h3; exact ⟨h3.2.1, h3.2.2.1⟩
 have haddr : ∀ i ∈ R, G2.addr (.arr i) = G.addr (.arr i) := fun i hi => (hx.dom (.arr i) ⟨hi, (hvar i hi).1⟩).2.1;have hdom2 : ∀ i ∈ R, G2.dom (.arr i) := fun i hi => (hx.dom (.arr i) ⟨hi, (hvar i hi).1⟩).1;have hnone : ∀ b l, G.own b = some l → l.id ∉ R → (gR G S R).own b = none ∧ ¬ G.Lt b ∧ ¬ G.St b := by
  intro b l hb hl;have hst := (hr.wf.own b l hb).2;refine ⟨?_, fun h => hst (hr.wf.lt b h), hst⟩;show ownR R (G.own b) = none;rw [hb]; simp [ownR, hl]
 have hnst : ∀ b l, G.own b = some l → l.id ∉ R → ¬ G2.St b := by
  intro b l hb hl hs;obtain ⟨k1, _, k3⟩ := hnone b l hb hl;rcases hx.st' b (hr.wf.own b l hb).1 hs with h | h
  ·exact k3 h
  ·exact h k1
 have hext : Ext w G w' (gB G G2 R c S2) := by
  refine ⟨hx.size, hx.os, hx.tape, hx.out, fun b hb ho hl => hx.oth b hb ?_ hl, hx.lt, hx.st, hx.ltt, fun l hl => ?_, fun b hb ho => ?_, fun b hb hs => ?_, hx.lt'⟩
  ·show ownR R (G.own b) = none;rw [ho]; rfl
  ·have e := newL_old (S2 := S2) (R := R) hc hl;refine ⟨?_, ?_, ?_, ?_⟩
   ·simp only [gB, e]; exact hl
   all_goals simp only [gB, e]
  ·have e : (gR G S R).own b = none := by
    show ownR R (G.own b) = none;rw [ho]; rfl
   simp only [gB, ho, hx.own' b hb e, renL]
  ·rcases hx.st' b hb hs with h | h
   ·exact .inl h
   ·right;intro ho
    apply h
    show ownR R (G.own b) = none;rw [ho]; rfl
 have hown : ∀ b l l', G2.own b = some l → renL R c S2 (some l) = some l' → (gB G G2 R c S2).own b = some l' := by
  intro b l l' h1 h3;simp only [gB]
  cases ho : G.own b with
  | none => simp only [h1, h3]
  | some m =>
   simp only;by_cases hm : m.id ∈ R
   ·rw [if_pos hm, h1, h3]
   ·exfalso
    have := hx.own' b (hr.wf.own b m ho).1 (hnone b m ho hm).1;rw [this] at h1; cases h1
 have hownA : ∀ i ∈ R, ∀ b, G2.own b = some (.arr i) → (gB G G2 R c S2).own b = some (.arr i) := fun i hi b h => hown b _ _ h (by simp [renL, hi])
 refine ⟨⟨⟨fun b l hb => ?_, h2.wf.st, h2.wf.lt, fun l => ?_⟩, fun id => ?_⟩, hext, fun l hl => ?_⟩
 ·simp only [gB] at hb;have ren : ∀ l, renL R c S2 (G2.own b) = some l → b < w'.heap.size ∧ ¬ G2.St b := by
   intro l h;obtain ⟨l', h'⟩ := renL_some h;exact h2.wf.own b l' h'
  split at hb
  ·rename_i m ho;split at hb
   ·exact ren _ hb
   ·rename_i hm
    cases hb
    exact ⟨Nat.lt_of_lt_of_le (hr.wf.own b _ ho).1 hx.size, hnst b _ ho hm⟩
  ·exact ren _ hb
 ·simp only [gB];split
  ·exact h2.wf.max _
  ·exact hr.wf.max _
 ·-- the objects
  show ObjRel w' _ id (if id ∈ R then stampO c (S2.obj id) else S.obj id);by_cases hi : id ∈ R
  ·rw [if_pos hi];have h3 := h2.obj id;have h4 := ht id hi;have hnew : newL R c S2 (.arr id) = none := rfl;have lv_back : ∀ (lv : LV) (v : Value), argTame R lv = true → LVRel w' G2 lv v → LVRel w' (gB G G2 R c S2) lv v := by
    intro lv v ha hv
    cases hv with
    | d x v h => exact .d x v h
    | ptr i off hd =>
     have hiR : i ∈ R := by simpa [argTame] using ha
     have e : G2.addr (.arr i) = (gB G G2 R c S2).addr (.arr i) := haddr i hiR;rw [e];exact .ptr (G := gB G G2 R c S2) i off (hvar i hiR).1
    | mp i hd =>
     have hiR : i ∈ R := by simpa [argTame] using ha
     have e : G2.addr (.arr i) = (gB G G2 R c S2).addr (.arr i) := haddr i hiR;rw [e];exact .mp (G := gB G G2 R c S2) i (hvar i hiR).1
    | fn f cs vs hl hh =>
     cases cs with
     | nil => exact .fn f [] vs hl (fun i c v h => by simp at h)
     | cons c cs => cases ha
    | lit xs a h hl hn => exact .lit (G := gB G G2 R c S2) xs a h hl hn
    | _ => cases ha
   cases ho : S2.obj id with
   | dead => trivial
   | arr sz xs fz => rw [ho] at h4; cases h4
   | loop L => rw [ho] at h4; cases h4
   | cells cs =>
    rw [ho] at h3 h4;obtain ⟨hd, hw, cc, e, f, k1, k2, k3, k4, k5⟩ := h3;rw [haddr id hi] at k1 hw;refine ⟨(hvar id hi).1, hownA id hi _ hw, cc, e, f, k1, by simpa using k2, k3, k4, fun k lv v a b => ?_⟩
    rw [List.getElem?_map] at a
    cases hcs : cs[k]? with
    | none => rw [hcs] at a; cases a
    | some lv0 =>
     rw [hcs] at a
     cases a
     have hrel := k5 k lv0 v hcs b;have htm : cellTame R lv0 = true := by
      simp only [objTame, List.all_eq_true] at h4;exact h4 lv0 (List.mem_of_getElem? hcs)
     cases lv0 with
     | own u sz xs fz =>
      obtain ⟨⟨a, cap, q1, q2⟩, q3⟩ := hrel;have hcur : curV S2 id k = some u := curV_of ho hcs;have hn : newL R c S2 (.cell id k c) = some (.cell id k u) := by simp [newL, hi, hcur]
      have eA : (gB G G2 R c S2).addr (.cell id k c) = G2.addr (.cell id k u) := by simp only [gB, hn]
      have eC : (gB G G2 R c S2).cap (.cell id k c) = G2.cap (.cell id k u) := by simp only [gB, hn]
      have eE : (gB G G2 R c S2).esz (.cell id k c) = G2.esz (.cell id k u) := by simp only [gB, hn]
      have eD : (gB G G2 R c S2).dom (.cell id k c) = G2.dom (.cell id k u) := by simp only [gB, hn]
      refine ⟨⟨a, cap, q1, ?_⟩, ⟨by rw [eD]; exact q3.dom, by rw [eE]; exact q3.esz, q3.hz, q3.ho, by rw [eC]; exact q3.len, fun hcap => ?_⟩⟩
      ·rw [q1] at q2 ⊢
       cases q2 with
       | ar _ _ _ _ _ _ hd' hs hb hcc ha => exact .ar (G := gB G G2 R c S2) _ _ _ _ _ _ (by rw [eD]; exact hd') (by rw [eE]; exact hs) (by rw [eC]; exact hb) hcc (by rw [eA]; exact ha)
      ·rw [eC] at hcap ⊢;rw [eA];obtain ⟨c1, e1, f1, p1, p2, p3, p4⟩ := q3.row hcap;refine ⟨c1, e1, f1, p1, p2, p3, ?_⟩
       cases fz with
       | true => exact p4
       | false =>
        simp only [Bool.false_eq_true, if_false] at p4 ⊢;exact ⟨hown _ _ _ p4.1 (by simp [renL, hi, hcur]), p4.2⟩
     | lit xs =>
      have hr' : LVRel w' G2 (.lit xs) v := hrel;show LVRel w' _ (.lit xs) v
      cases hr' with
      | lit _ a h hl hn => exact .lit (G := gB G G2 R c S2) xs a h hl hn
     | un => exact LVRel.un v
     | _ => exact lv_back _ _ htm hrel
   | mp ks es =>
    rw [ho] at h3;obtain ⟨hks, hd, hw, en, cl, k1, k2, k3⟩ := h3;rw [haddr id hi] at k1 hw;exact ⟨hks, (hvar id hi).1, hownA id hi _ hw, en, cl, k1, k2, k3⟩
  ·rw [if_neg hi];refine (hr.obj id).keep hr.wf hext (X := fun l => l.id ∈ R) (fun b l hb hl => ?_) (fun l hl hl' => hi (hl ▸ hl'));obtain ⟨k1, k2, _⟩ := hnone b l hb hl;refine ⟨hx.oth b (hr.wf.own b l hb).1 k1 k2, ?_⟩;simp only [gB, hb, if_neg hl]
 ·simp only [gB] at hl;split at hl
  ·rename_i u hu;right
   cases l with
   | arr id => cases hu
   | cell id off v =>
    simp only [newL] at hu;split at hu
    ·rename_i hh;simp only [New, backS];omega
    ·cases hu
  ·exact .inl hl
def keepL (R : List Nat) (S : St) : Option Loc → Option Loc
 | some (.arr id) => if id ∈ R then some (.arr id) else none
 | some (.cell id off u) => if id ∈ R ∧ curV S id off = some u then some (.cell id off u) else none
 | none => none
def gK (G G2 : Gh) (S : St) (R : List Nat) : Gh :=
 ⟨G.addr, G.cap, G.esz, G.dom, fun b => match G.own b with
  | some l => if l.id ∈ R then keepL R S (G2.own b) else some l
  | none => keepL R S (G2.own b), G2.St, G2.Lt⟩
theorem keepL_some {R : List Nat} {o : Option Loc} {l : Loc} (h : keepL R S o = some l) : o = some l := by
 unfold keepL at h;split at h
 ·split at h
  ·exact h
  ·cases h
 ·split at h
  ·exact h
  ·cases h
 ·cases h
theorem back_same {R : List Nat} (hr : Rel w G S) (hob : ∀ i ∈ R, objTame R (S.obj i) = true) (h2 : Rel w' G2 S2) (hx : Ext w (gR G S R) w' G2) (hs : ∀ i ∈ R, S2.obj i = S.obj i) :
  Rel w' (gK G G2 S R) S ∧ Ext w G w' (gK G G2 S R) := by
 have hvar : ∀ i ∈ R, G.dom (.arr i) ∧ G.own (G.addr (.arr i)).1 = some (.arr i) := by
  intro i hi;have h1 := hob i hi;have h3 := hr.obj i
  cases ho : S.obj i with
  | dead => rw [ho] at h1; cases h1
  | arr sz xs fz => rw [ho] at h1; cases h1
  | loop L => rw [ho] at h1; cases h1
  | cells cs => rw [ho] at h3; exact ⟨h3.1, h3.2.1⟩
  | mp ks es => rw [ho] at h3; exact ⟨h3.2.1, h3.2.2.1⟩
 have haddr : ∀ i ∈ R, G2.addr (.arr i) = G.addr (.arr i) := fun i hi => (hx.dom (.arr i) ⟨hi, (hvar i hi).1⟩).2.1;have hnone : ∀ b l, G.own b = some l → l.id ∉ R → (gR G S R).own b = none ∧ ¬ G.Lt b ∧ ¬ G.St b := by
  intro b l hb hl;have hst := (hr.wf.own b l hb).2;refine ⟨?_, fun h => hst (hr.wf.lt b h), hst⟩;show ownR R (G.own b) = none;rw [hb]; simp [ownR, hl]
 have hnst : ∀ b l, G.own b = some l → l.id ∉ R → ¬ G2.St b := by
  intro b l hb hl hs;obtain ⟨k1, _, k3⟩ := hnone b l hb hl;rcases hx.st' b (hr.wf.own b l hb).1 hs with h | h
  ·exact k3 h
  ·exact h k1
 have hext : Ext w G w' (gK G G2 S R) := by
  refine ⟨hx.size, hx.os, hx.tape, hx.out, fun b hb ho hl => hx.oth b hb ?_ hl, hx.lt, hx.st, hx.ltt, fun l hl => ⟨hl, rfl, rfl, rfl⟩, fun b hb ho => ?_, fun b hb hs => ?_, hx.lt'⟩
  ·show ownR R (G.own b) = none;rw [ho]; rfl
  ·have e : (gR G S R).own b = none := by
    show ownR R (G.own b) = none;rw [ho]; rfl
   simp only [gK, ho, hx.own' b hb e, keepL]
  ·rcases hx.st' b hb hs with h | h
   ·exact .inl h
   ·right;intro ho
    apply h
    show ownR R (G.own b) = none;rw [ho]; rfl
 have hown : ∀ b l, G2.own b = some l → keepL R S (some l) = some l → (gK G G2 S R).own b = some l := by
  intro b l h1 h3;simp only [gK]
  cases ho : G.own b with
  | none => simp only [h1, h3]
  | some m =>
   simp only;by_cases hm : m.id ∈ R
   ·rw [if_pos hm, h1, h3]
   ·exfalso
    have := hx.own' b (hr.wf.own b m ho).1 (hnone b m ho hm).1;rw [this] at h1; cases h1
 have hownA : ∀ i ∈ R, ∀ b, G2.own b = some (.arr i) → (gK G G2 S R).own b = some (.arr i) := fun i hi b h => hown b _ h (by simp [keepL, hi])
 refine ⟨⟨⟨fun b l hb => ?_, h2.wf.st, h2.wf.lt, hr.wf.max⟩, fun id => ?_⟩, hext⟩
 ·simp only [gK] at hb;split at hb
  ·rename_i m ho;split at hb
   ·exact h2.wf.own b _ (keepL_some hb)
   ·rename_i hm
    cases hb
    exact ⟨Nat.lt_of_lt_of_le (hr.wf.own b _ ho).1 hx.size, hnst b _ ho hm⟩
  ·exact h2.wf.own b _ (keepL_some hb)
 ·by_cases hi : id ∈ R
  ·have h3 := h2.obj id;have h4 := hob id hi;have h0 := hr.obj id;rw [hs id hi] at h3;have lv_back : ∀ (lv : LV) (v : Value), argTame R lv = true → LVRel w' G2 lv v → LVRel w' (gK G G2 S R) lv v := by
    intro lv v ha hv
    cases hv with
    | d x v h => exact .d x v h
    | ptr i off hd =>
     have hiR : i ∈ R := by simpa [argTame] using ha
     have e : G2.addr (.arr i) = (gK G G2 S R).addr (.arr i) := haddr i hiR;rw [e];exact .ptr (G := gK G G2 S R) i off (hvar i hiR).1
    | mp i hd =>
     have hiR : i ∈ R := by simpa [argTame] using ha
     have e : G2.addr (.arr i) = (gK G G2 S R).addr (.arr i) := haddr i hiR;rw [e];exact .mp (G := gK G G2 S R) i (hvar i hiR).1
    | fn f cs vs hl hh =>
     cases cs with
     | nil => exact .fn f [] vs hl (fun i c v h => by simp at h)
     | cons c cs => cases ha
    | lit xs a h hl hn => exact .lit (G := gK G G2 S R) xs a h hl hn
    | _ => cases ha
   cases ho : S.obj id with
   | dead => trivial
   | arr sz xs fz => rw [ho] at h4; cases h4
   | loop L => rw [ho] at h4; cases h4
   | cells cs =>
    rw [ho] at h3 h4 h0;obtain ⟨hd, hw, cc, e, f, k1, k2, k3, k4, k5⟩ := h3;obtain ⟨_, _, cc0, e0, f0, l1, l2, l3, l4, l5⟩ := h0;rw [haddr id hi] at k1 hw;refine ⟨(hvar id hi).1, hownA id hi _ hw, cc, e, f, k1, k2, k3, k4, fun k lv v a b => ?_⟩;have hrel := k5 k lv v a b;have htm : cellTame R lv = true := by
     simp only [objTame, List.all_eq_true] at h4;exact h4 lv (List.mem_of_getElem? a)
    cases lv with
    | own u sz xs fz =>
     obtain ⟨⟨av, cap, q1, q2⟩, q3⟩ := hrel;have hcur : curV S id k = some u := curV_of ho a;obtain ⟨v0, hv0⟩ : ∃ v0, cc0[k]? = some v0 := by
      have hk : k < cs.length := (List.getElem?_eq_some_iff.1 a).1;exact ⟨_, Array.getElem?_eq_getElem (by omega)⟩
     have hrel0 := l5 k _ v0 a hv0;have hdm : domR G S R (.cell id k u) := ⟨hi, hrel0.2.dom, hcur⟩;obtain ⟨d1, d2, d3, d4⟩ := hx.dom (.cell id k u) hdm;have d2 : G2.addr (.cell id k u) = G.addr (.cell id k u) := d2;have d3 : G2.cap (.cell id k u) = G.cap (.cell id k u) := d3;have d4 : G2.esz (.cell id k u) = G.esz (.cell id k u) := d4;refine ⟨⟨av, cap, q1, ?_⟩, ⟨hrel0.2.dom, hrel0.2.esz, q3.hz, q3.ho, by have := q3.len; rw [d3] at this; exact this, fun hcap => ?_⟩⟩
     ·rw [q1] at q2 ⊢
      cases q2 with
      | ar _ _ _ _ _ _ hd' hs' hb hcc ha => exact .ar (G := gK G G2 S R) _ _ _ _ _ _ hrel0.2.dom hrel0.2.esz (by have := hb; rw [d3] at this; exact this) hcc (by intro hc; have := ha hc; rw [d2] at this; exact this)
     ·have hcap' : 0 < G2.cap (.cell id k u) := by rw [d3]; exact hcap
      obtain ⟨c1, e1, f1, p1, p2, p3, p4⟩ := q3.row hcap';rw [d2] at p1 p3 p4;rw [d2, d3] at p2;refine ⟨c1, e1, f1, p1, p2, p3, ?_⟩
      cases fz with
      | true => exact p4
      | false =>
       simp only [Bool.false_eq_true, if_false] at p4 ⊢;exact ⟨hown _ _ p4.1 (by simp [keepL, hi, hcur]), p4.2⟩
    | lit xs =>
     have hr' : LVRel w' G2 (.lit xs) v := hrel;show LVRel w' _ (.lit xs) v
     cases hr' with
     | lit _ a h hl hn => exact .lit (G := gK G G2 S R) xs a h hl hn
    | un => exact LVRel.un v
    | _ => exact lv_back _ _ htm hrel
   | mp ks es =>
    rw [ho] at h3;obtain ⟨hks, hd, hw, en, cl, k1, k2, k3⟩ := h3;rw [haddr id hi] at k1 hw;exact ⟨hks, (hvar id hi).1, hownA id hi _ hw, en, cl, k1, k2, k3⟩
  ·refine (hr.obj id).keep hr.wf hext (X := fun l => l.id ∈ R) (fun b l hb hl => ?_) (fun l hl hl' => hi (hl ▸ hl'));obtain ⟨k1, k2, _⟩ := hnone b l hb hl;refine ⟨hx.oth b (hr.wf.own b l hb).1 k1 k2, ?_⟩;simp only [gK, hb, if_neg hl]
end Go.VM
end
section
namespace Go.VM
open Go.RowKit
variable {w w' w1 w2 : World} {G G' G1 G2 : Gh} {S S' S1 S2 : St} {P : Program}
def Enters (P : Program) (f : FuncId) : Prop := ∀ (args : Array Value) (w : World), (callFunc f args).run P w = .ok (.enter f args) w
def DArgs (w : World) (St : Nat → Prop) (ds : List D) (vs : List Value) : Prop := ds.length = vs.length ∧ ∀ (i : Nat) (d : D) (v : Value), ds[i]? = some d → vs[i]? = some v → Rep w St d v
def gst0 (St : Nat → Prop) : Gh := ⟨fun _ => (0, 0), fun _ => 0, fun _ => 0, fun _ => False, fun _ => none, St, fun _ => False⟩
structure Grows (w : World) (St : Nat → Prop) (w' : World) (St' : Nat → Prop) : Prop where
 size : w.heap.size ≤ w'.heap.size
 os : w'.os = w.os
 tape : w'.tape = w.tape
 out : w'.output = w.output
 old : ∀ b, b < w.heap.size → w'.heap[b]? = w.heap[b]?
 st : ∀ b, St b → St' b
 st' : ∀ b, b < w.heap.size → St' b → St b
 top : ∀ b, St' b → b < w'.heap.size
def Answers (P : Program) (f : FuncId) (vs : List Value) (w : World) (R : Value → World → Prop) : Prop :=
 Calls P f vs.toArray w fun e w' => match e with | .returned v => R v w' | _ => False
def VSound (P : Program) (V : FuncId → List D → Res LV) : Prop := ∀ (f : FuncId) (ds : List D) (vs : List Value) (w : World) (St : Nat → Prop), (∀ b, St b → b < w.heap.size) → DArgs w St ds vs →
 V f ds ≠ .vac ∧ ∀ r, V f ds = .ok r → dataV r = true → Enters P f ∧ Answers P f vs w fun v w' => ∃ St', Grows w St w' St' ∧ LVRel w' (gst0 St') r v
theorem Fresh.free (h : Fresh G S) (S' : St) : Free G S S' := by
 intro l hl hd;have := h l hd
 cases l <;> simp only [New] at hl this <;> omega
theorem Fresh.next (h : Fresh G S) (hd : DomLe G G' S S') (hg : S.next ≤ S'.next ∧ S.clk ≤ S'.clk) : Fresh G' S' := by
 intro l hl;rcases hd l hl with h1 | h1
 ·have := h l h1
  cases l <;> simp only at this ⊢ <;> omega
 ·cases l <;> simp only [New] at h1 ⊢ <;> omega
def Fr (ro : Option Nat) : Fence := { fn := fun _ => True, depth := none, alive := false, round := ro }
def Yields (P : Program) (l : Nat) (vs : List Value) (w : World) (R : Value → World → Prop) : Prop :=
 ∀ m, YieldAt (Fr none) m P l vs.toArray w fun e w' => match e with | .returned v => R v w' | _ => False
structure ShSound (P : Program) (cfg : Cfg) (Sh : FuncId → List LV → St → Res (LV × St)) : Prop where
 mode : cfg.mode YID = .val
 call : ∀ (f : FuncId) (args : List LV) (vs : List Value) (w : World) (G : Gh) (S : St), f ≠ YID → Rel w G S → Fresh G S → ArgsRel w G args vs →
  Sh f args S ≠ .vac ∧ ∀ r S', Sh f args S = .ok (r, S') → Enters P f ∧ Answers P f vs w fun v w' => ∃ G', LVRel w' G' r v ∧ Rel w' G' S' ∧ Ext w G w' G' ∧ Fresh G' S'
 yield : ∀ (id : Nat) (args : List LV) (vs : List Value) (w : World) (G : Gh) (S : St), Rel w G S → Fresh G S → ArgsRel w G args vs →
  Sh YID (.yl id :: args) S ≠ .vac ∧ ∀ r S', Sh YID (.yl id :: args) S = .ok (r, S') → Yields P (G.addr (.arr id)).1 vs w fun v w' => ∃ G', LVRel w' G' r v ∧ Rel w' G' S' ∧ Ext w G w' G' ∧ Fresh G' S'
theorem Answers.mono {f : FuncId} {vs : List Value} {R R' : Value → World → Prop} (h : Answers P f vs w R) (hr : ∀ v w', R v w' → R' v w') : Answers P f vs w R' := by
 refine Calls.mono h fun e w' he => ?_
 cases e <;> first | exact hr _ _ he | exact he
theorem Rep.st {St St' : Nat → Prop} (h : ∀ b, St b → St' b) {x : D} {v : Value} (hr : Rep w St x v) : Rep w St' x v := hr.mono h (fun _ _ _ _ h => h)
theorem data_rel {r : LV} {v : Value} (hd : dataV r = true) (hr : LVRel w G1 r v) (h : ∀ b, G1.St b → G2.St b) : LVRel w G2 r v := by
 have one : ∀ (c : LV) (x : Value), data1 c = true → LVRel w G1 c x → LVRel w G2 c x := by
  intro c x hc hx
  cases hx <;> first | (simp [data1] at hc; done) | skip
  rename_i h1; exact .d _ _ (h1.st h)
 cases r with
 | tup l =>
  cases hr with
  | tup _ vs hl hh =>
   refine .tup _ vs hl (fun i c x h1 h2 => one c x ?_ (hh i c x h1 h2));simp only [dataV, List.all_eq_true] at hd;exact hd c (List.mem_of_getElem? h1)
 | _ => exact one _ _ hd hr
theorem flatL_all : ∀ {l : List D}, D.flatL l = true → ∀ d ∈ l, d.flat = true := by
 intro l
 induction l with
 | nil => intro _ d hd; cases hd
 | cons a l ih =>
  intro h d hd;simp only [D.flatL, Bool.and_eq_true] at h
  cases hd with
  | head => exact h.1
  | tail _ hd => exact ih h.2 d hd
theorem Rep.flat {St St' : Nat → Prop} {x : D} {v : Value} (hr : Rep w St x v) : x.flat = true → Rep w' St' x v := by
 induction hr with
 | int k n => intro _; exact .int k n
 | bool b => intro _; exact .bool b
 | str s h => intro _; exact .str s h
 | nilP => intro _; exact .nilP
 | nilM => intro _; exact .nilM
 | nilF => intro _; exact .nilF
 | agg ds cs hl ho _ ih =>
  intro h;simp only [D.flat] at h;exact .agg ds cs hl ho (fun i d c h1 h2 => ih i d c h1 h2 (flatL_all h d (List.mem_of_getElem? h1)))
 | empty a cap h => intro h; cases h
 | sl xs b off cap sz hs hc hm hz ho f h1 h2 => intro h; cases h
theorem flat_rel {r : LV} {v : Value} (hd : flatV r = true) (hr : LVRel w G1 r v) : LVRel w' G2 r v := by
 have one : ∀ (c : LV) (x : Value), flat1 c = true → LVRel w G1 c x → LVRel w' G2 c x := by
  intro c x hc hx
  cases hx <;> first | (simp [flat1] at hc; done) | skip
  rename_i h1; exact .d _ _ (h1.flat hc)
 cases r with
 | tup l =>
  simp only [flatV, List.all_eq_true] at hd
  cases hr with
  | tup _ vs hl hh =>
   exact .tup _ vs hl (fun i c x h1 h2 => one c x (hd c (List.mem_of_getElem? h1)) (hh i c x h1 h2))
 | _ => exact one _ _ hd hr
theorem flat_data {r : LV} (hd : flatV r = true) : dataV r = true := by
 have dat : ∀ c : LV, flat1 c = true → data1 c = true := by intro c hc; cases c <;> first | rfl | cases hc
 unfold flatV at hd;split at hd
 ·simp only [List.all_eq_true] at hd;simp only [dataV, List.all_eq_true];exact fun c hc => dat c (hd c hc)
 ·rename_i h;unfold dataV;split
  ·exact absurd rfl (h _)
  ·exact dat _ hd
theorem Grows.caller {St' : Nat → Prop} (hr : Rel w G S) (hg : Grows w G.St w' St') : Rel w' { G with St := St' } S ∧ Ext w G w' { G with St := St' } := by
 have he : Ext w G w' { G with St := St' } := ⟨hg.size, hg.os, hg.tape, hg.out, fun b hb _ _ => hg.old b hb, fun b hb c e f hh => ⟨f, (hg.old b (hr.wf.st b (hr.wf.lt b hb))).trans hh⟩,
  hg.st, fun _ h => h, fun _ h => ⟨h, rfl, rfl, rfl⟩, fun _ _ h => h, fun b hb h => .inl (hg.st' b hb h), fun _ _ h => h⟩
 have hk : Keep w G w' { G with St := St' } (fun _ => False) := fun b l hb _ => ⟨hg.old b (hr.wf.own b l hb).1, hb⟩;refine ⟨⟨⟨?_, hg.top, fun b hb => hg.st b (hr.wf.lt b hb), hr.wf.max⟩, fun id => (hr.obj id).keep hr.wf he hk (fun _ _ h => h)⟩, he⟩;intro b l hb;obtain ⟨h1, h2⟩ := hr.wf.own b l hb;exact ⟨Nat.lt_of_lt_of_le h1 hg.size, fun h => h2 (hg.st' b h1 h)⟩
theorem Grows.lent {St' : Nat → Prop} (hr : Rel w G S) (hg : Grows w (nowSt G) w' St') : Rel w' G S ∧ Ext w G w' G := by
 have he : Ext w G w' G := ⟨hg.size, hg.os, hg.tape, hg.out, fun b hb _ _ => hg.old b hb, fun b hb c e f hh => ⟨f, (hg.old b (hr.wf.st b (hr.wf.lt b hb))).trans hh⟩,
  fun _ h => h, fun _ h => h, fun _ h => ⟨h, rfl, rfl, rfl⟩, fun _ _ h => h, fun b hb h => .inl h, fun _ _ h => h⟩
 have hk : Keep w G w' G (fun _ => False) := fun b l hb _ => ⟨hg.old b (hr.wf.own b l hb).1, hb⟩;refine ⟨⟨⟨?_, fun b hb => Nat.lt_of_lt_of_le (hr.wf.st b hb) hg.size, hr.wf.lt, hr.wf.max⟩, fun id => (hr.obj id).keep hr.wf he hk (fun _ _ h => h)⟩, he⟩;intro b l hb;obtain ⟨h1, h2⟩ := hr.wf.own b l hb;exact ⟨Nat.lt_of_lt_of_le h1 hg.size, h2⟩
theorem peek_rel {lv : LV} {v : Value} {x : D} (hr : Rel w G S) (hv : LVRel w G lv v) (h : (peek lv).run S = .ok (x, S')) : S' = S ∧ Rep w (nowSt G) x v := by
 have list : ∀ (ls : List LV) (ds : List D) (S' : St), (T.mapL peek1 ls).run S = .ok (ds, S') → S' = S ∧ ds.length = ls.length ∧ ∀ (i : Nat) (d : D), ds[i]? = some d → ∃ c, ls[i]? = some c ∧ (peek1 c).run S = .ok (d, S) := by
  intro ls
  induction ls with
  | nil => intro ds S' h; cases h; exact ⟨rfl, rfl, fun i d h => by simp at h⟩
  | cons c cs ih =>
   intro ds S' h;simp only [T.mapL] at h;obtain ⟨d, S1, h1, h2⟩ := T.bind_ok h;have hS1 : S1 = S := by
    unfold peek1 at h1;split at h1
    ·cases h1; rfl
    ·cases h1; rfl
    ·obtain ⟨_, _, _, _, h1⟩ := arrT_run h1;split at h1
     ·cases h1; rfl
     ·cases h1
    ·cases h1
   subst hS1;obtain ⟨ds', S2, h3, h4⟩ := T.bind_ok h2;obtain ⟨rfl, h5, h6⟩ := ih ds' S2 h3
   cases h4
   refine ⟨rfl, by simp [h5], fun i d' hi => ?_⟩
   cases i with
   | zero => simp at hi; subst hi; exact ⟨c, rfl, h1⟩
   | succ i => obtain ⟨c', e1, e2⟩ := h6 i d' (by simpa using hi); exact ⟨c', by simpa using e1, e2⟩
 unfold peek at h;split at h
 ·rename_i cs;obtain ⟨ds, S1, h1, h2⟩ := T.bind_ok h;obtain ⟨rfl, h3, h4⟩ := list cs ds S1 h1
  cases h2
  cases hv with
  | agg _ vs hl hh ho =>
   have hrep : ∀ (i : Nat) (d : D) (c : Value), ds[i]? = some d → vs[i]? = some c → Rep w (nowSt G) d c ∧ c.oneCell' = true := by
    intro i d c e1 e2;obtain ⟨lc, e3, e4⟩ := h4 i d e1;exact ⟨(peek1_rel hr (hh i lc c e3 e2) e4).2, ho i lc c e3 e2⟩
   refine ⟨rfl, .agg ds vs (h3.trans hl) (fun d hd => ?_) (fun i d c e1 e2 => (hrep i d c e1 e2).1)⟩;obtain ⟨k, hk⟩ := List.getElem?_of_mem hd;have hlt : k < vs.size := by have := (List.getElem?_eq_some_iff.1 hk).1; omega
   have := hrep k d _ hk (Array.getElem?_eq_getElem hlt);exact this.1.one' this.2
 ·exact peek1_rel hr hv h
theorem peeks_rel : ∀ (ls : List LV) (vs : List Value) (ds : List D) {S' : St}, Rel w G S → ArgsRel w G ls vs → (T.mapL peek ls).run S = .ok (ds, S') → S' = S ∧ DArgs w (nowSt G) ds vs := by
 intro ls
 induction ls with
 | nil =>
  intro vs ds S' hr ha h
  cases h
  exact ⟨rfl, ha.1, fun i d v h => by simp at h⟩
 | cons c cs ih =>
  intro vs ds S' hr ha h
  cases vs with
  | nil => cases ha.1
  | cons v vs =>
   simp only [T.mapL] at h;obtain ⟨d, S1, h1, h2⟩ := T.bind_ok h;obtain ⟨rfl, h3⟩ := peek_rel hr (ha.2 0 c v rfl rfl) h1;obtain ⟨ds', S2, h4, h5⟩ := T.bind_ok h2;obtain ⟨rfl, h6⟩ := ih vs ds' hr ⟨by have := ha.1; simpa using this, fun i c v a b => ha.2 (i + 1) c v (by simpa using a) (by simpa using b)⟩ h4
   cases h5
   refine ⟨rfl, by simp [h6.1], fun i d' v' a b => ?_⟩
   cases i with
   | zero => simp at a b; subst a b; exact h3
   | succ i => exact h6.2 i d' v' (by simpa using a) (by simpa using b)
theorem run_bind_vac {α β : Type} {t : T α} {f : α → T β} (h : (t.bind f).run S = .vac) : t.run S = .vac ∨ ∃ a S1, t.run S = .ok (a, S1) ∧ (f a).run S1 = .vac := by
 rw [T.run_bind] at h
 cases hr : t.run S with
 | ok r => rw [hr] at h; exact .inr ⟨r.1, r.2, rfl, h⟩
 | no => rw [hr] at h; cases h
 | vac => exact .inl rfl
theorem ofRes_run {r : Res LV} {x : LV} (h : (T.ofRes r).run S = .ok (x, S')) : S' = S ∧ r = .ok x := ofRes_ok h
theorem ofRes_vac {r : Res LV} (h : (T.ofRes r).run S = .vac) : r = .vac := by
 cases r with
 | ok a => cases h
 | no => cases h
 | vac => rfl
theorem callSh_sound {cfg : Cfg} {Sh : FuncId → List LV → St → Res (LV × St)} (hSh : ShSound P cfg Sh) (hr : Rel w G S) {f : FuncId} {args : List LV} {vs : List Value} (ha : ArgsRel w G args vs) (hy : f ≠ YID) :
  (callSh Sh f args).run S ≠ .vac ∧ ∀ r S', (callSh Sh f args).run S = .ok (r, S') → Free G S S' → Enters P f ∧ Answers P f vs w fun v w' => ∃ G', LVRel w' G' r v ∧ Rel w' G' S' ∧ Ext w G w' G' ∧ DomLe G G' S S' := by
 have core : ∀ (as : List LV) (S1 : St) (objs : List (Nat × Obj)), (T.mapL prep args).run S = .ok (as, S1) → (∀ p ∈ objs, S1.obj p.1 = p.2) →
   (objs.all fun p => objTame (objs.map (·.1)) p.2) = true → (as.all (argTame (objs.map (·.1)))) = true →
   ∃ G1, Rel w G1 S1 ∧ Ext w G w G1 ∧ (∀ k, G1.dom k ↔ G.dom k) ∧ S1.next = S.next ∧ S1.clk = S.clk ∧ Rel w (gR G1 S1 (objs.map (·.1))) (small objs) ∧ Fresh (gR G1 S1 (objs.map (·.1))) (small objs) ∧ ArgsRel w (gR G1 S1 (objs.map (·.1))) as vs := by
  intro as S1 objs h1 ho ht hat;obtain ⟨G1, a1, a2, a3, a4, a5, a6⟩ := preps_ok args vs hr ha h1;refine ⟨G1, a1, a2, a3, a5, a6, rel_small ho ht a1, fresh_small ho, a4.1, fun i c v e1 e2 => ?_⟩;simp only [List.all_eq_true] at hat;exact tame_rel (hat c (List.mem_of_getElem? e1)) (a4.2 i c v e1 e2)
 have clean_run : ∀ (as : List LV) (S1 : St) (objs : List (Nat × Obj)), (T.mapL prep args).run S = .ok (as, S1) → (∀ p ∈ objs, S1.obj p.1 = p.2) →
   (objs.all fun p => objTame (objs.map (·.1)) p.2) = true → (as.all (argTame (objs.map (·.1)))) = true → runSh Sh f as objs ≠ .vac := by
  intro as S1 objs h1 ho ht hat hv;obtain ⟨G1, a1, a2, a3, a4, a5, a6, a7, a8⟩ := core as S1 objs h1 ho ht hat;unfold runSh at hv;rcases Res.bind_vac hv with hv | ⟨q, _, hv⟩
  ·exact (hSh.call f as vs w _ _ hy a6 a7 a8).1 hv
  ·rcases Res.bind_vac hv with hv | ⟨q', _, hv⟩
   ·exact (clean_close _).run hv
   ·split at hv <;> cases hv
 refine ⟨fun h => ?_, fun r S' h hfree => ?_⟩
 ·unfold callSh at h;rcases run_bind_vac h with hx | ⟨as, S1, h1, ha1⟩
  ·exact (clean_mapL clean_prep _).run hx
  ·rcases run_bind_vac ha1 with hx | ⟨objs, S2, h2, hb1⟩
   ·exact (clean_gather _ _ _).run hx
   ·obtain ⟨rfl, ho⟩ := gather_ok _ _ _ _ (fun p hp => by cases hp) h2
    have hd1 : (if (objs.all fun p => objTame (objs.map (·.1)) p.2) = true ∧ (as.all (argTame (objs.map (·.1)))) = true then
      (T.ofRes (runSh Sh f as objs)).bind fun q => putsT (objs.map fun p => (p.1, stampO S2.clk (q.2.obj p.1))) (.ret q.1) else .no : T LV).run S2.tick = .vac := hb1
    split at hd1
    ·rename_i hc;rcases run_bind_vac hd1 with hx | ⟨q, S3, _, hx⟩
     ·have hv : runSh Sh f as objs = .vac := by
       cases hq : runSh Sh f as objs with
       | ok a => rw [hq] at hx; cases hx
       | no => rw [hq] at hx; cases hx
       | vac => rfl
      exact clean_run as S2 objs h1 ho hc.1 hc.2 hv
     ·have e : (objs.map fun p => (p.1, stampO S2.clk (q.2.obj p.1))) = (objs.map (·.1)).map fun i => (i, stampO S2.clk (q.2.obj i)) := by simp [Function.comp_def]
      rw [e, puts_run] at hx; cases hx
    ·cases hd1
 ·unfold callSh at h;obtain ⟨as, S1, h1, ha1⟩ := T.bind_ok h;obtain ⟨objs, S2, h2, hb1⟩ := T.bind_ok ha1;obtain ⟨rfl, ho⟩ := gather_ok _ _ _ _ (fun p hp => by cases hp) h2
  have hd1 : (if (objs.all fun p => objTame (objs.map (·.1)) p.2) = true ∧ (as.all (argTame (objs.map (·.1)))) = true then
    (T.ofRes (runSh Sh f as objs)).bind fun q => putsT (objs.map fun p => (p.1, stampO S2.clk (q.2.obj p.1))) (.ret q.1) else .no : T LV).run S2.tick = .ok (r, S') := hb1
  split at hd1
  case isFalse => cases hd1
  rename_i hc;obtain ⟨q, S3, h3, he1⟩ := T.bind_ok hd1;have hq : S3 = S2.tick ∧ runSh Sh f as objs = .ok q := by
   cases hq : runSh Sh f as objs with
   | ok a => rw [hq] at h3; cases h3; exact ⟨rfl, rfl⟩
   | no => rw [hq] at h3; cases h3
   | vac => rw [hq] at h3; cases h3
  obtain ⟨rfl, hq⟩ := hq;have e : (objs.map fun p => (p.1, stampO S2.clk (q.2.obj p.1))) = (objs.map (·.1)).map fun i => (i, stampO S2.clk (q.2.obj i)) := by simp [Function.comp_def]
  rw [e, puts_run] at he1;have hS' : r = q.1 ∧ S' = backS S2 q.2 (objs.map (·.1)) S2.clk := by cases he1; exact ⟨rfl, rfl⟩
  obtain ⟨rfl, rfl⟩ := hS';obtain ⟨G1, a1, a2, a3, a4, a5, a6, a7, a8⟩ := core as S2 objs h1 ho hc.1 hc.2;unfold runSh at hq;obtain ⟨⟨r1, T1⟩, k1, hq⟩ := Res.bind_ok hq;obtain ⟨⟨r2, T2⟩, k2, hq⟩ := Res.bind_ok hq;split at hq
  case isFalse => cases hq
  rename_i hend
  cases hq
  obtain ⟨b1, b2⟩ := (hSh.call f as vs w _ _ hy a6 a7 a8).2 r1 T1 k1;refine ⟨b1, b2.mono fun v w' hh => ?_⟩;obtain ⟨G', q1, q2, q3, q4⟩ := hh;obtain ⟨_, G2, p1, p2, p3⟩ := closeV_rel q2 q1 k2;have hfr : ∀ l, G1.dom l → match l with | .arr _ => True | .cell _ _ v => v ≠ S2.clk := by
   intro l hl
   cases l with
   | arr id => trivial
   | cell id off v =>
    intro e;refine hfree (.cell id off v) ?_ ((a3 _).1 hl);show S.clk ≤ v ∧ v < (backS S2 T2 (objs.map (·.1)) S2.clk).clk;simp only [backS];omega
  have hob : ∀ i ∈ objs.map (·.1), objTame (objs.map (·.1)) (S2.obj i) = true := by
   intro i hi;obtain ⟨p, hp, e⟩ := List.mem_map.1 hi;have := hc.1;simp only [List.all_eq_true] at this;rw [← e, ho p hp]; exact this p hp
  have het : ∀ i ∈ objs.map (·.1), objTame (objs.map (·.1)) (T2.obj i) = true := by
   intro i hi;obtain ⟨p, hp, e⟩ := List.mem_map.1 hi;have := hend.2;simp only [allTame, List.all_eq_true] at this;rw [← e]; exact this p hp
  obtain ⟨c1, c2, c3⟩ := back_ok a1 hfr rfl hob p1 (q3.trans p2) het;refine ⟨gB G1 G2 (objs.map (·.1)) S2.clk T2, data_rel hend.1 p3 (fun b hb => hb), c1, a2.trans c2, fun l hl => ?_⟩;rcases c3 l hl with h | h
  ·exact .inl ((a3 l).1 h)
  ·right
   cases l with
   | arr id => simp only [New, backS] at h ⊢; omega
   | cell id off v => simp only [New, backS] at h ⊢; omega
open Classical in
theorem callRo_sound {cfg : Cfg} {Sh : FuncId → List LV → St → Res (LV × St)} (hSh : ShSound P cfg Sh) (hr : Rel w G S) {f : FuncId} {args : List LV} {vs : List Value} (ha : ArgsRel w G args vs) (hy : f ≠ YID) :
  (callRo Sh f args).run S ≠ .vac ∧ ∀ r S', (callRo Sh f args).run S = .ok (r, S') → Free G S S' → Enters P f ∧ Answers P f vs w fun v w' => ∃ G', LVRel w' G' r v ∧ Rel w' G' S' ∧ Ext w G w' G' ∧ DomLe G G' S S' := by
 have core : ∀ (as : List LV) (S1 : St) (objs : List (Nat × Obj)), (T.mapL prep args).run S = .ok (as, S1) → (∀ p ∈ objs, S1.obj p.1 = p.2) →
   (objs.all fun p => objTame (objs.map (·.1)) p.2) = true → (as.all (argTame (objs.map (·.1)))) = true →
   ∃ G1, Rel w G1 S1 ∧ Ext w G w G1 ∧ (∀ k, G1.dom k ↔ G.dom k) ∧ S1.next = S.next ∧ S1.clk = S.clk ∧ Rel w (gR G1 S1 (objs.map (·.1))) (small objs) ∧ Fresh (gR G1 S1 (objs.map (·.1))) (small objs) ∧ ArgsRel w (gR G1 S1 (objs.map (·.1))) as vs := by
  intro as S1 objs h1 ho ht hat;obtain ⟨G1, a1, a2, a3, a4, a5, a6⟩ := preps_ok args vs hr ha h1;refine ⟨G1, a1, a2, a3, a5, a6, rel_small ho ht a1, fresh_small ho, a4.1, fun i c v e1 e2 => ?_⟩;simp only [List.all_eq_true] at hat;exact tame_rel (hat c (List.mem_of_getElem? e1)) (a4.2 i c v e1 e2)
 have clean_run : ∀ (as : List LV) (S1 : St) (objs : List (Nat × Obj)), (T.mapL prep args).run S = .ok (as, S1) → (∀ p ∈ objs, S1.obj p.1 = p.2) →
   (objs.all fun p => objTame (objs.map (·.1)) p.2) = true → (as.all (argTame (objs.map (·.1)))) = true → runSh Sh f as objs ≠ .vac := by
  intro as S1 objs h1 ho ht hat hv;obtain ⟨G1, a1, a2, a3, a4, a5, a6, a7, a8⟩ := core as S1 objs h1 ho ht hat;unfold runSh at hv;rcases Res.bind_vac hv with hv | ⟨q, _, hv⟩
  ·exact (hSh.call f as vs w _ _ hy a6 a7 a8).1 hv
  ·rcases Res.bind_vac hv with hv | ⟨q', _, hv⟩
   ·exact (clean_close _).run hv
   ·split at hv <;> cases hv
 refine ⟨fun h => ?_, fun r S' h hfree => ?_⟩
 ·unfold callRo at h;rcases run_bind_vac h with hx | ⟨as, S1, h1, ha1⟩
  ·exact (clean_mapL clean_prep _).run hx
  ·rcases run_bind_vac ha1 with hx | ⟨objs, S2, h2, hb1⟩
   ·exact (clean_gather _ _ _).run hx
   ·obtain ⟨rfl, ho⟩ := gather_ok _ _ _ _ (fun p hp => by cases hp) h2
    have hd1 : (if (objs.all fun p => objTame (objs.map (·.1)) p.2) = true ∧ (as.all (argTame (objs.map (·.1)))) = true then
      (T.ofRes (runSh Sh f as objs)).bind fun q => if ∀ p ∈ objs, q.2.obj p.1 = p.2 then .ret q.1 else .no else .no : T LV).run S2.tick = .vac := hb1
    split at hd1
    ·rename_i hc;rcases run_bind_vac hd1 with hx | ⟨q, S3, _, hx⟩
     ·have hv : runSh Sh f as objs = .vac := by
       cases hq : runSh Sh f as objs with
       | ok a => rw [hq] at hx; cases hx
       | no => rw [hq] at hx; cases hx
       | vac => rfl
      exact clean_run as S2 objs h1 ho hc.1 hc.2 hv
     ·split at hx <;> cases hx
    ·cases hd1
 ·unfold callRo at h;obtain ⟨as, S1, h1, ha1⟩ := T.bind_ok h;obtain ⟨objs, S2, h2, hb1⟩ := T.bind_ok ha1;obtain ⟨rfl, ho⟩ := gather_ok _ _ _ _ (fun p hp => by cases hp) h2
  have hd1 : (if (objs.all fun p => objTame (objs.map (·.1)) p.2) = true ∧ (as.all (argTame (objs.map (·.1)))) = true then
    (T.ofRes (runSh Sh f as objs)).bind fun q => if ∀ p ∈ objs, q.2.obj p.1 = p.2 then .ret q.1 else .no else .no : T LV).run S2.tick = .ok (r, S') := hb1
  split at hd1
  case isFalse => cases hd1
  rename_i hc;obtain ⟨q, S3, h3, he1⟩ := T.bind_ok hd1;have hq : S3 = S2.tick ∧ runSh Sh f as objs = .ok q := by
   cases hq : runSh Sh f as objs with
   | ok a => rw [hq] at h3; cases h3; exact ⟨rfl, rfl⟩
   | no => rw [hq] at h3; cases h3
   | vac => rw [hq] at h3; cases h3
  obtain ⟨rfl, hq⟩ := hq;split at he1
  case isFalse => cases he1
  rename_i hsame;have hS' : r = q.1 ∧ S' = S2.tick := by cases he1; exact ⟨rfl, rfl⟩
  obtain ⟨rfl, rfl⟩ := hS';obtain ⟨G1, a1, a2, a3, a4, a5, a6, a7, a8⟩ := core as S2 objs h1 ho hc.1 hc.2;unfold runSh at hq;obtain ⟨⟨r1, T1⟩, k1, hq⟩ := Res.bind_ok hq;obtain ⟨⟨r2, T2⟩, k2, hq⟩ := Res.bind_ok hq;split at hq
  case isFalse => cases hq
  rename_i hend
  cases hq
  obtain ⟨b1, b2⟩ := (hSh.call f as vs w _ _ hy a6 a7 a8).2 r1 T1 k1;refine ⟨b1, b2.mono fun v w' hh => ?_⟩;obtain ⟨G', q1, q2, q3, q4⟩ := hh;obtain ⟨_, G2, p1, p2, p3⟩ := closeV_rel q2 q1 k2;have hob : ∀ i ∈ objs.map (·.1), objTame (objs.map (·.1)) (S2.obj i) = true := by
   intro i hi;obtain ⟨p, hp, e⟩ := List.mem_map.1 hi;have := hc.1;simp only [List.all_eq_true] at this;rw [← e, ho p hp]; exact this p hp
  have hun : ∀ i ∈ objs.map (·.1), T2.obj i = S2.obj i := by
   intro i hi;obtain ⟨p, hp, e⟩ := List.mem_map.1 hi;rw [← e, ho p hp]; exact hsame p hp
  obtain ⟨c1, c2⟩ := back_same a1 hob p1 (q3.trans p2) hun;exact ⟨gK G1 G2 S2 (objs.map (·.1)), data_rel hend.1 p3 (fun b hb => hb), ⟨c1.wf, c1.obj⟩, a2.trans c2, fun l hl => .inl ((a3 l).1 hl)⟩
theorem flat_cells {x d : D} (h : x.flat = true) (hd : d ∈ x.cells) : d.flat = true := by
 cases x with
 | agg cs => exact flatL_all (l := cs) (by simpa [D.flat] using h) d hd
 | _ => rw [List.mem_singleton.1 hd]; exact h
theorem copy_sound {cfg : Cfg} {Sh : FuncId → List LV → St → Res (LV × St)} (hSh : ShSound P cfg Sh) (hr : Rel w G S) {f : FuncId} {args : List LV} {vs : List Value} (ha : ArgsRel w G args vs) (hy : f ≠ YID) :
  ((T.mapL peek args).bind fun ds => (T.ofRes (copyV Sh f ds)).bind fun p => .new (.arr p.1 p.2.1 false) fun id => .ret (.ar (.arr id) p.1 0 p.2.2) : T LV).run S ≠ .vac ∧
  ∀ r S', ((T.mapL peek args).bind fun ds => (T.ofRes (copyV Sh f ds)).bind fun p => .new (.arr p.1 p.2.1 false) fun id => .ret (.ar (.arr id) p.1 0 p.2.2) : T LV).run S = .ok (r, S') → Free G S S' →
   Enters P f ∧ Answers P f vs w fun v w' => ∃ G', LVRel w' G' r v ∧ Rel w' G' S' ∧ Ext w G w' G' ∧ DomLe G G' S S' := by
 have lift : ∀ ds S1, (T.mapL peek args).run S = .ok (ds, S1) → S1 = S ∧ (∀ b, nowSt G b → b < w.heap.size) ∧ ArgsRel w (gst0 (nowSt G)) (ds.map .d) vs := by
  intro ds S1 h;obtain ⟨h1, h2⟩ := peeks_rel args vs ds hr ha h;refine ⟨h1, fun b hb => ?_, by simpa using h2.1, fun i c v e1 e2 => ?_⟩
  ·rcases hb with hb | hb
   ·exact hr.wf.st b hb
   ·cases ho : G.own b with
    | none => exact absurd ho hb
    | some l => exact (hr.wf.own b l ho).1
  ·rw [List.getElem?_map] at e1
   cases hd : ds[i]? with
   | none => rw [hd] at e1; cases e1
   | some d => rw [hd] at e1; cases e1; exact .d _ _ (h2.2 i d v hd e2)
 have rel0 : (∀ b, nowSt G b → b < w.heap.size) → Rel w (gst0 (nowSt G)) .empty := fun h =>
  ⟨⟨fun b l hb => (by cases hb), h, fun b hb => False.elim hb, fun l => Nat.zero_le _⟩, fun id => trivial⟩
 have fresh0 : Fresh (gst0 (nowSt G)) .empty := fun _ h => h.elim;refine ⟨fun h => ?_, fun r S' h hfree => ?_⟩
 ·rcases run_bind_vac h with hx | ⟨ds, S1, h1, hb⟩
  ·exact (clean_mapL clean_peek _).run hx
  ·obtain ⟨hS1, h2, h3⟩ := lift ds S1 h1;obtain ⟨k1, _⟩ := hSh.call f (ds.map .d) vs w _ _ hy (rel0 h2) fresh0 h3;rcases run_bind_vac hb with hc | ⟨x, S2, h4, hc⟩
   ·have hv : copyV Sh f ds = .vac := by
     cases hq : copyV Sh f ds with
     | ok a => rw [hq] at hc; cases hc
     | no => rw [hq] at hc; cases hc
     | vac => rfl
    unfold copyV at hv;rcases Res.bind_vac hv with hv | ⟨q, _, hv⟩
    ·exact k1 hv
    ·split at hv
     ·split at hv
      ·split at hv <;> cases hv
      ·cases hv
     ·cases hv
   ·cases hc
 ·obtain ⟨ds, S1, h1, hb⟩ := T.bind_ok h;obtain ⟨hS1, h2, h3⟩ := lift ds S1 h1;obtain ⟨⟨sz, xs, n⟩, S2, h4, hc⟩ := T.bind_ok hb;have hq : S2 = S1 ∧ copyV Sh f ds = .ok (sz, xs, n) := by
   cases hq : copyV Sh f ds with
   | ok a => rw [hq] at h4; cases h4; exact ⟨rfl, rfl⟩
   | no => rw [hq] at h4; cases h4
   | vac => rw [hq] at h4; cases h4
  obtain ⟨hS2, hq⟩ := hq;rw [hS2, hS1] at hc;have hres : r = .ar (.arr S.next) sz 0 n ∧ S' = S.alloc (.arr sz xs false) := by cases hc; exact ⟨rfl, rfl⟩
  obtain ⟨rfl, rfl⟩ := hres;unfold copyV at hq;obtain ⟨⟨r1, T1⟩, k1, hq⟩ := Res.bind_ok hq;obtain ⟨m1, m2⟩ := (hSh.call f (ds.map .d) vs w _ _ hy (rel0 h2) fresh0 h3).2 r1 T1 k1;split at hq
  case h_2 => cases hq
  rename_i id sz1 n1 hr1;simp only at hr1;split at hq
  case h_2 => cases hq
  rename_i sz2 xs2 ho;split at hq
  case isFalse => cases hq
  rename_i hcond
  cases hq
  obtain ⟨rfl, hn1, hn0, hfl⟩ := hcond;refine ⟨m1, m2.mono fun v w' hh => ?_⟩;obtain ⟨G', q1, q2, q3, _⟩ := hh;rw [hr1] at q1;have ho2 := q2.obj id;simp only at ho;rw [ho] at ho2;obtain ⟨d1, d2, d3, d4, d5, d6⟩ := ho2
  cases q1 with
  | ar _ _ _ _ cap a hd hs hb hc ha2 =>
  have hcap : 0 < G'.cap (.arr id) := by omega
  obtain ⟨c, e, f2, r1, r2, r3, r4⟩ := d6 hcap;simp only [Bool.false_eq_true, if_false] at r4;obtain ⟨r4, r5⟩ := r4;have hB : (G'.addr (.arr id)).1 < w'.heap.size := lt_size r1;have hnew : w.heap.size ≤ (G'.addr (.arr id)).1 := by
   rcases Nat.lt_or_ge (G'.addr (.arr id)).1 w.heap.size with h | h
   ·have := q3.own' _ h rfl;rw [r4] at this; cases this
   ·exact h
  have hdn : ¬ G.dom (.arr S.next) := hfree (.arr S.next) ⟨Nat.le_refl _, Nat.lt_succ_self _⟩;have hold : ∀ b, b < w.heap.size → w'.heap[b]? = w.heap[b]? := fun b hb => q3.oth b hb rfl (fun h => h.elim);obtain ⟨G2, hG2⟩ : ∃ G2 : Gh, G2 = ⟨fun l => if l = .arr S.next then G'.addr (.arr id) else G.addr l, fun l => if l = .arr S.next then G'.cap (.arr id) else G.cap l, fun l => if l = .arr S.next then G'.esz (.arr id) else G.esz l,
   fun l => l = .arr S.next ∨ G.dom l, fun b => if b = (G'.addr (.arr id)).1 then some (.arr S.next) else G.own b, G.St, G.Lt⟩ := ⟨_, rfl⟩
  have eA : G2.addr (.arr S.next) = G'.addr (.arr id) := by rw [hG2]; exact if_pos rfl
  have eC : G2.cap (.arr S.next) = G'.cap (.arr id) := by rw [hG2]; exact if_pos rfl
  have eE : G2.esz (.arr S.next) = G'.esz (.arr id) := by rw [hG2]; exact if_pos rfl
  have eS : G2.St = G.St := by rw [hG2]
  have eL : G2.Lt = G.Lt := by rw [hG2]
  have eD : ∀ l, G2.dom l ↔ l = .arr S.next ∨ G.dom l := by intro l; rw [hG2]
  have eO : ∀ b, G2.own b = if b = (G'.addr (.arr id)).1 then some (.arr S.next) else G.own b := by intro b; rw [hG2]
  have eN : ∀ l, G.dom l → G2.addr l = G.addr l ∧ G2.cap l = G.cap l ∧ G2.esz l = G.esz l := by
   intro l hl;have ne : l ≠ .arr S.next := fun e => hdn (e ▸ hl);rw [hG2];exact ⟨if_neg ne, if_neg ne, if_neg ne⟩
  have he : Ext w G w' G2 := ⟨q3.size, q3.os, q3.tape, q3.out, fun b hb _ _ => hold b hb, fun b hb c e f hh => ⟨f, (hold b (hr.wf.st b (hr.wf.lt b hb))).trans hh⟩,
   fun b h => by rw [eS]; exact h, fun b h => by rw [eL]; exact h, fun l hl => ⟨(eD l).2 (.inr hl), eN l hl⟩, fun b hb ho => by rw [eO, if_neg (by omega)]; exact ho,
   fun b _ h => by rw [eS] at h; exact .inl h, fun b _ h => by rw [eL] at h; exact h⟩
  have hk : Keep w G w' G2 (fun _ => False) := fun b l hb _ => ⟨hold b (hr.wf.own b l hb).1, by rw [eO, if_neg (by have := (hr.wf.own b l hb).1; omega)]; exact hb⟩
  refine ⟨G2, .ar _ _ _ _ cap a ((eD _).2 (.inl rfl)) (eE.trans hs) (by rw [eC]; exact hb) hc (fun h => by rw [eA]; exact ha2 h), ⟨⟨fun b l hb2 => ?_, fun b hb2 => ?_, fun b hb2 => ?_, fun l => ?_⟩, fun i => ?_⟩, he, fun l hl => ?_⟩
  ·rw [eO] at hb2;rw [eS];split at hb2
   ·rename_i e0;rw [e0];exact ⟨hB, fun hst => by have := hr.wf.st _ hst; omega⟩
   ·exact ⟨Nat.lt_of_lt_of_le (hr.wf.own b l hb2).1 q3.size, (hr.wf.own b l hb2).2⟩
  ·rw [eS] at hb2;exact Nat.lt_of_lt_of_le (hr.wf.st b hb2) q3.size
  ·rw [eL] at hb2; rw [eS]; exact hr.wf.lt b hb2
  ·rw [hG2];show (if l = .arr S.next then G'.cap (.arr id) else G.cap l) ≤ _;split
   ·exact q2.wf.max _
   ·exact hr.wf.max _
  ·show ObjRel w' G2 i (if i = S.next then _ else S.obj i);by_cases hi : i = S.next
   ·rw [if_pos hi, hi];refine ⟨(eD _).2 (.inl rfl), eE.trans d2, d3, d4, by rw [eC]; exact d5, fun _ => ⟨c, e, f2, by rw [eA]; exact r1, by rw [eA, eC]; exact r2, fun i j x d h1 h2 => ?_, ?_⟩⟩
    ·rw [eA];obtain ⟨v, s1, s2⟩ := r3 i j x d h1 h2;exact ⟨v, s1, s2.flat (flat_cells (flatL_all hfl x (List.mem_of_getElem? h1)) (List.mem_of_getElem? h2))⟩
    ·simp only [Bool.false_eq_true, if_false];exact ⟨by rw [eA, eO, if_pos rfl], r5⟩
   ·rw [if_neg hi];exact (hr.obj i).keep hr.wf he hk (fun _ _ h => h)
  ·rcases (eD l).1 hl with rfl | h
   ·exact .inr ⟨Nat.le_refl _, Nat.lt_succ_self _⟩
   ·exact .inl h
theorem make_sound {cfg : Cfg} {Sh : FuncId → List LV → St → Res (LV × St)} (hSh : ShSound P cfg Sh) (hr : Rel w G S) {f : FuncId} {args : List LV} {vs : List Value} (ha : ArgsRel w G args vs) (hy : f ≠ YID) :
  ((T.mapL toD args).bind fun ds => (T.ofRes (makeV Sh f ds)).bind fun p => .new (.arr p.1 p.2.1 false) fun id => .ret (.ar (.arr id) p.1 0 p.2.2) : T LV).run S ≠ .vac ∧
  ∀ r S', ((T.mapL toD args).bind fun ds => (T.ofRes (makeV Sh f ds)).bind fun p => .new (.arr p.1 p.2.1 false) fun id => .ret (.ar (.arr id) p.1 0 p.2.2) : T LV).run S = .ok (r, S') → Free G S S' →
   Enters P f ∧ Answers P f vs w fun v w' => ∃ G', LVRel w' G' r v ∧ Rel w' G' S' ∧ Ext w G w' G' ∧ DomLe G G' S S' := by
 have lift : ∀ ds S1, (T.mapL toD args).run S = .ok (ds, S1) → ∃ G1, Rel w G1 S1 ∧ Ext w G w G1 ∧ (∀ k, G1.dom k ↔ G.dom k) ∧ S1.next = S.next ∧ S1.clk = S.clk ∧ ArgsRel w (gst0 G1.St) (ds.map .d) vs := by
  intro ds S1 h;obtain ⟨G1, h1, h2, h3, h4, h5, h6, h7⟩ := mapL_ok toD_ok args vs hr ha.1 ha.2 h;refine ⟨G1, h1, h2, h3, h6, h7, by simpa using h4, fun i c v e1 e2 => ?_⟩
  rw [List.getElem?_map] at e1
  cases hd : ds[i]? with
  | none => rw [hd] at e1; cases e1
  | some d => rw [hd] at e1; cases e1; exact .d _ _ (h5 i d v hd e2)
 have rel0 : ∀ {G1 : Gh} {S1 : St}, Rel w G1 S1 → Rel w (gst0 G1.St) .empty := fun h =>
  ⟨⟨fun b l hb => (by cases hb), h.wf.st, fun b hb => False.elim hb, fun l => Nat.zero_le _⟩, fun id => trivial⟩
 have fresh0 : ∀ {St' : Nat → Prop}, Fresh (gst0 St') .empty := fun _ h => h.elim;refine ⟨fun h => ?_, fun r S' h hfree => ?_⟩
 ·rcases run_bind_vac h with hx | ⟨ds, S1, h1, hb⟩
  ·exact (clean_mapL clean_toD _).run hx
  ·obtain ⟨G1, h2, hx2, _, _, _, h3⟩ := lift ds S1 h1;obtain ⟨k1, _⟩ := hSh.call f (ds.map .d) vs w _ _ hy (rel0 h2) fresh0 h3;rcases run_bind_vac hb with hc | ⟨x, S2, h4, hc⟩
   ·have hv : makeV Sh f ds = .vac := by
     cases hq : makeV Sh f ds with
     | ok a => rw [hq] at hc; cases hc
     | no => rw [hq] at hc; cases hc
     | vac => rfl
    unfold makeV at hv;rcases Res.bind_vac hv with hv | ⟨q, _, hv⟩
    ·exact k1 hv
    ·split at hv
     ·split at hv
      ·split at hv <;> cases hv
      ·cases hv
     ·cases hv
   ·cases hc
 ·obtain ⟨ds, S1, h1, hb⟩ := T.bind_ok h;obtain ⟨G1, hr1', hx1, hdm, hnx1, hck1, h3⟩ := lift ds S1 h1;obtain ⟨⟨sz, xs, n⟩, S2, h4, hc⟩ := T.bind_ok hb;have hq : S2 = S1 ∧ makeV Sh f ds = .ok (sz, xs, n) := by
   cases hq : makeV Sh f ds with
   | ok a => rw [hq] at h4; cases h4; exact ⟨rfl, rfl⟩
   | no => rw [hq] at h4; cases h4
   | vac => rw [hq] at h4; cases h4
  obtain ⟨hS2, hq⟩ := hq;rw [hS2] at hc;have hres : r = .ar (.arr S1.next) sz 0 n ∧ S' = S1.alloc (.arr sz xs false) := by cases hc; exact ⟨rfl, rfl⟩
  obtain ⟨rfl, rfl⟩ := hres;unfold makeV at hq;obtain ⟨⟨r1, T1⟩, k1, hq⟩ := Res.bind_ok hq;obtain ⟨m1, m2⟩ := (hSh.call f (ds.map .d) vs w _ _ hy (rel0 hr1') fresh0 h3).2 r1 T1 k1;split at hq
  case h_2 => cases hq
  rename_i id sz1 n1 hr1;simp only at hr1;split at hq
  case h_2 => cases hq
  rename_i sz2 xs2 ho;split at hq
  case isFalse => cases hq
  rename_i hcond
  cases hq
  obtain ⟨rfl, hn1, hn0⟩ := hcond;refine ⟨m1, m2.mono fun v w' hh => ?_⟩;obtain ⟨G', q1, q2, q3, _⟩ := hh;rw [hr1] at q1;have ho2 := q2.obj id;simp only at ho;rw [ho] at ho2;obtain ⟨d1, d2, d3, d4, d5, d6⟩ := ho2
  cases q1 with
  | ar _ _ _ _ cap a hd hs hb hc ha2 =>
  have hcap : 0 < G'.cap (.arr id) := by omega
  obtain ⟨c, e, f2, r1, r2, r3, r4⟩ := d6 hcap;simp only [Bool.false_eq_true, if_false] at r4;obtain ⟨r4, r5⟩ := r4;have hB : (G'.addr (.arr id)).1 < w'.heap.size := lt_size r1;have hnew : w.heap.size ≤ (G'.addr (.arr id)).1 := by
   rcases Nat.lt_or_ge (G'.addr (.arr id)).1 w.heap.size with h | h
   ·have := q3.own' _ h rfl;rw [r4] at this; cases this
   ·exact h
  have hdn : ¬ G1.dom (.arr S1.next) := fun h => hfree (.arr S1.next) ⟨by omega, by show S1.next < (S1.alloc _).next; simp [St.alloc]⟩ ((hdm _).1 h)
  have hold : ∀ b, b < w.heap.size → w'.heap[b]? = w.heap[b]? := fun b hb => q3.oth b hb rfl (fun h => h.elim);obtain ⟨G2, hG2⟩ : ∃ G2 : Gh, G2 = ⟨fun l => if l = .arr S1.next then G'.addr (.arr id) else G1.addr l, fun l => if l = .arr S1.next then G'.cap (.arr id) else G1.cap l, fun l => if l = .arr S1.next then G'.esz (.arr id) else G1.esz l,
   fun l => l = .arr S1.next ∨ G1.dom l, fun b => if b = (G'.addr (.arr id)).1 then some (.arr S1.next) else G1.own b, G'.St, G1.Lt⟩ := ⟨_, rfl⟩
  have eA : G2.addr (.arr S1.next) = G'.addr (.arr id) := by rw [hG2]; exact if_pos rfl
  have eC : G2.cap (.arr S1.next) = G'.cap (.arr id) := by rw [hG2]; exact if_pos rfl
  have eE : G2.esz (.arr S1.next) = G'.esz (.arr id) := by rw [hG2]; exact if_pos rfl
  have eS : G2.St = G'.St := by rw [hG2]
  have eL : G2.Lt = G1.Lt := by rw [hG2]
  have eD : ∀ l, G2.dom l ↔ l = .arr S1.next ∨ G1.dom l := by intro l; rw [hG2]
  have eO : ∀ b, G2.own b = if b = (G'.addr (.arr id)).1 then some (.arr S1.next) else G1.own b := by intro b; rw [hG2]
  have eN : ∀ l, G1.dom l → G2.addr l = G1.addr l ∧ G2.cap l = G1.cap l ∧ G2.esz l = G1.esz l := by
   intro l hl;have ne : l ≠ .arr S1.next := fun e => hdn (e ▸ hl);rw [hG2];exact ⟨if_neg ne, if_neg ne, if_neg ne⟩
  have he : Ext w G1 w' G2 := ⟨q3.size, q3.os, q3.tape, q3.out, fun b hb _ _ => hold b hb, fun b hb c e f hh => ⟨f, (hold b (hr1'.wf.st b (hr1'.wf.lt b hb))).trans hh⟩,
   fun b h => by rw [eS]; exact q3.st b h, fun b h => by rw [eL]; exact h, fun l hl => ⟨(eD l).2 (.inr hl), eN l hl⟩, fun b hb ho => by rw [eO, if_neg (by omega)]; exact ho,
   fun b hb h => by
    rw [eS] at h;rcases q3.st' b hb h with h | h
    ·exact .inl h
    ·exact absurd rfl h, fun b _ h => by rw [eL] at h; exact h⟩
  have hk : Keep w G1 w' G2 (fun _ => False) := fun b l hb _ => ⟨hold b (hr1'.wf.own b l hb).1, by rw [eO, if_neg (by have := (hr1'.wf.own b l hb).1; omega)]; exact hb⟩
  refine ⟨G2, .ar _ _ _ _ cap a ((eD _).2 (.inl rfl)) (eE.trans hs) (by rw [eC]; exact hb) hc (fun h => by rw [eA]; exact ha2 h), ⟨⟨fun b l hb2 => ?_, fun b hb2 => ?_, fun b hb2 => ?_, fun l => ?_⟩, fun i => ?_⟩, hx1.trans he, fun l hl => ?_⟩
  ·rw [eO] at hb2;rw [eS];split at hb2
   ·rename_i e0;rw [e0];exact ⟨hB, (q2.wf.own _ _ r4).2⟩
   ·refine ⟨Nat.lt_of_lt_of_le (hr1'.wf.own b l hb2).1 q3.size, fun hst => ?_⟩;rcases q3.st' b (hr1'.wf.own b l hb2).1 hst with h | h
    ·exact (hr1'.wf.own b l hb2).2 h
    ·exact h rfl
  ·rw [eS] at hb2;exact q2.wf.st b hb2
  ·rw [eL] at hb2; rw [eS]; exact q3.st b (hr1'.wf.lt b hb2)
  ·rw [hG2];show (if l = .arr S1.next then G'.cap (.arr id) else G1.cap l) ≤ _;split
   ·exact q2.wf.max _
   ·exact hr1'.wf.max _
  ·show ObjRel w' G2 i (if i = S1.next then _ else S1.obj i);by_cases hi : i = S1.next
   ·rw [if_pos hi, hi];refine ⟨(eD _).2 (.inl rfl), eE.trans d2, d3, d4, by rw [eC]; exact d5, fun _ => ⟨c, e, f2, by rw [eA]; exact r1, by rw [eA, eC]; exact r2, fun i j x d h1 h2 => ?_, ?_⟩⟩
    ·rw [eA];obtain ⟨v, s1, s2⟩ := r3 i j x d h1 h2;exact ⟨v, s1, by rw [eS]; exact s2⟩
    ·simp only [Bool.false_eq_true, if_false];exact ⟨by rw [eA, eO, if_pos rfl], r5⟩
   ·rw [if_neg hi];exact (hr1'.obj i).keep hr1'.wf he hk (fun _ _ h => h)
  ·rcases (eD l).1 hl with rfl | h
   ·exact .inr ⟨by omega, by show S1.next < (S1.alloc _).next; simp [St.alloc]⟩
   ·exact .inl ((hdm _).1 h)
theorem callT_sound {cfg : Cfg} {V : FuncId → List D → Res LV} {Sh : FuncId → List LV → St → Res (LV × St)} (hV : VSound P V) (hSh : ShSound P cfg Sh) (hr : Rel w G S) {f : FuncId} {args : List LV} {vs : List Value} (ha : ArgsRel w G args vs) :
  (callT cfg V Sh f args).run S ≠ .vac ∧ ∀ r S', (callT cfg V Sh f args).run S = .ok (r, S') → Free G S S' → Enters P f ∧ Answers P f vs w fun v w' => ∃ G', LVRel w' G' r v ∧ Rel w' G' S' ∧ Ext w G w' G' ∧ DomLe G G' S S' := by
 have hy : cfg.mode f ≠ .val → f ≠ YID := fun h e => h (by rw [e]; exact hSh.mode)
 unfold callT;split
 ·-- lent
  have lift : ∀ ds S1, (T.mapL peek args).run S = .ok (ds, S1) → S1 = S ∧ DArgs w (nowSt G) ds vs ∧ ∀ b, nowSt G b → b < w.heap.size := by
   intro ds S1 h;obtain ⟨h1, h2⟩ := peeks_rel args vs ds hr ha h;refine ⟨h1, h2, fun b hb => ?_⟩;rcases hb with hb | hb
   ·exact hr.wf.st b hb
   ·cases ho : G.own b with
    | none => exact absurd ho hb
    | some l => exact (hr.wf.own b l ho).1
  refine ⟨fun h => ?_, fun r S' h _ => ?_⟩
  ·rcases run_bind_vac h with ha | ⟨ds, S1, h1, hb⟩
   ·exact (clean_mapL clean_peek _).run ha
   ·obtain ⟨_, h2, h3⟩ := lift ds S1 h1;rcases run_bind_vac hb with hc | ⟨x, S2, h4, hc⟩
    ·exact (hV f ds vs w _ h3 h2).1 (ofRes_vac hc)
    ·split at hc <;> cases hc
  ·obtain ⟨ds, S1, h1, hb⟩ := T.bind_ok h;obtain ⟨hS1, h2, h3⟩ := lift ds S1 h1;obtain ⟨x, S2, h4, hc⟩ := T.bind_ok hb;obtain ⟨hS2, h5⟩ := ofRes_run h4;rw [hS2, hS1] at hc;split at hc
   case isFalse => cases hc
   rename_i hfl
   cases hc
   obtain ⟨k1, k2⟩ := (hV f ds vs w _ h3 h2).2 _ h5 (flat_data hfl);refine ⟨k1, k2.mono fun v w' hh => ?_⟩;obtain ⟨St', g1, g2⟩ := hh;obtain ⟨q1, q2⟩ := g1.lent hr;exact ⟨G, flat_rel hfl g2, q1, q2, DomLe.refl _ _ _⟩
 ·rename_i hm; exact callSh_sound hSh hr ha (hy (by rw [hm]; decide))
 ·rename_i hm; exact callSh_sound hSh hr ha (hy (by rw [hm]; decide))
 ·rename_i hm; exact callRo_sound hSh hr ha (hy (by rw [hm]; decide))
 ·rename_i hm; exact make_sound hSh hr ha (hy (by rw [hm]; decide))
 ·rename_i hm; exact copy_sound hSh hr ha (hy (by rw [hm]; decide))
 ·have lift : ∀ ds S1, (T.mapL toD args).run S = .ok (ds, S1) → ∃ G1, Rel w G1 S1 ∧ Ext w G w G1 ∧ (∀ k, G1.dom k ↔ G.dom k) ∧ DArgs w G1.St ds vs ∧ S1.next = S.next ∧ S1.clk = S.clk := by
   intro ds S1 h;obtain ⟨G1, h1, h2, h3, h4, h5, h6, h7⟩ := mapL_ok toD_ok args vs hr ha.1 ha.2 h;exact ⟨G1, h1, h2, h3, ⟨h4, h5⟩, h6, h7⟩
  refine ⟨fun h => ?_, fun r S' h _ => ?_⟩
  ·rcases run_bind_vac h with ha | ⟨ds, S1, h1, hb⟩
   ·exact (clean_mapL clean_toD _).run ha
   ·obtain ⟨G1, h2, h3, h4, h5, _⟩ := lift ds S1 h1;rcases run_bind_vac hb with hc | ⟨x, S2, h6, hc⟩
    ·exact (hV f ds vs w _ h2.wf.st h5).1 (ofRes_vac hc)
    ·split at hc <;> cases hc
  ·obtain ⟨ds, S1, h1, hb⟩ := T.bind_ok h;obtain ⟨G1, h2, h3, h4, h5, h6, h7⟩ := lift ds S1 h1;obtain ⟨x, S2, h8, hc⟩ := T.bind_ok hb;obtain ⟨hS2, h9⟩ := ofRes_run h8;rw [hS2] at hc;split at hc
   case isFalse => cases hc
   rename_i hda
   cases hc
   obtain ⟨k1, k2⟩ := (hV f ds vs w _ h2.wf.st h5).2 _ h9 hda;refine ⟨k1, k2.mono fun v w' hh => ?_⟩;obtain ⟨St', g1, g2⟩ := hh;obtain ⟨q1, q2⟩ := g1.caller h2;refine ⟨{ G1 with St := St' }, data_rel hda g2 (fun b hb => hb), q1, h3.trans q2, ?_⟩;intro l hl;exact .inl ((h4 l).1 hl)
theorem callS_sound {cfg : Cfg} {V : FuncId → List D → Res LV} {Sh : FuncId → List LV → St → Res (LV × St)} (hV : VSound P V) (hSh : ShSound P cfg Sh) (hr : Rel w G S) (hf : Fresh G S) {f : FuncId} {args : List LV} {vs : List Value} (ha : ArgsRel w G args vs) :
  callS cfg V Sh f args S ≠ .vac ∧ ∀ r S', callS cfg V Sh f args S = .ok (r, S') → Enters P f ∧ Answers P f vs w fun v w' => ∃ G', LVRel w' G' r v ∧ Rel w' G' S' ∧ Ext w G w' G' ∧ Fresh G' S' := by
 unfold callS;split
 ·rename_i hm; exact hSh.call f args vs w G S (fun e => by rw [e, hSh.mode] at hm; cases hm) hr hf ha
 ·rename_i hm;have hy : f ≠ YID := fun e => by rw [e, hSh.mode] at hm; cases hm
  have fresh : ∀ {G1 : Gh} {S1 : St}, (∀ k, G1.dom k ↔ G.dom k) → S1.next = S.next → S1.clk = S.clk → Fresh G1 S1 := fun a b c l hl => by
   have := hf l ((a l).1 hl)
   cases l <;> simp only at this ⊢ <;> omega
  refine ⟨fun h => ?_, fun r S' h => ?_⟩
  ·rcases Res.bind_vac h with h | ⟨⟨as, S1⟩, h1, h2⟩
   ·exact (clean_mapL clean_lend _).run h
   ·obtain ⟨G1, a1, a2, a3, a4, a5, a6⟩ := mapP_ok lend_ok args vs hr ha h1;exact (hSh.call f as vs w G1 S1 hy a1 (fresh a3 a5 a6) a4).1 h2
  ·obtain ⟨⟨as, S1⟩, h1, h2⟩ := Res.bind_ok h;obtain ⟨G1, a1, a2, a3, a4, a5, a6⟩ := mapP_ok lend_ok args vs hr ha h1;obtain ⟨k1, k2⟩ := (hSh.call f as vs w G1 S1 hy a1 (fresh a3 a5 a6) a4).2 r S' h2;refine ⟨k1, k2.mono fun v w' hh => ?_⟩;obtain ⟨G', q1, q2, q3, q4⟩ := hh;exact ⟨G', q1, q2, a2.trans q3, q4⟩
 ·rename_i hm;have hy : f ≠ YID := fun e => by rw [e, hSh.mode] at hm; cases hm
  have fresh : ∀ {G1 : Gh} {S1 : St}, (∀ k, G1.dom k ↔ G.dom k) → S1.next = S.next → S1.clk = S.clk → Fresh G1 S1 := fun a b c l hl => by
   have := hf l ((a l).1 hl)
   cases l <;> simp only at this ⊢ <;> omega
  refine ⟨fun h => ?_, fun r S' h => ?_⟩
  ·rcases Res.bind_vac h with h | ⟨⟨as, S1⟩, h1, h2⟩
   ·exact (clean_mapL clean_lend _).run h
   ·obtain ⟨G1, a1, a2, a3, a4, a5, a6⟩ := mapP_ok lend_ok args vs hr ha h1;exact (hSh.call f as vs w G1 S1 hy a1 (fresh a3 a5 a6) a4).1 h2
  ·obtain ⟨⟨as, S1⟩, h1, h2⟩ := Res.bind_ok h;obtain ⟨G1, a1, a2, a3, a4, a5, a6⟩ := mapP_ok lend_ok args vs hr ha h1;obtain ⟨k1, k2⟩ := (hSh.call f as vs w G1 S1 hy a1 (fresh a3 a5 a6) a4).2 r S' h2;refine ⟨k1, k2.mono fun v w' hh => ?_⟩;obtain ⟨G', q1, q2, q3, q4⟩ := hh;exact ⟨G', q1, q2, a2.trans q3, q4⟩
 ·obtain ⟨h1, h2⟩ := callT_sound (cfg := cfg) hV hSh hr ha;refine ⟨h1, fun r S' h => ?_⟩;obtain ⟨k1, k2⟩ := h2 r S' h (hf.free S');refine ⟨k1, k2.mono fun v w' hh => ?_⟩;obtain ⟨G', q1, q2, q3, q4⟩ := hh;exact ⟨G', q1, q2, q3, hf.next q4 (T.grow _ h)⟩
end Go.VM
end
section
namespace Go.VM
open Go.RowKit
variable {w w' w1 w2 : World} {G G' G1 G2 : Gh} {S S' S1 S2 : St} {P : Program}
theorem calls_fr {ro : Option Nat} {n : Nat} {f : FuncId} {args : Array Value} {R : Ending → World → Prop} (h : Calls P f args w R) : CallsIn (Fr ro) n P f args w R := by
 cases ro with
 | none => exact callsIn_wide.2 h
 | some l => exact CallsIn.inRound (F := Fr none) l (callsIn_wide.2 h)
def Does (P : Program) (o : Oper) (a : Act) (w : World) (R : Value → World → Prop) : Prop :=
 ∀ (ro : Option Nat) (n : Nat) (K : Act → World → Prop) (Q : Exit → Act → World → Prop), (∀ v w', R v w' → K (a.put o.dst v) w') → o.wpIn (Fr ro) n P a w K Q
theorem wp_const {o : Oper} {a : Act} {X : Prop} (h : o.wpIn (Fr none) 0 P a w (fun _ _ => X) (fun _ _ _ => False)) : X := by
 obtain ⟨_, h⟩ := h;have room : ∀ n, (Fr none).room n := fun n d hd => by cases hd
 generalize (o.semAt (Fr none).round a.eval).run P w = r at h
 cases r with
 | ok n w' =>
  cases n <;> simp only [Oper.uponIn] at h
  case value => exact h
  case skip => exact h
  case defer => exact h
  case enter f args =>
   obtain ⟨_, _, h⟩ := h;obtain ⟨e, w2, fr, hR, _⟩ := h [] (room _)
   cases e with
   | returned v => exact hR
   | panicked c => exact hR.elim
   | outgrown => obtain ⟨_, _, hh⟩ := hR; exact hh.elim
  case row row args =>
   obtain ⟨v, w2, hR, _⟩ := h.2 default [] (room _);exact hR
  case round l f tmps assign body =>
   obtain ⟨_, _, h⟩ := h;obtain ⟨e, w2, hR, _⟩ := h default [] (room _)
   cases e with
   | returned v => exact hR
   | panicked c => exact hR.elim
   | outgrown => obtain ⟨_, _, hh⟩ := hR; exact hh.elim
 | halt x w' => cases x <;> simp only [Oper.uponIn] at h
theorem Does.some {o : Oper} {a : Act} {R : Value → World → Prop} (h : Does P o a w R) : ∃ v w', R v w' :=
 wp_const (h none 0 (fun _ _ => ∃ v w', R v w') (fun _ _ _ => False) fun v w' hv => ⟨v, w', hv⟩)
theorem Does.mono {o : Oper} {a : Act} {R R' : Value → World → Prop} (h : Does P o a w R) (hr : ∀ v w', R v w' → R' v w') : Does P o a w R' :=
 fun ro n K Q hk => h ro n K Q fun v w' hv => hk v w' (hr v w' hv)
theorem does_sim {a : Act} {o : Oper} {t : T LV} {r : LV} (h : Sim P w G S (execOp a.eval o) t Leaves) (hr : t.run S = .ok (r, S')) (hf : Free G S S') (hdef : ∀ c, o.op ≠ .defer c) :
  Does P o a w fun v w' => ∃ G', LVRel w' G' r v ∧ Rel w' G' S' ∧ Ext w G w' G' ∧ DomLe G G' S S' := by
 obtain ⟨x, w', G', h1, ⟨v, h2, h3⟩, h4⟩ := h r S' hr hf;intro ro n K Q hk;refine ⟨fun _ _ => trivial, ?_⟩;rw [Oper.semAt_eq _ _ _ hdef, h1];rcases h2 with rfl | ⟨rfl, rfl⟩
 ·exact hk v w' ⟨G', h3, h4⟩
 ·exact hk undef w' ⟨G', h3, h4⟩
theorem callee_of {e : Env} {op : Op} {f : FuncId} {args : List LV} (h : callee e op = some (f, args)) :
  ∃ fo ao ts caps, op = .call ⟨.value fo, ao, ts⟩ ∧ Operand.lv e fo = .fn f caps ∧ args = ao.toList.map (Operand.lv e) ++ caps := by
 unfold callee at h;split at h
 ·rename_i fo ao ts;split at h
  ·rename_i g caps hg
   cases h
   exact ⟨fo, ao, ts, caps, rfl, hg, rfl⟩
  ·cases h
 ·cases h
theorem does_call {e : Env} {a : Act} {o : Oper} {f : FuncId} {args : List LV} (he : EnvRel w G e a) (hc : callee e o.op = some (f, args)) :
  ∃ vs, ArgsRel w G args vs ∧ ∀ R, Enters P f → Answers P f vs w R → Does P o a w R := by
 obtain ⟨fo, ao, ts, caps, hop, hfo, rfl⟩ := callee_of hc;have hfv := he.lv fo;rw [hfo] at hfv;generalize hcv : a.eval fo = cv at hfv
 cases hfv with
 | fn _ _ cvs hl hh =>
 obtain ⟨l1, l2⟩ := he.list ao;refine ⟨(ao.map a.eval).toList ++ cvs.toList, ⟨by simp [hl], fun i c v h1 h2 => ?_⟩, fun R hE hA ro n K Q hk => ?_⟩
 ·by_cases hi : i < ao.size
  ·rw [List.getElem?_append_left (by simpa using hi)] at h1 h2
   exact l2 i c v h1 (by simpa using h2)
  ·rw [List.getElem?_append_right (by simpa using hi)] at h1 h2
   simp only [List.length_map, Array.length_toList, Array.size_map] at h1 h2;exact hh _ c v h1 (by simpa using h2)
 ·have hrun : (execOp a.eval o).run P w = .ok (.enter f (ao.map a.eval ++ cvs)) w := by
   have hE' : ∀ args w, (callFunc f args).run P w = .ok (.enter f args) w := hE;simp [execOp, hop, resolve, Deferred.ofValue, hcv, invoke, hE']
  refine ⟨fun _ _ => trivial, ?_⟩;rw [Oper.semAt_eq _ _ _ (by rw [hop]; intro c hc; cases hc), hrun]
  simp only [Oper.uponIn];refine ⟨fun h => (by cases h), ?_⟩
  have hvs : ((ao.map a.eval).toList ++ cvs.toList).toArray = ao.map a.eval ++ cvs := by simp
  unfold Answers at hA;rw [hvs] at hA;refine calls_fr (Calls.mono hA fun x w' hx => ?_)
  cases x with
  | returned v => exact hk v w' hx
  | _ => exact hx.elim
theorem does_yield {e : Env} {a : Act} {o : Oper} {args : List LV} (he : EnvRel w G e a) (hc : yieldee e o.op = some args) :
  ∃ id as vs, args = .yl id :: as ∧ ArgsRel w G as vs ∧ ∀ R, Yields P (G.addr (.arr id)).1 vs w R → Does P o a w R := by
 unfold yieldee at hc;split at hc
 case h_2 => cases hc
 rename_i fo ao ts hop;split at hc
 case h_2 => cases hc
 rename_i id hfo
 cases hc
 have hfv := he.lv fo;rw [hfo] at hfv;generalize hcv : a.eval fo = cv at hfv
 cases hfv with
 | yl _ hd =>
 obtain ⟨l1, l2⟩ := he.list ao;refine ⟨id, _, (ao.map a.eval).toList, rfl, ⟨by simp, fun i c v h1 h2 => ?_⟩, fun R hA ro n K Q hk => ?_⟩
 ·have hi : i < ao.size := by have := (List.getElem?_eq_some_iff.1 h1).1; simpa using this
  exact l2 i c v h1 (by simpa using h2)
 ·obtain ⟨fn, tmps, as, bd, h1, h2⟩ := hA (n - 1);have hrun : (execOp a.eval o).run P w = .ok (.round (G.addr (.arr id)).1 fn tmps as bd) w := by
   have h1' : (Instr.yield (G.addr (.arr id)).1 (ao.map a.eval)).run P w = .ok (.round (G.addr (.arr id)).1 fn tmps as bd) w := by
    have e : (ao.map a.eval).toList.toArray = ao.map a.eval := by rw [Array.toArray_toList]
    rw [e] at h1; exact h1
   simp [execOp, hop, resolve, Deferred.ofValue, hcv, invoke, h1']
  refine ⟨fun _ _ => trivial, ?_⟩;rw [Oper.semAt_eq _ _ _ (by rw [hop]; intro c hc; cases hc), hrun]
  simp only [Oper.uponIn];refine ⟨fun h => (by cases h), ?_⟩
  have h3 : RoundIn (Fr ro) (n - 1) P (G.addr (.arr id)).1 fn tmps as bd w fun e w' => match e with | .returned v => R v w' | _ => False := by
   cases ro with
   | none => exact h2
   | some l => exact h2
  refine h3.mono fun x w' hx => ?_
  cases x with
  | returned v => exact hk v w' hx
  | _ => exact hx.elim
theorem no_defer {e : Env} {o : Oper} {x : LV × St} (h : (stepT P e o.op).run S = .ok x) : ∀ c, o.op ≠ .defer c := by
 intro c hc;rw [hc] at h
 cases h
theorem step1_sound {cfg : Cfg} (hP : cfg.P = P) {V : FuncId → List D → Res LV} {Sh : FuncId → List LV → St → Res (LV × St)} (hV : VSound P V) (hSh : ShSound P cfg Sh) (hr : Rel w G S) (hf : Fresh G S)
  {e : Env} {a : Act} (he : EnvRel w G e a) {o : Oper} :
  step1 cfg V Sh e o.op S ≠ .vac ∧ ∀ r S', step1 cfg V Sh e o.op S = .ok (r, S') → Does P o a w fun v w' => ∃ G', LVRel w' G' r v ∧ Rel w' G' S' ∧ Ext w G w' G' ∧ Fresh G' S' := by
 unfold step1;split
 ·rename_i f args hc;obtain ⟨vs, h1, h2⟩ := does_call (P := P) he hc;obtain ⟨h3, h4⟩ := callS_sound hV hSh hr hf h1;exact ⟨h3, fun r S' h => h2 _ (h4 r S' h).1 (h4 r S' h).2⟩
 ·split
  ·rename_i args hc;obtain ⟨id, as, vs, rfl, h1, h2⟩ := does_yield (P := P) he hc;obtain ⟨h3, h4⟩ := hSh.yield id as vs w G S hr hf h1;exact ⟨h3, fun r S' h => h2 _ (h4 r S' h)⟩
  rw [hP];refine ⟨step_vac hr he, fun r S' h => ?_⟩;refine (does_sim (step_sim hr he o) h (hf.free S') (no_defer h)).mono fun v w' hh => ?_;obtain ⟨G', q1, q2, q3, q4⟩ := hh;exact ⟨G', q1, q2, q3, hf.next q4 (T.grow _ h)⟩
theorem stepD_sound {cfg : Cfg} (hP : cfg.P = P) {V : FuncId → List D → Res LV} {Sh : FuncId → List LV → St → Res (LV × St)} (hV : VSound P V) (hSh : ShSound P cfg Sh) (hr : Rel w G S)
  {e : Env} {a : Act} (he : EnvRel w G e a) {o : Oper} :
  (stepD cfg V Sh e o.op).run S ≠ .vac ∧ ∀ r S', (stepD cfg V Sh e o.op).run S = .ok (r, S') → Free G S S' → Does P o a w fun v w' => ∃ G', LVRel w' G' r v ∧ Rel w' G' S' ∧ Ext w G w' G' ∧ DomLe G G' S S' := by
 unfold stepD;split
 ·rename_i f args hc;obtain ⟨vs, h1, h2⟩ := does_call (P := P) he hc;obtain ⟨h3, h4⟩ := callT_sound (cfg := cfg) hV hSh hr h1;exact ⟨h3, fun r S' h hf => h2 _ (h4 r S' h hf).1 (h4 r S' h hf).2⟩
 ·rw [hP];exact ⟨step_vac hr he, fun r S' h hf => does_sim (step_sim hr he o) h hf (no_defer h)⟩
theorem EnvRel.set {e : Env} {a : Act} (he : EnvRel w G e a) {d : Nat} (hd : d < a.tmps.size) {lv : LV} {v : Value} (hv : LVRel w G lv v) : EnvRel w G (e.set d lv) { a with tmps := a.tmps.setIfInBounds d v } := by
 intro i;simp only [Env.set];split
 ·rename_i h; subst h;simpa [hd] using hv
 ·rename_i h;have : (a.tmps.setIfInBounds d v).getD i undef = a.tmps.getD i undef := by
   simp [Array.getElem?_setIfInBounds_ne (Ne.symm h)]
  simp only [this];exact he i
theorem EnvRel.put {e : Env} {a : Act} (he : EnvRel w G e a) {dst : Option Tmp} (hd : ∀ d, dst = some d → d < a.tmps.size) {lv : LV} {v : Value} (hv : LVRel w G lv v) : EnvRel w G (setD e dst lv) (a.put dst v) := by
 cases dst with
 | none => exact he
 | some d => exact he.set (hd d rfl) hv
theorem put_size (a : Act) (dst : Option Tmp) (v : Value) : (a.put dst v).tmps.size = a.tmps.size ∧ (a.put dst v).defers = a.defers := by
 cases dst <;> simp [Act.put]
theorem LVRel.skipped : LVRel w G (.tup []) undef := .tup [] #[] rfl (fun i c v h => by simp at h)
theorem wants_ok {ops : Array Oper} {e : Env} {a : Act} (he : EnvRel w G e a) {o : Oper} {b : Bool} (h : wants e (sop ops.toList o).guard = some b) : Region.wanted o (yielded ops a.tmps) = b := by
 unfold sop at h
 cases hg : o.guard with
 | none => rw [hg] at h; cases h; simp [Region.wanted, hg]
 | some g =>
  obtain ⟨j, want⟩ := g;rw [hg] at h;simp only [Option.map_some] at h
  cases hd : (ops.toList[j]?).bind (·.dst) with
  | none => rw [hd] at h; cases h
  | some d =>
   rw [hd] at h;simp only [wants] at h;split at h
   case h_3 => cases h
   case h_2 =>
    rename_i hb;have hrel := he d;rw [hb] at hrel
    cases h
    have hd' : (ops[j]?).bind (·.dst) = some d := by simpa using hd
    have hv : a.tmps.getD d undef = .tuple #[] := by
     generalize a.tmps.getD d undef = x at hrel
     cases hrel with | tup _ vs hl _ =>
      have : vs = #[] := Array.eq_empty_of_size_eq_zero hl.symm;rw [this]
    have hget : yielded ops a.tmps j = none := by
     unfold yielded;rw [hd'];simp only [Option.bind_some]
     cases hx : a.tmps[d]? with
     | none => rfl
     | some x => simp [hx] at hv; rw [hv]
    simp [Region.wanted, hg, hget]
   rename_i b' hb;have hrel := he d;rw [hb] at hrel;have hv : a.tmps.getD d undef = .bool b' := by
    generalize a.tmps.getD d undef = x at hrel
    cases hrel with | d _ _ hx => cases hx; rfl
   have hget : a.tmps[d]? = some (.bool b') := by
    cases hx : a.tmps[d]? with
    | none => simp [hx] at hv; cases hv
    | some x => simp [hx] at hv; rw [hv]
   have hd' : (ops[j]?).bind (·.dst) = some d := by simpa using hd
   simp only [Region.wanted, hg, yielded, hd', Option.bind_some, hget]
   cases h
   cases b' <;> cases want <;> rfl
structure Marks (w : World) (w' : World) (G' : Gh) (ms : List Nat) : Prop where
 nd : ms.Nodup
 at_ : ∀ D ∈ ms, w.heap.size ≤ D ∧ G'.own D = none ∧ ¬ G'.St D ∧ w'.heap[D]? = some (.deferred (some []))
def mark (D : Nat) : Deferred := { target := .collected D, args := #[] }
theorem Marks.nil : Marks w w' G' [] := ⟨List.nodup_nil, fun D h => by cases h⟩
theorem Marks.ext {ms : List Nat} (h : Marks w w1 G1 ms) (hw : G1.Wf w1) (k : Ext w1 G1 w2 G2) : Marks w w2 G2 ms := by
 refine ⟨h.nd, fun D hD => ?_⟩;obtain ⟨h1, h2, h3, h4⟩ := h.at_ D hD;have hlt : D < w1.heap.size := lt_size h4;refine ⟨h1, k.own' D hlt h2, fun hs => ?_, (k.oth D hlt h2 (fun hl => h3 (hw.lt D hl))).trans h4⟩;rcases k.st' D hlt hs with h | h
 ·exact h3 h
 ·exact h h2
structure After (w : World) (G : Gh) (a : Act) (e' : Env) (S' : St) (w' : World) (G' : Gh) (a' : Act) : Prop where
 rel : Rel w' G' S'
 env : EnvRel w' G' e' a'
 ext : Ext w G w' G'
 fresh : Fresh G' S'
 size : a'.tmps.size = a.tmps.size
 marks : ∃ ms, Marks w w' G' ms ∧ a'.defers = ms.map mark ++ a.defers
theorem After.mk0 {a a' : Act} {e' : Env} (h1 : Rel w' G' S') (h2 : EnvRel w' G' e' a') (h3 : Ext w G w' G') (h4 : Fresh G' S') (h5 : a'.tmps.size = a.tmps.size) (h6 : a'.defers = a.defers) : After w G a e' S' w' G' a' :=
 ⟨h1, h2, h3, h4, h5, [], .nil, h6⟩
theorem After.trans {a a1 a2 : Act} {e1 e2 : Env} (h : After w G a e1 S1 w1 G1 a1) (k : After w1 G1 a1 e2 S2 w2 G2 a2) : After w G a e2 S2 w2 G2 a2 := by
 obtain ⟨ms1, m1, d1⟩ := h.marks;obtain ⟨ms2, m2, d2⟩ := k.marks;have m3 := m1.ext h.rel.wf k.ext;refine ⟨k.rel, k.env, h.ext.trans k.ext, k.fresh, k.size.trans h.size, ms2 ++ ms1, ⟨?_, fun D hD => ?_⟩, by rw [d2, d1]; simp⟩
 ·refine List.nodup_append.2 ⟨m2.nd, m1.nd, fun x hx y hy e => ?_⟩;subst e;have h1 := (m2.at_ x hx).1;have h2 := lt_size (m1.at_ x hy).2.2.2;omega
 ·rcases List.mem_append.1 hD with hD | hD
  ·obtain ⟨q1, q2⟩ := m2.at_ D hD;exact ⟨Nat.le_trans h.ext.size q1, q2⟩
  ·exact m3.at_ D hD
theorem After.refl {a : Act} {e : Env} (hr : Rel w G S) (he : EnvRel w G e a) (hf : Fresh G S) : After w G a e S w G a := .mk0 hr he (Ext.refl w G) hf rfl rfl
theorem After.behind {a a1 a2 : Act} {e2 : Env} (he : Ext w G w1 G1) (hs : a1.tmps.size = a.tmps.size) (hd : a1.defers = a.defers) (k : After w1 G1 a1 e2 S2 w2 G2 a2) : After w G a e2 S2 w2 G2 a2 := by
 obtain ⟨ms, m, d⟩ := k.marks;exact ⟨k.rel, k.env, he.trans k.ext, k.fresh, k.size.trans hs, ms, ⟨m.nd, fun D hD => ⟨Nat.le_trans he.size (m.at_ D hD).1, (m.at_ D hD).2⟩⟩, by rw [d, hd]⟩
theorem pops_soundR {cfg : Cfg} (hP : cfg.P = P) {V : FuncId → List D → Res LV} {Sh : FuncId → List LV → St → Res (LV × St)} (hV : VSound P V) (hSh : ShSound P cfg Sh) {ops : Array Oper} {n : Nat} (hok : okOps n ops.toList = true) (rest : List Nat) :
  ∀ (l : List Nat) (w : World) (G : Gh) (S : St) (e : Env) (a : Act), Rel w G S → Fresh G S → EnvRel w G e a → a.tmps.size = n → (∀ i ∈ l, i < ops.size) →
  pops cfg V Sh (l.map fun i => sop ops.toList (ops.getD i default)) e S ≠ .vac ∧ ∀ e' S', pops cfg V Sh (l.map fun i => sop ops.toList (ops.getD i default)) e S = .ok (e', S') →
   ∀ (ro : Option Nat) (m : Nat) (Q : Exit → Act → World → Prop), (∀ w' G' a', After w G a e' S' w' G' a' → wpOpsIn (Fr ro) m P ops Q rest a' w') → wpOpsIn (Fr ro) m P ops Q (l ++ rest) a w := by
 intro l
 induction l with
 | nil =>
  intro w G S e a hr hf he hn hl;refine ⟨(by intro h; cases h), fun e' S' h ro m Q hq => ?_⟩
  cases h
  exact hq w G a (After.refl hr he hf)
 | cons i l ih =>
  intro w G S e a hr hf he hn hl;have hi := hl i (by simp)
  have ho : ops[i]? = some ops[i] := Array.getElem?_eq_getElem hi;have hgd : ops.getD i default = ops[i] := by simp [hi]
  simp only [List.map_cons, hgd, pops];have hdst : ∀ d, ops[i].dst = some d → d < a.tmps.size := by
   intro d hd;simp only [okOps, List.all_eq_true] at hok;have := hok ops[i] (by simp)
   rw [hd] at this;simp only [decide_eq_true_eq] at this;exact Nat.lt_of_lt_of_eq this hn.symm
  cases hw : wants e (sop ops.toList ops[i]).guard with
  | none => exact ⟨(by intro h; cases h), fun e' S' h => by cases h⟩
  | some b =>
   have hwant := wants_ok he hw
   cases b with
   | false =>
    have he' : EnvRel w G (setD e (sop ops.toList ops[i]).dst (.tup [])) (a.put ops[i].dst undef) := he.put hdst LVRel.skipped;obtain ⟨h1, h2⟩ := ih w G S _ (a.put ops[i].dst undef) hr hf he' (by rw [(put_size _ _ _).1]; exact hn) (fun k hk => hl k (by simp [hk]))
    refine ⟨h1, fun e' S' h ro m Q hq => ?_⟩;simp only [List.cons_append, wpOpsIn, ho, hwant, Bool.false_eq_true, if_false];refine ⟨fun _ _ => trivial, ?_⟩;exact h2 e' S' h ro m Q fun w' G' a' hA => hq w' G' a' (hA.behind (Ext.refl w G) (put_size _ _ _).1 (put_size _ _ _).2)
   | true =>
    obtain ⟨h1, h2⟩ := step1_sound hP hV hSh hr hf he (o := ops[i]);have hnext : ∀ r S1 v w1 G1, LVRel w1 G1 r v → Rel w1 G1 S1 → Ext w G w1 G1 → Fresh G1 S1 → _ := fun r S1 v w1 G1 q1 q2 q3 q4 =>
     ih w1 G1 S1 (setD e (sop ops.toList ops[i]).dst r) (a.put ops[i].dst v) q2 q4 ((he.ext hr.wf q3).put hdst q1) (by rw [(put_size _ _ _).1]; exact hn) (fun k hk => hl k (by simp [hk]))
    simp only
    cases hs : step1 cfg V Sh e (sop ops.toList ops[i]).op S with
    | vac => exact absurd hs h1
    | no => exact ⟨(by intro h; cases h), fun e' S' h => by cases h⟩
    | ok r =>
     obtain ⟨r, S1⟩ := r;have hdo := h2 r S1 hs;constructor
     ·intro hv;simp only [Res.bind] at hv;obtain ⟨v, w1, G1, q1, q2, q3, q4⟩ := hdo.some;exact (hnext r S1 v w1 G1 q1 q2 q3 q4).1 hv
     ·intro e' S' h ro m Q hq;simp only [Res.bind] at h;simp only [List.cons_append, wpOpsIn, ho, hwant, if_true];refine hdo ro m _ Q fun v w1 hh => ?_;obtain ⟨G1, q1, q2, q3, q4⟩ := hh;refine (hnext r S1 v w1 G1 q1 q2 q3 q4).2 e' S' h ro m Q fun w' G' a' hA => hq w' G' a' ?_;exact hA.behind q3 (put_size _ _ _).1 (put_size _ _ _).2
theorem pops_sound {cfg : Cfg} (hP : cfg.P = P) {V : FuncId → List D → Res LV} {Sh : FuncId → List LV → St → Res (LV × St)} (hV : VSound P V) (hSh : ShSound P cfg Sh) {ops : Array Oper} {n : Nat} (hok : okOps n ops.toList = true) :
  ∀ (l : List Nat) (w : World) (G : Gh) (S : St) (e : Env) (a : Act), Rel w G S → Fresh G S → EnvRel w G e a → a.tmps.size = n → (∀ i ∈ l, i < ops.size) →
  pops cfg V Sh (l.map fun i => sop ops.toList (ops.getD i default)) e S ≠ .vac ∧ ∀ e' S', pops cfg V Sh (l.map fun i => sop ops.toList (ops.getD i default)) e S = .ok (e', S') →
   ∀ (ro : Option Nat) (m : Nat) (Q : Exit → Act → World → Prop), (∀ w' G' a', After w G a e' S' w' G' a' → Q .normal a' w') → wpOpsIn (Fr ro) m P ops Q l a w := by
 intro l w G S e a hr hf he hn hl;obtain ⟨h1, h2⟩ := pops_soundR hP hV hSh hok [] l w G S e a hr hf he hn hl;refine ⟨h1, fun e' S' h ro m Q hq => ?_⟩;have := h2 e' S' h ro m Q hq
 rwa [List.append_nil] at this
end Go.VM
end
section
namespace Go.VM
open Go.RowKit
variable {w w' w1 w2 : World} {G G' G1 G2 : Gh} {S S' S1 S2 : St} {P : Program}
theorem T.writes {α : Type} : ∀ (t : T α) {S S' : St} {r : α}, t.run S = .ok (r, S') → ∀ id, id ∉ (t.log S).2 → S'.obj id = S.obj id := by
 intro t
 induction t with
 | ret a => intro S S' r h id _; cases h; rfl
 | no => intro S S' r h; cases h
 | vac => intro S S' r h; cases h
 | get i k ih => intro S S' r h id hid; exact ih _ h id hid
 | put i o k ih =>
  intro S S' r h id hid;simp only [T.log, List.mem_cons, not_or] at hid;rw [ih h id hid.2, set_obj, if_neg hid.1]
 | new o k ih =>
  intro S S' r h id hid;simp only [T.log, List.mem_cons, not_or] at hid;rw [ih _ h id hid.2];simp only [St.alloc];rw [if_neg hid.1]
 | tick k ih => intro S S' r h id hid; exact ih _ h id hid
 | leak k ih => intro S S' r h id hid; exact ih h id hid
theorem T.agree {α : Type} : ∀ (t : T α) {S S' : St} {r : α}, t.run S = .ok (r, S') → ∀ S2 : St, (∀ id ∈ (t.log S).1, S.obj id = S2.obj id) → S.next = S2.next → S.clk = S2.clk →
  ∃ S2', t.run S2 = .ok (r, S2') ∧ S2'.next = S'.next ∧ S2'.clk = S'.clk ∧ ∀ id, S2'.obj id = if id ∈ (t.log S).2 then S'.obj id else S2.obj id := by
 intro t
 induction t with
 | ret a => intro S S' r h S2 _ h1 h2; cases h; exact ⟨S2, rfl, h1.symm, h2.symm, fun id => by simp [T.log]⟩
 | no => intro S S' r h; cases h
 | vac => intro S S' r h; cases h
 | get i k ih =>
  intro S S' r h S2 hrd h1 h2;have hi : S.obj i = S2.obj i := hrd i (by simp [T.log])
  obtain ⟨S2', e1, e2, e3, e4⟩ := ih (S.obj i) h S2 (fun id hid => hrd id (by simp only [T.log, List.mem_cons]; exact .inr hid)) h1 h2
  exact ⟨S2', by simp only [T.run]; rw [← hi]; exact e1, e2, e3, e4⟩
 | put i o k ih =>
  intro S S' r h S2 hrd h1 h2;obtain ⟨S2', e1, e2, e3, e4⟩ := ih h (S2.set i o) (fun id hid => by
   rw [set_obj, set_obj];split
   ·rfl
   ·exact hrd id hid) h1 h2
  refine ⟨S2', e1, e2, e3, fun id => ?_⟩;rw [e4 id];simp only [T.log, List.mem_cons];by_cases hid : id ∈ (k.log (S.set i o)).2
  ·rw [if_pos hid, if_pos (.inr hid)]
  ·rw [if_neg hid, set_obj];by_cases hi : id = i
   ·rw [if_pos hi, if_pos (.inl hi), T.writes k h id hid, set_obj, if_pos hi]
   ·rw [if_neg hi, if_neg (by simp [hi, hid])]
 | new o k ih =>
  intro S S' r h S2 hrd h1 h2;obtain ⟨S2', e1, e2, e3, e4⟩ := ih S.next h (S2.alloc o) (fun id hid => by
   simp only [St.alloc];rw [h1];split
   ·rfl
   ·exact hrd id hid) (by simp [St.alloc, h1]) h2
  refine ⟨S2', by simp only [T.run]; rw [← h1]; exact e1, e2, e3, fun id => ?_⟩
  rw [e4 id];simp only [T.log, List.mem_cons];by_cases hid : id ∈ ((k S.next).log (S.alloc o)).2
  ·rw [if_pos hid, if_pos (.inr hid)]
  ·rw [if_neg hid];by_cases hi : id = S.next
   ·rw [if_pos (.inl hi), T.writes (k S.next) h id hid];simp only [St.alloc];rw [if_pos hi, if_pos (by omega)]
   ·rw [if_neg (by simp [hi, hid])]
    simp only [St.alloc];rw [if_neg (by omega)]
 | tick k ih =>
  intro S S' r h S2 hrd h1 h2;obtain ⟨S2', e1, e2, e3, e4⟩ := ih S.clk h S2.tick hrd h1 (by simp [St.tick, h2])
  exact ⟨S2', by simp only [T.run]; rw [← h2]; exact e1, e2, e3, e4⟩
 | leak k ih =>
  intro S S' r h S2 hrd h1 h2;exact ih h S2.leak hrd h1 h2
theorem Rel.congr (h : ∀ id, S'.obj id = S.obj id) (hr : Rel w G S) : Rel w G S' := ⟨hr.wf, fun id => by rw [h id]; exact hr.obj id⟩
theorem Rel.same {w0 : World} (hw : w0.heap = w.heap ∧ w0.os = w.os ∧ w0.tape = w.tape ∧ w0.output = w.output) (hr : Rel w G S) : Rel w0 G S ∧ Ext w G w0 G := by
 obtain ⟨h0, h1, h2, h3⟩ := hw;have he : Ext w G w0 G := ⟨by rw [h0]; exact Nat.le_refl _, h1, h2, h3, fun b _ _ _ => by rw [h0], fun b _ c e f hh => ⟨f, by rw [h0]; exact hh⟩, fun _ h => h, fun _ h => h, fun _ h => ⟨h, rfl, rfl, rfl⟩, fun _ _ h => h, fun _ _ h => .inl h, fun _ _ h => h⟩
 exact ⟨⟨⟨fun b l h => by rw [h0]; exact hr.wf.own b l h, fun b h => by rw [h0]; exact hr.wf.st b h, hr.wf.lt, hr.wf.max⟩,
  fun id => (hr.obj id).keep hr.wf he (X := fun _ => False) (fun b l h _ => ⟨by rw [h0], h⟩) (fun _ _ h => h)⟩, he⟩
section
variable (e0 : Env) (dst : Nat → Option Tmp) (r : Nat → LV)
def mergeE (p : Nat → Bool) : Nat → Env
 | 0 => e0
 | k + 1 => if p k then setD (mergeE p k) (dst k) (r k) else mergeE p k
variable {e0 dst r}
theorem setD_at {e : Env} {d : Option Tmp} {v : LV} {t : Nat} : setD e d v t = if d = some t then v else e t := by
 cases d with
 | none => simp [setD]
 | some d =>
  simp only [setD, Env.set, Option.some.injEq];by_cases h : t = d
  ·rw [if_pos h, if_pos h.symm]
  ·rw [if_neg h, if_neg (Ne.symm h)]
theorem mergeE_none {p : Nat → Bool} {t : Nat} : ∀ {k : Nat}, (∀ i, i < k → p i = true → dst i ≠ some t) → mergeE e0 dst r p k t = e0 t := by
 intro k
 induction k with
 | zero => intro _; rfl
 | succ k ih =>
  intro h;simp only [mergeE];split
  ·rename_i hp;rw [setD_at, if_neg (h k (by omega) hp)]
   exact ih fun i hi => h i (by omega)
  ·exact ih fun i hi => h i (by omega)
theorem mergeE_some {p : Nat → Bool} {t j : Nat} (hj : p j = true) (hd : dst j = some t) : ∀ {k : Nat}, j < k → (∀ i, i < k → i ≠ j → dst i ≠ some t) → mergeE e0 dst r p k t = r j := by
 intro k
 induction k with
 | zero => intro h; omega
 | succ k ih =>
  intro hk h;simp only [mergeE];by_cases hkj : k = j
  ·subst hkj;rw [if_pos hj, setD_at, if_pos hd]
  ·have := ih (by omega) fun i hi => h i (by omega)
   split
   ·rw [setD_at, if_neg (h k (by omega) hkj)]; exact this
   ·exact this
end
section
variable (o0 : Nat → Obj) (wr : Nat → List Nat) (z : Nat → Nat → Obj)
def mergeS (p : Nat → Bool) : Nat → Nat → Obj
 | 0 => o0
 | k + 1 => fun id => if p k = true ∧ id ∈ wr k then z k id else mergeS p k id
variable {o0 wr z}
theorem mergeS_congr {p q : Nat → Bool} {id : Nat} : ∀ {k : Nat}, (∀ i, i < k → id ∈ wr i → p i = q i) → mergeS o0 wr z p k id = mergeS o0 wr z q k id := by
 intro k
 induction k with
 | zero => intro _; rfl
 | succ k ih =>
  intro h;simp only [mergeS];by_cases hk : id ∈ wr k
  ·rw [h k (by omega) hk, ih fun i hi => h i (by omega)]
  ·rw [if_neg (fun x => hk x.2), if_neg (fun x => hk x.2)];exact ih fun i hi => h i (by omega)
theorem mergeS_cut {p : Nat → Bool} {id j : Nat} : ∀ {k : Nat}, j ≤ k → (∀ i, j ≤ i → i < k → id ∈ wr i → p i = false) → mergeS o0 wr z p k id = mergeS o0 wr z p j id := by
 intro k
 induction k with
 | zero =>
  intro h _;have : j = 0 := by omega
  subst this; rfl
 | succ k ih =>
  intro hk h;by_cases hj : j = k + 1
  ·subst hj; rfl
  ·simp only [mergeS];rw [if_neg (fun x => by have := h k (by omega) (by omega) x.2; rw [this] at x; cases x.1)]
   exact ih (by omega) fun i h1 h2 => h i h1 (by omega)
end
end Go.VM
end
section
namespace Go.VM
open Go.RowKit
variable {w w' w1 w2 : World} {G G' G1 G2 : Gh} {S S' S1 S2 : St} {P : Program}
def startD (nx ck i : Nat) (S : St) : St := ⟨S.obj, nx + 100 * i, ck + 100 * i, S.esc⟩
structure Trace (cfg : Cfg) (V : FuncId → List D → Res LV) (Sh : FuncId → List LV → St → Res (LV × St)) (nx ck i0 : Nat) (os : List SOp) (e : Env) (S : St) (e' : Env) (S' : St) (E : Nat → Env) (Z : Nat → St) (r : Nat → LV) (b : Nat → Bool) (rd wr : Nat → List Nat) : Prop where
 e0 : E 0 = e
 z0 : Z 0 = S
 en : E os.length = e'
 zn : Z os.length = S'
 step : ∀ (k : Nat) (o : SOp), os[k]? = some o → wants (E k) o.guard = some (b k) ∧ E (k + 1) = setD (E k) o.dst (r k) ∧
  (b k = true → (stepD cfg V Sh (E k) o.op).run (startD nx ck (i0 + k) (Z k)) = .ok (r k, Z (k + 1)) ∧ (Z (k + 1)).next ≤ nx + 100 * (i0 + k) + 100 ∧ (Z (k + 1)).clk ≤ ck + 100 * (i0 + k) + 100 ∧
   rd k = ((stepD cfg V Sh (E k) o.op).log (startD nx ck (i0 + k) (Z k))).1 ∧ wr k = ((stepD cfg V Sh (E k) o.op).log (startD nx ck (i0 + k) (Z k))).2) ∧
  (b k = false → r k = .tup [] ∧ Z (k + 1) = Z k ∧ rd k = [] ∧ wr k = [])
def shift {α : Type} (a : α) (f : Nat → α) : Nat → α
 | 0 => a
 | k + 1 => f k
theorem popsD_trace {cfg : Cfg} {V : FuncId → List D → Res LV} {Sh : FuncId → List LV → St → Res (LV × St)} {nx ck : Nat} {bef : List (List Nat)} : ∀ (os : List SOp) (i0 : Nat) (e : Env) (S : St) (L : List Log) (e' : Env) (S' : St) (L' : List Log),
  popsD cfg V Sh nx ck i0 os e S L = .ok (e', S', L') → indep bef L' → ∃ E Z r b rd wr, Trace cfg V Sh nx ck i0 os e S e' S' E Z r b rd wr ∧ indep bef L ∧
   (∀ j, j < os.length → b j = true → ∀ a ∈ L, a.at_ ∈ bef.getD (i0 + j) [] ∨ ¬ a.clash ⟨i0 + j, rd j, wr j⟩) ∧
   (∀ i j, i < j → j < os.length → b i = true → b j = true → i0 + i ∈ bef.getD (i0 + j) [] ∨ ¬ Log.clash ⟨i0 + i, rd i, wr i⟩ ⟨i0 + j, rd j, wr j⟩) := by
 intro os
 induction os with
 | nil =>
  intro i0 e S L e' S' L' h hi
  cases h
  exact ⟨fun _ => e, fun _ => S, fun _ => .tup [], fun _ => false, fun _ => [], fun _ => [], ⟨rfl, rfl, rfl, rfl, fun k o h => by simp at h⟩, hi, fun j h => by simp at h, fun i j _ h => by simp at h⟩
 | cons o os ih =>
  intro i0 e S L e' S' L' h hi;simp only [popsD] at h
  cases hw : wants e o.guard with
  | none => rw [hw] at h; cases h
  | some bb =>
   rw [hw] at h
   cases bb with
   | false =>
    simp only at h;obtain ⟨E, Z, r, b, rd, wr, ht, h1, h2, h3⟩ := ih (i0 + 1) _ _ _ _ _ _ h hi;refine ⟨shift e E, shift S Z, shift (.tup []) r, shift false b, shift [] rd, shift [] wr, ⟨rfl, rfl, ht.en, ht.zn, ?_⟩, h1, ?_, ?_⟩
    ·intro k o' ho
     cases k with
     | zero =>
      simp at ho; subst ho;exact ⟨hw, ht.e0, fun h => by simp [shift] at h, fun _ => ⟨rfl, ht.z0, rfl, rfl⟩⟩
     | succ k =>
      have := ht.step k o' (by simpa using ho)
      rw [show i0 + 1 + k = i0 + (k + 1) from by omega] at this
      exact this
    ·intro j hj hb a ha
     cases j with
     | zero => simp [shift] at hb
     | succ j =>
      have := h2 j (by simpa using hj) hb a ha
      rw [show i0 + 1 + j = i0 + (j + 1) from by omega] at this
      exact this
    ·intro i j hij hj hbi hbj
     cases i with
     | zero => simp [shift] at hbi
     | succ i =>
      cases j with
      | zero => omega
      | succ j =>
       have := h3 i j (by omega) (by simpa using hj) hbi hbj
       rw [show i0 + 1 + j = i0 + (j + 1) from by omega, show i0 + 1 + i = i0 + (i + 1) from by omega] at this
       exact this
   | true =>
    simp only at h
    cases hr : (stepD cfg V Sh e o.op).run ⟨S.obj, nx + 100 * i0, ck + 100 * i0, S.esc⟩ with
    | no => rw [hr] at h; cases h
    | vac => rw [hr] at h; cases h
    | ok q =>
     obtain ⟨q, S1⟩ := q;rw [hr] at h;simp only [Res.bind] at h;split at h
     case isFalse => cases h
     rename_i hroom;obtain ⟨E, Z, r, b, rd, wr, ht, h1, h2, h3⟩ := ih (i0 + 1) _ _ _ _ _ _ h hi;simp only [indep] at h1;refine ⟨shift e E, shift S Z, shift q r, shift true b, shift ((stepD cfg V Sh e o.op).log (startD nx ck i0 S)).1 rd, shift ((stepD cfg V Sh e o.op).log (startD nx ck i0 S)).2 wr, ⟨rfl, rfl, ht.en, ht.zn, ?_⟩, h1.2, ?_, ?_⟩
     ·intro k o' ho
      cases k with
      | zero =>
       simp at ho; subst ho;refine ⟨hw, ht.e0, fun _ => ⟨?_, ?_, ?_, rfl, rfl⟩, fun h => by simp [shift] at h⟩
       ·show (stepD cfg V Sh e o.op).run (startD nx ck (i0 + 0) S) = .ok (q, Z 0);rw [ht.z0]; exact hr
       ·show (Z 0).next ≤ _;rw [ht.z0]; exact hroom.1
       ·show (Z 0).clk ≤ _;rw [ht.z0]; exact hroom.2
      | succ k =>
       have := ht.step k o' (by simpa using ho)
       rw [show i0 + 1 + k = i0 + (k + 1) from by omega] at this
       exact this
     ·intro j hj hb a ha
      cases j with
      | zero => exact h1.1 a ha
      | succ j =>
       have := h2 j (by simpa using hj) hb a (by simp [ha])
       rw [show i0 + 1 + j = i0 + (j + 1) from by omega] at this
       exact this
     ·intro i j hij hj hbi hbj
      cases j with
      | zero => omega
      | succ j =>
       cases i with
       | zero =>
        have := h2 j (by simpa using hj) hbj _ (List.mem_cons_self ..)
        rw [show i0 + 1 + j = i0 + (j + 1) from by omega] at this
        exact this
       | succ i =>
        have := h3 i j (by omega) (by simpa using hj) hbi hbj
        rw [show i0 + 1 + j = i0 + (j + 1) from by omega, show i0 + 1 + i = i0 + (i + 1) from by omega] at this
        exact this
theorem Trace.merge {cfg : Cfg} {V : FuncId → List D → Res LV} {Sh : FuncId → List LV → St → Res (LV × St)} {nx ck : Nat} {os : List SOp} {e e' : Env} {S S' : St} {E : Nat → Env} {Z : Nat → St} {r : Nat → LV} {b : Nat → Bool} {rd wr : Nat → List Nat}
  (h : Trace cfg V Sh nx ck 0 os e S e' S' E Z r b rd wr) : ∀ k, k ≤ os.length → E k = mergeE e (fun i => (os[i]?).bind (·.dst)) r (fun _ => true) k ∧ ∀ id, (Z k).obj id = mergeS S.obj wr (fun i => (Z (i + 1)).obj) (fun _ => true) k id := by
 intro k
 induction k with
 | zero => intro _; exact ⟨h.e0, fun id => by rw [h.z0]; rfl⟩
 | succ k ih =>
  intro hk;obtain ⟨h1, h2⟩ := ih (by omega)
  have ho : os[k]? = some (os[k]'(by omega)) := List.getElem?_eq_getElem (by omega)
  obtain ⟨s1, s2, s3, s4⟩ := h.step k _ ho;refine ⟨?_, fun id => ?_⟩
  ·simp only [mergeE, if_true, ho, Option.bind_some];rw [← h1]; exact s2
  ·simp only [mergeS, true_and];split
   ·rfl
   ·rename_i hid;rw [← h2 id]
    cases hb : b k with
    | true =>
     obtain ⟨t1, _, _, _, t5⟩ := s3 hb;rw [T.writes _ t1 id (by rw [← t5]; exact hid)]; rfl
    | false => rw [(s4 hb).2.1]
theorem stepD_congr {cfg : Cfg} {V : FuncId → List D → Res LV} {Sh : FuncId → List LV → St → Res (LV × St)} {e e' : Env} {op : Op} (h : ∀ x ∈ op.operands, Operand.lv e x = Operand.lv e' x) : stepD cfg V Sh e op = stepD cfg V Sh e' op := by
 have pairs : ∀ ps : Array (Nat × Operand), (∀ x ∈ ps.map (·.2), Operand.lv e x = Operand.lv e' x) →
   (ps.toList.map fun p => (p.1, Operand.lv e p.2)) = (ps.toList.map fun p => (p.1, Operand.lv e' p.2)) := fun ps hp =>
  List.map_congr_left fun p hm => by
   obtain ⟨i, x⟩ := p;simp only [hp x (Array.mem_map.2 ⟨(i, x), by simpa using hm, rfl⟩)]
 have args : ∀ l : Array Operand, (∀ x ∈ l, Operand.lv e x = Operand.lv e' x) → l.toList.map (Operand.lv e) = l.toList.map (Operand.lv e') := fun l hl =>
  List.map_congr_left fun x hx => hl x (by simpa using hx)
 unfold stepD
 cases op <;> simp only [Op.operands] at h <;> simp only [callee, stepT]
 case build t ps => rw [pairs ps fun x hx => h x (by simpa using hx)]
 case buildSlice t n ps => rw [pairs ps fun x hx => h x (by simpa using hx)]
 case makeFunc fn first captured =>
  have hc := args captured fun x hx => h x (by simp [hx])
  cases fn <;> simp only [hc]
 case makeMap t r => cases r <;> rfl
 case slice t x lo hi mx => cases lo <;> cases hi <;> cases mx <;> simp_all
 case call c =>
  obtain ⟨cal, ao, ts⟩ := c;have hargs := args ao fun x hx => h x (by simp [Call.operands, hx])
  cases cal with
  | value f =>
   have hf : Operand.lv e f = Operand.lv e' f := h f (by simp [Call.operands])
   simp only [hf, hargs]
  | builtin b => simp only [hargs]
  | invoke x n => rfl
 all_goals (first | rfl | (simp_all; done))
end Go.VM
end
section
namespace Go.VM
open Go.RowKit
variable {w w' w1 w2 : World} {G G' G1 G2 : Gh} {S S' S1 S2 : St} {P : Program}
theorem edges_mem {o : Oper} {k : Nat} : k ∈ edges o ↔ ∃ ed ∈ o.after, Region.binds .any ed = true ∧ ed.on = k := by
 unfold edges;simp only [List.mem_map, List.mem_filter, Array.mem_toList_iff];constructor
 ·rintro ⟨ed, ⟨h1, h2⟩, h3⟩; exact ⟨ed, h1, h2, h3⟩
 ·rintro ⟨ed, h1, h2, h3⟩; exact ⟨ed, ⟨h1, h2⟩, h3⟩
theorem befs_closed {p : Nat → Prop} : ∀ (os : List Oper) (acc : List (List Nat)), (∀ i, ∀ k ∈ acc.getD i [], p i → p k) → (∀ i o, os[i]? = some o → p (acc.length + i) → ∀ k ∈ edges o, p k) →
  ∀ i, ∀ k ∈ (befs os acc).getD i [], p i → p k := by
 intro os
 induction os with
 | nil => intro acc h _; exact h
 | cons o os ih =>
  intro acc h1 h2;simp only [befs];refine ih _ (fun i k hk hp => ?_) (fun i o' ho hp => ?_)
  ·simp only [List.getD, List.getElem?_append] at hk;split at hk
   ·exact h1 i k (by simpa [List.getD] using hk) hp
   ·rename_i hi;by_cases hi2 : i = acc.length
    ·subst hi2;simp at hk;obtain ⟨a, ha, hk⟩ := hk;have hpa := h2 0 o rfl hp a ha;rcases hk with rfl | hk
     ·exact hpa
     ·exact h1 a k (by simpa [List.getD] using hk) hpa
    ·have : i - acc.length ≠ 0 := by omega
     obtain ⟨m, hm⟩ := Nat.exists_eq_succ_of_ne_zero this;rw [hm] at hk;simp at hk
  ·simp only [List.length_append, List.length_cons, List.length_nil] at hp;exact h2 (i + 1) o' (by simpa using ho) (by rw [show acc.length + (i + 1) = acc.length + (0 + 1) + i from by omega]; exact hp)
theorem okDraw_spec {ops : List Oper} (h : okDraw ops = true) : (∀ (j : Nat) (o : Oper), ops[j]? = some o → ∀ k ∈ edges o, k < j) ∧
  ∀ (i j : Nat) (oi oj : Oper), ops[i]? = some oi → ops[j]? = some oj → okPair ops (befs ops []) i j oi oj = true := by
 have key : ∀ (j : Nat) (o : Oper), ops[j]? = some o → (edges o).all (fun k => decide (k < j)) = true ∧ (ops.zipIdx.all fun p => okPair ops (befs ops []) p.2 j p.1 o) = true := by
  intro j o ho;unfold okDraw at h;rw [List.all_eq_true] at h;have := h (o, j) (by
   rw [List.mem_iff_getElem?];exact ⟨j, by rw [List.getElem?_zipIdx, ho]; simp⟩)
  simp only [Bool.and_eq_true] at this;exact ⟨this.1.2, this.2⟩
 refine ⟨fun j o ho k hk => ?_, fun i j oi oj hi hj => ?_⟩
 ·have := (key j o ho).1;rw [List.all_eq_true] at this;exact of_decide_eq_true (this k hk)
 ·have := (key j oj hj).2;rw [List.all_eq_true] at this;exact this (oi, i) (by
   rw [List.mem_iff_getElem?];exact ⟨i, by rw [List.getElem?_zipIdx, hi]; simp⟩)
theorem okPair_spec {ops : List Oper} {bef : List (List Nat)} {i j : Nat} {oi oj : Oper} (h : okPair ops bef i j oi oj = true) :
  (i ≠ j → ∀ d, oi.dst = some d → oj.dst ≠ some d) ∧ ∀ d, oi.dst = some d → d ∈ oj.looksAt ops.toArray → (i < j ∧ i ∈ bef.getD j []) ∨ (j < i ∧ j ∈ bef.getD i []) ∨ i = j := by
 unfold okPair at h;simp only [Bool.and_eq_true, Bool.or_eq_true, decide_eq_true_eq] at h;obtain ⟨h1, h2⟩ := h;refine ⟨fun hne d hd hd2 => ?_, fun d hd hm => ?_⟩
 ·rcases h1 with (h1 | h1) | h1
  ·exact hne h1
  ·rw [hd] at h1; cases h1
  ·rw [hd, hd2] at h1; simp at h1
 ·rw [hd] at h2;simp only [Bool.or_eq_true, Bool.and_eq_true, decide_eq_true_eq, Bool.not_eq_true'] at h2;rcases h2 with ((h2 | ⟨h2, h3⟩) | ⟨h2, h3⟩) | h2
  ·have : (oj.looksAt ops.toArray).contains d = true := by simpa using hm
   rw [this] at h2; cases h2
  ·exact .inl ⟨h2, by simpa using h3⟩
  ·exact .inr (.inl ⟨h2, by simpa using h3⟩)
  ·exact .inr (.inr h2)
def left (p : Nat → Bool) : Nat → Nat
 | 0 => 0
 | k + 1 => left p k + if p k then 0 else 1
theorem left_same {p q : Nat → Bool} : ∀ {n : Nat}, (∀ i, i < n → p i = q i) → left p n = left q n := by
 intro n
 induction n with
 | zero => intro _; rfl
 | succ n ih => intro h; simp only [left]; rw [h n (by omega), ih fun i hi => h i (by omega)]
theorem left_set {p q : Nat → Bool} {j : Nat} (hj : p j = false) (hq : q j = true) (h : ∀ i, i ≠ j → q i = p i) : ∀ {n : Nat}, j < n → left q n + 1 = left p n := by
 intro n
 induction n with
 | zero => intro h; omega
 | succ n ih =>
  intro hn;simp only [left];by_cases hjn : j = n
  ·subst hjn;rw [hj, hq, left_same (p := q) (q := p) fun i hi => h i (by omega)]
   simp
  ·rw [h n (by omega)]
   have := ih (by omega)
   omega
theorem left_zero {p : Nat → Bool} : ∀ {n : Nat}, left p n = 0 → ∀ i, i < n → p i = true := by
 intro n
 induction n with
 | zero => intro _ i hi; omega
 | succ n ih =>
  intro h i hi;simp only [left] at h;by_cases hin : i = n
  ·subst hin
   cases hp : p i with
   | true => rfl
   | false => rw [hp] at h; simp at h
  ·exact ih (by omega) i (by omega)
theorem least {p : Nat → Bool} : ∀ (n : Nat), (∃ i, i < n ∧ p i = false) → ∃ i, i < n ∧ p i = false ∧ ∀ k, k < i → p k = true := by
 intro n
 induction n with
 | zero => rintro ⟨i, hi, _⟩; omega
 | succ n ih =>
  rintro ⟨i, hi, hp⟩;by_cases h : ∃ i, i < n ∧ p i = false
  ·obtain ⟨k, h1, h2, h3⟩ := ih h;exact ⟨k, by omega, h2, h3⟩
  ·refine ⟨n, by omega, ?_, fun k hk => ?_⟩
   ·by_cases hin : i = n
    ·subst hin; exact hp
    ·exact absurd ⟨i, by omega, hp⟩ h
   ·cases hpk : p k with
    | true => rfl
    | false => exact absurd ⟨k, hk, hpk⟩ h
end Go.VM
end
section
namespace Go.VM
open Go.RowKit
variable {w w' w1 w2 : World} {G G' G1 G2 : Gh} {S S' S1 S2 : St} {P : Program}
theorem mergeE_congr {e0 : Env} {dst : Nat → Option Tmp} {r : Nat → LV} {p q : Nat → Bool} {t : Nat} : ∀ {k : Nat}, (∀ i, i < k → dst i = some t → p i = q i) → mergeE e0 dst r p k t = mergeE e0 dst r q k t := by
 intro k
 induction k with
 | zero => intro _; rfl
 | succ k ih =>
  intro h;have h1 := ih fun i hi => h i (by omega)
  simp only [mergeE];by_cases hd : dst k = some t
  ·rw [h k (by omega) hd]
   split
   ·rw [setD_at, setD_at, if_pos hd, if_pos hd]
   ·exact h1
  ·split <;> split <;> first | (rw [setD_at, setD_at, if_neg hd, if_neg hd]; exact h1) | (rw [setD_at, if_neg hd]; exact h1) | exact h1
def listedAt (l : Array Bool) (i : Nat) : Bool := l.getD i false
def inBlk (nx ck i : Nat) : Loc → Prop
 | .arr id => nx + 100 * i ≤ id ∧ id < nx + 100 * i + 100
 | .cell _ _ v => ck + 100 * i ≤ v ∧ v < ck + 100 * i + 100
section
variable (cfg : Cfg) (V : FuncId → List D → Res LV) (Sh : FuncId → List LV → St → Res (LV × St)) (ops : Array Oper) (n : Nat) (w : World) (G : Gh) (S : St) (e : Env) (a : Act) (Z : Nat → St) (r : Nat → LV) (wr : Nat → List Nat)
abbrev dstOf (i : Nat) : Option Tmp := ((ops.toList.map (sop ops.toList))[i]?).bind (·.dst)
structure Inv (listed : Array Bool) (a' : Act) (w' : World) (G' : Gh) : Prop where
 size : listed.size = ops.size
 rel : Rel w' G' ⟨mergeS S.obj wr (fun i => (Z (i + 1)).obj) (listedAt listed) ops.size, 0, 0, false⟩
 env : EnvRel w' G' (mergeE e (dstOf ops) r (listedAt listed) ops.size) a'
 ext : Ext w G w' G'
 tsize : a'.tmps.size = a.tmps.size
 defers : a'.defers = a.defers
 dom : ∀ l, G'.dom l → G.dom l ∨ ∃ i, listedAt listed i = true ∧ inBlk S.next S.clk i l
 closed : ∀ (i : Nat) (o : Oper), ops[i]? = some o → listedAt listed i = true → ∀ k ∈ edges o, listedAt listed k = true
end
theorem listed_set {listed : Array Bool} {j i : Nat} (hj : j < listed.size) : listedAt (listed.setIfInBounds j true) i = if i = j then true else listedAt listed i := by
 unfold listedAt;by_cases h : i = j
 ·subst h; simp [hj]
 ·rw [if_neg h, getD_set_ne false (Ne.symm h)]
theorem sop_at {ops : Array Oper} {j : Nat} {o : Oper} (h : ops[j]? = some o) : (ops.toList.map (sop ops.toList))[j]? = some (sop ops.toList o) := by
 rw [List.getElem?_map, Array.getElem?_toList, h]; rfl
theorem dst_at {ops : Array Oper} {j : Nat} {o : Oper} (h : ops[j]? = some o) : dstOf ops j = o.dst := by
 unfold dstOf; rw [sop_at h]; rfl
theorem dst_inv {ops : Array Oper} {j t : Nat} (h : dstOf ops j = some t) : ∃ o, ops[j]? = some o ∧ o.dst = some t := by
 cases ho : ops[j]? with
 | none =>
  unfold dstOf at h;rw [List.getElem?_map, Array.getElem?_toList, ho] at h; cases h
 | some o => rw [dst_at ho] at h; exact ⟨o, rfl, h⟩
theorem inv_step {ro : Option Nat} {m : Nat} {cfg : Cfg} (hP : cfg.P = P) {V : FuncId → List D → Res LV} {Sh : FuncId → List LV → St → Res (LV × St)} (hV : VSound P V) (hSh : ShSound P cfg Sh) {ops : Array Oper} {n : Nat} (hok : okOps n ops.toList = true) (hd : okDraw ops.toList = true)
  (hf : Fresh G S) {e e' : Env} {a : Act} (hn : a.tmps.size = n) {E : Nat → Env} {Z : Nat → St} {r : Nat → LV} {b : Nat → Bool} {rd wr : Nat → List Nat}
  (ht : Trace cfg V Sh S.next S.clk 0 (ops.toList.map (sop ops.toList)) e S e' S' E Z r b rd wr)
  (hi : ∀ i j, i < j → j < ops.size → b i = true → b j = true → i ∈ (befs ops.toList []).getD j [] ∨ ¬ Log.clash ⟨i, rd i, wr i⟩ ⟨j, rd j, wr j⟩)
  {listed : Array Bool} {a1 : Act} (h : Inv ops w G S e a Z r wr listed a1 w1 G1) {j : Nat} (hj : j ∈ Region.ready .any ops listed) {Q : Exit → Act → World → Prop} {K : Act → World → Prop}
  (hK : ∀ a2 w2 G2, Inv ops w G S e a Z r wr (listed.setIfInBounds j true) a2 w2 G2 → K a2 w2) : wpOpIn (Fr ro) m P ops Q j K a1 w1 := by
 obtain ⟨hun, o, ho, hedges⟩ := mem_ready.1 hj;have hjn : j < ops.size := (Array.getElem?_eq_some_iff.1 ho).1;have hjl : j < listed.size := by rw [h.size]; exact hjn
 have hlj : listedAt listed j = false := by
  unfold listedAt;simp [hjl] at hun ⊢; exact hun
 obtain ⟨hfwd, hpair⟩ := okDraw_spec hd;have hpair' : ∀ (i k : Nat) (oi ok : Oper), ops[i]? = some oi → ops[k]? = some ok → (i ≠ k → ∀ d, oi.dst = some d → ok.dst ≠ some d) ∧ ∀ d, oi.dst = some d → d ∈ ok.looksAt ops → (i < k ∧ i ∈ (befs ops.toList []).getD k []) ∨ (k < i ∧ k ∈ (befs ops.toList []).getD i []) ∨ i = k := by
  intro i k oi ok h1 h2;exact okPair_spec (hpair i k oi ok (by simpa using h1) (by simpa using h2))
 have hclosed : ∀ i, ∀ k ∈ (befs ops.toList []).getD i [], listedAt listed i = true → listedAt listed k = true :=
  befs_closed (p := fun i => listedAt listed i = true) ops.toList [] (fun i k hk => by simp at hk) (fun i o' ho' hp k hk => h.closed i o' (by simpa using ho') (by simpa using hp) k hk)
 have hbefj : ∀ k ∈ (befs ops.toList []).getD j [], listedAt listed k = true := by
  have := befs_closed (p := fun i => i = j ∨ listedAt listed i = true) ops.toList [] (fun i k hk => by simp at hk) (fun i o' ho' hp k hk => by
   right;simp only [List.length_nil, Nat.zero_add] at hp;rcases hp with rfl | hp
   ·have : o' = o := by rw [Array.getElem?_toList, ho] at ho'; cases ho'; rfl
    subst this;obtain ⟨ed, h1, h2, rfl⟩ := edges_mem.1 hk;exact hedges ed h1 h2
   ·exact h.closed i o' (by simpa using ho') hp k hk) j
  intro k hk;have hfw : ∀ i, ∀ k ∈ (befs ops.toList []).getD i [], k < i := by
   have : ∀ (os : List Oper) (acc : List (List Nat)), (∀ i, ∀ k ∈ acc.getD i [], k < i) → (∀ i o, os[i]? = some o → ∀ k ∈ edges o, k < acc.length + i) → ∀ i, ∀ k ∈ (befs os acc).getD i [], k < i := by
    intro os
    induction os with
    | nil => intro acc h _; exact h
    | cons o os ih =>
     intro acc h1 h2;simp only [befs];refine ih _ (fun i k hk => ?_) (fun i o' ho k hk => ?_)
     ·simp only [List.getD, List.getElem?_append] at hk;split at hk
      ·exact h1 i k (by simpa [List.getD] using hk)
      ·rename_i hi;by_cases hi2 : i = acc.length
       ·subst hi2;simp at hk;obtain ⟨a, ha, hk⟩ := hk;have := h2 0 o rfl a ha;rcases hk with rfl | hk
        ·omega
        ·have := h1 a k (by simpa [List.getD] using hk); omega
       ·have : i - acc.length ≠ 0 := by omega
        obtain ⟨m, hm⟩ := Nat.exists_eq_succ_of_ne_zero this;rw [hm] at hk;simp at hk
     ·have := h2 (i + 1) o' (by simpa using ho) k hk
      simp only [List.length_append, List.length_cons, List.length_nil]; omega
   exact this ops.toList [] (fun i k hk => by simp at hk) (fun i o ho k hk => by simpa using hfwd i o ho k hk)
  rcases this k hk (.inl rfl) with h1 | h1
  ·have := hfw j k hk; omega
  ·exact h1
 obtain ⟨s1, s2, s3, s4⟩ := ht.step j _ (sop_at ho);obtain ⟨m1, m2⟩ := ht.merge j (by simp; omega)
 have hdst : ∀ d, o.dst = some d → d < a1.tmps.size := by
  intro d hdd;simp only [okOps, List.all_eq_true] at hok;have := hok o (by simpa using Array.mem_of_getElem? ho)
  rw [hdd] at this;simp only [decide_eq_true_eq] at this;exact Nat.lt_of_lt_of_eq this (hn.symm.trans h.tsize.symm)
 have hE : ∀ t, t ∈ o.looksAt ops → mergeE e (dstOf ops) r (listedAt listed) ops.size t = E j t := by
  intro t htl;rw [m1];show _ = mergeE e (dstOf ops) r (fun _ => true) j t;by_cases hex : ∃ i, i < ops.size ∧ dstOf ops i = some t
  ·obtain ⟨i, hin, hdi⟩ := hex;obtain ⟨oi, hoi, hdi'⟩ := dst_inv hdi;have huniq : ∀ k, k ≠ i → dstOf ops k ≠ some t := by
    intro k hk hdk;obtain ⟨ok, hok', hdk'⟩ := dst_inv hdk;exact (hpair' k i ok oi hok' hoi).1 hk t hdk' hdi'
   rcases (hpair' i j oi o hoi ho).2 t hdi' htl with ⟨hlt, hb⟩ | hold
   ·rw [mergeE_some (hbefj i hb) hdi hin fun k _ hk => huniq k hk, mergeE_some rfl hdi hlt fun k _ hk => huniq k hk]
   ·have hge : j ≤ i := by rcases hold with ⟨h1, _⟩ | h1 <;> omega
    have hnl : listedAt listed i = false := by
     rcases hold with ⟨_, h2⟩ | h2
     ·cases hl : listedAt listed i with
      | false => rfl
      | true =>
       have := hclosed i j h2 hl;rw [hlj] at this; cases this
     ·rw [h2]; exact hlj
    rw [mergeE_none fun k _ hl hdk => ?_, mergeE_none fun k hk _ hdk => ?_]
    ·by_cases hki : k = i
     ·omega
     ·exact huniq k hki hdk
    ·by_cases hki : k = i
     ·subst hki; rw [hnl] at hl; cases hl
     ·exact huniq k hki hdk
  ·rw [mergeE_none fun i hi _ hdi => hex ⟨i, hi, hdi⟩, mergeE_none fun i hi _ hdi => hex ⟨i, by omega, hdi⟩]
 have hwants : wants (mergeE e (dstOf ops) r (listedAt listed) ops.size) (sop ops.toList o).guard = some (b j) := by
  rw [← s1];unfold sop
  cases hg : o.guard with
  | none => rfl
  | some g =>
   obtain ⟨g, want⟩ := g;simp only [Option.map_some]
   cases hdg : (ops.toList[g]?).bind (·.dst) with
   | none => rfl
   | some d =>
    simp only [wants];rw [hE d (by
     unfold Oper.looksAt;rw [hg];refine List.mem_append_right _ ?_;have : (ops[g]?).bind (·.dst) = some d := by simpa using hdg
     simp [this])]
 have hwanted := wants_ok h.env hwants;have hclosed2 : ∀ (i : Nat) (o' : Oper), ops[i]? = some o' → listedAt (listed.setIfInBounds j true) i = true → ∀ k ∈ edges o', listedAt (listed.setIfInBounds j true) k = true := by
  intro i o' ho' hl k hk;rw [listed_set hjl] at hl ⊢;split
  ·rfl
  ·split at hl
   ·rename_i hij;subst hij;rw [ho] at ho'; cases ho';obtain ⟨ed, h1, h2, rfl⟩ := edges_mem.1 hk;exact hedges ed h1 h2
   ·exact h.closed i o' ho' hl k hk
 have hmE : mergeE e (dstOf ops) r (listedAt (listed.setIfInBounds j true)) ops.size = setD (mergeE e (dstOf ops) r (listedAt listed) ops.size) o.dst (r j) := by
  funext t;rw [setD_at];split
  ·rename_i hdt;have hdj : dstOf ops j = some t := by rw [dst_at ho]; exact hdt
   refine mergeE_some (by rw [listed_set hjl, if_pos rfl]) hdj hjn fun k _ hk hdk => ?_
   obtain ⟨ok, hok', hdk'⟩ := dst_inv hdk;exact (hpair' k j ok o hok' ho).1 hk t hdk' hdt
  ·rename_i hdt;refine mergeE_congr fun i _ hdi => ?_;rw [listed_set hjl, if_neg];intro hij; subst hij;rw [dst_at ho] at hdi; exact hdt hdi
 have hdomOld : ∀ l, G1.dom l → G.dom l ∨ ∃ i, listedAt (listed.setIfInBounds j true) i = true ∧ inBlk S.next S.clk i l := by
  intro l hl;rcases h.dom l hl with h1 | ⟨i, h1, h2⟩
  ·exact .inl h1
  ·refine .inr ⟨i, ?_, h2⟩;rw [listed_set hjl]; split
   ·rfl
   ·exact h1
 unfold wpOpIn;rw [ho];simp only [hwanted]
 cases hbj : b j with
 | false =>
  simp only [Bool.false_eq_true, if_false];obtain ⟨t1, t2, t3, t4⟩ := s4 hbj;refine ⟨fun _ _ => trivial, ?_⟩;refine hK _ w1 G1 ⟨by simpa using h.size, h.rel.congr fun id => ?_, ?_, h.ext, (put_size _ _ _).1.trans h.tsize, (put_size _ _ _).2.trans h.defers, hdomOld, hclosed2⟩
  ·refine mergeS_congr fun i _ hid => ?_;rw [listed_set hjl, if_neg];intro hij; subst hij;rw [t4] at hid; cases hid
  ·rw [hmE, t1];exact h.env.put hdst LVRel.skipped
 | true =>
  simp only [if_true];obtain ⟨t1, t2, t3, t4, t5⟩ := s3 hbj;have hclash : ∀ i, i < ops.size → i ≠ j → (∃ id, id ∈ wr i ∧ (id ∈ rd j ∨ id ∈ wr j)) → (i < j → listedAt listed i = true) ∧ (j < i → listedAt listed i = false) := by
   intro i hin hij ⟨id, h1, h2⟩;have hbi : b i = true := by
    cases hbi : b i with
    | true => rfl
    | false =>
     have hoi : ops[i]? = some ops[i] := Array.getElem?_eq_getElem hin;have := ((ht.step i _ (sop_at hoi)).2.2.2 hbi).2.2.2;rw [this] at h1; cases h1
   refine ⟨fun hlt => ?_, fun hlt => ?_⟩
   ·rcases hi i j hlt hjn hbi hbj with hb | hc
    ·exact hbefj i hb
    ·refine absurd ?_ hc;rcases h2 with h2 | h2
     ·exact .inr (.inl ⟨id, h1, h2⟩)
     ·exact .inl ⟨id, h1, h2⟩
   ·cases hl : listedAt listed i with
    | false => rfl
    | true =>
     rcases hi j i hlt hin hbj hbi with hb | hc
     ·have := hclosed i j hb hl;rw [hlj] at this; cases this
     ·refine absurd ?_ hc;rcases h2 with h2 | h2
      ·exact .inr (.inr ⟨id, h2, h1⟩)
      ·exact .inl ⟨id, h2, h1⟩
  have hrd : ∀ id, id ∈ rd j → (Z j).obj id = mergeS S.obj wr (fun i => (Z (i + 1)).obj) (listedAt listed) ops.size id := by
   intro id hid;rw [m2 id];have e1 : mergeS S.obj wr (fun i => (Z (i + 1)).obj) (listedAt listed) ops.size id = mergeS S.obj wr (fun i => (Z (i + 1)).obj) (listedAt listed) j id := by
    refine mergeS_cut (by omega) fun i h1 h2 h3 => ?_
    by_cases hij : i = j
    ·subst hij; exact hlj
    ·exact (hclash i h2 hij ⟨id, h3, .inl hid⟩).2 (by omega)
   rw [e1];exact mergeS_congr fun i h1 h2 => ((hclash i (by omega) (by omega) ⟨id, h2, .inl hid⟩).1 h1).symm
  have hstep : stepD cfg V Sh (mergeE e (dstOf ops) r (listedAt listed) ops.size) o.op = stepD cfg V Sh (E j) o.op := by
   refine stepD_congr fun x hx => ?_
   cases x with
   | tmp t => exact hE t (List.mem_append_left _ (List.mem_filterMap.2 ⟨.tmp t, by simpa using hx, rfl⟩))
   | _ => rfl
  obtain ⟨S2', q1, q2, q3, q4⟩ := T.agree _ t1 (startD S.next S.clk j ⟨mergeS S.obj wr (fun i => (Z (i + 1)).obj) (listedAt listed) ops.size, 0, 0, false⟩) (fun id hid => by
   rw [← t4] at hid;exact hrd id hid) (by simp [startD]) (by simp [startD])
  have hrel0 : Rel w1 G1 (startD S.next S.clk j ⟨mergeS S.obj wr (fun i => (Z (i + 1)).obj) (listedAt listed) ops.size, 0, 0, false⟩) := ⟨h.rel.wf, h.rel.obj⟩;have hdo := (stepD_sound (cfg := cfg) hP hV hSh hrel0 h.env (o := o)).2 (r j) S2' (by rw [hstep]; exact q1) (by
   intro l hl hdl;rcases h.dom l hdl with h1 | ⟨i, h1, h2⟩
   ·have := hf l h1
    cases l <;> simp only [New, startD] at hl this <;> omega
   ·have hij : i ≠ j := by intro hij; subst hij; rw [hlj] at h1; cases h1
    cases l <;> simp only [New, startD, inBlk] at hl h2 <;> omega)
  refine hdo ro m K Q fun v w2 hh => ?_;obtain ⟨G2, k1, k2, k3, k4⟩ := hh;refine hK _ w2 G2 ⟨by simpa using h.size, k2.congr fun id => ?_, ?_, h.ext.trans k3, (put_size _ _ _).1.trans h.tsize, (put_size _ _ _).2.trans h.defers, ?_, hclosed2⟩
  ·rw [q4 id, ← t5];by_cases hid : id ∈ wr j
   ·rw [if_pos hid];show mergeS S.obj wr (fun i => (Z (i + 1)).obj) (listedAt (listed.setIfInBounds j true)) ops.size id = _;have e1 : mergeS S.obj wr (fun i => (Z (i + 1)).obj) (listedAt (listed.setIfInBounds j true)) ops.size id = mergeS S.obj wr (fun i => (Z (i + 1)).obj) (listedAt (listed.setIfInBounds j true)) (j + 1) id := by
     refine mergeS_cut (by omega) fun i h1 h2 h3 => ?_
     rw [listed_set hjl, if_neg (by omega)]
     exact (hclash i h2 (by omega) ⟨id, h3, .inr hid⟩).2 (by omega)
    rw [e1];simp only [mergeS];rw [if_pos ⟨by rw [listed_set hjl, if_pos rfl], hid⟩]
   ·rw [if_neg hid];refine mergeS_congr fun i _ h2 => ?_;rw [listed_set hjl, if_neg];intro hij; subst hij; exact hid h2
  ·rw [hmE];exact (h.env.ext h.rel.wf k3).put hdst k1
  ·intro l hl;rcases k4 l hl with h1 | h1
   ·exact hdomOld l h1
   ·refine .inr ⟨j, by rw [listed_set hjl, if_pos rfl], ?_⟩
    cases l <;> simp only [New, startD, inBlk] at h1 ⊢ <;> omega
theorem inv_all {ro : Option Nat} {m : Nat} {ops : Array Oper} {e : Env} {a : Act} {Z : Nat → St} {r : Nat → LV} {wr : Nat → List Nat} (hd : okDraw ops.toList = true)
  {Q : Exit → Act → World → Prop} (hstep : ∀ (listed : Array Bool) (a1 : Act) (w1 : World) (G1 : Gh) (j : Nat) (K : Act → World → Prop), Inv ops w G S e a Z r wr listed a1 w1 G1 → j ∈ Region.ready .any ops listed →
   (∀ a2 w2 G2, Inv ops w G S e a Z r wr (listed.setIfInBounds j true) a2 w2 G2 → K a2 w2) → wpOpIn (Fr ro) m P ops Q j K a1 w1)
  (hq : ∀ (listed : Array Bool) (a1 : Act) (w1 : World) (G1 : Gh), Inv ops w G S e a Z r wr listed a1 w1 G1 → (∀ i, i < ops.size → listedAt listed i = true) → Q .normal a1 w1) :
  ∀ (fuel : Nat) (listed : Array Bool) (a1 : Act) (w1 : World) (G1 : Gh), left (listedAt listed) ops.size = fuel → Inv ops w G S e a Z r wr listed a1 w1 G1 → wpAnyIn (Fr ro) m P .any ops Q fuel listed a1 w1 := by
 have hready : ∀ (listed : Array Bool) (a1 : Act) (w1 : World) (G1 : Gh), Inv ops w G S e a Z r wr listed a1 w1 G1 → Region.ready .any ops listed = [] → ∀ i, i < ops.size → listedAt listed i = true := by
  intro listed a1 w1 G1 h hr i hi
  cases hl : listedAt listed i with
  | true => rfl
  | false =>
   obtain ⟨j, h1, h2, h3⟩ := least (p := listedAt listed) ops.size ⟨i, hi, hl⟩;have ho : ops[j]? = some ops[j] := Array.getElem?_eq_getElem h1;have : j ∈ Region.ready .any ops listed := by
    refine mem_ready.2 ⟨?_, ops[j], ho, fun ed hed hb => ?_⟩
    ·unfold listedAt at h2;have hjl : j < listed.size := by rw [h.size]; exact h1
     simp [hjl] at h2 ⊢; exact h2
    ·have := (okDraw_spec hd).1 j ops[j] (by simp) ed.on (edges_mem.2 ⟨ed, hed, hb, rfl⟩)
     exact h3 ed.on this
   rw [hr] at this; cases this
 intro fuel
 induction fuel with
 | zero =>
  intro listed a1 w1 G1 hl h;have hall := left_zero hl;refine ⟨?_, hq listed a1 w1 G1 h hall⟩
  cases hr : Region.ready .any ops listed with
  | nil => rfl
  | cons j js =>
   obtain ⟨h1, o, ho, _⟩ := mem_ready.1 (show j ∈ Region.ready .any ops listed by rw [hr]; simp)
   have hjn : j < ops.size := (Array.getElem?_eq_some_iff.1 ho).1;have := hall j hjn;have hjl : j < listed.size := by rw [h.size]; exact hjn
   unfold listedAt at this;simp [hjl] at h1 this;rw [h1] at this; cases this
 | succ fuel ih =>
  intro listed a1 w1 G1 hl h;refine ⟨fun hr => hq listed a1 w1 G1 h (hready listed a1 w1 G1 h hr), fun j hj => ?_⟩;refine hstep listed a1 w1 G1 j _ h hj fun a2 w2 G2 h2 => ih _ a2 w2 G2 ?_ h2;obtain ⟨h1, o, ho, _⟩ := mem_ready.1 hj;have hjn : j < ops.size := (Array.getElem?_eq_some_iff.1 ho).1;have hjl : j < listed.size := by rw [h.size]; exact hjn
  have hlj : listedAt listed j = false := by
   unfold listedAt;simp [hjl] at h1 ⊢; exact h1
  have := left_set (p := listedAt listed) (q := listedAt (listed.setIfInBounds j true)) (j := j) hlj (by rw [listed_set hjl, if_pos rfl]) (fun i hi => by rw [listed_set hjl, if_neg hi]) hjn
  omega
theorem draw_sound {ro : Option Nat} {m : Nat} {cfg : Cfg} (hP : cfg.P = P) (hm : P.follows .mixedOrders = true) {V : FuncId → List D → Res LV} {Sh : FuncId → List LV → St → Res (LV × St)} (hV : VSound P V) (hSh : ShSound P cfg Sh) {ops : Array Oper} {n id : Nat} (hok : okOps n ops.toList = true) (hd : okDraw ops.toList = true)
  (hr : Rel w G S) (hf : Fresh G S) {e : Env} {a : Act} (he : EnvRel w G e a) (hn : a.tmps.size = n) {e' : Env} {L : List Log}
  (h : popsD cfg V Sh S.next S.clk 0 (ops.toList.map (sop ops.toList)) e S [] = .ok (e', S', L)) (hi : indep (befs ops.toList []) L) {Q : Exit → Act → World → Prop}
  (hq : ∀ w' G' a', After w G a e' ⟨S'.obj, S.next + 100 * ops.size, S.clk + 100 * ops.size, S'.esc⟩ w' G' a' → Q .normal a' w') : (Code.region id ops true).wpIn (Fr ro) m P Q a w := by
 obtain ⟨E, Z, r, b, rd, wr, ht, _, _, hpairs⟩ := popsD_trace _ _ _ _ _ _ _ _ h hi;have hlen : (ops.toList.map (sop ops.toList)).length = ops.size := by simp
 obtain ⟨hr1, he1⟩ := Rel.same (w := w) (w0 := w.drew) ⟨rfl, rfl, rfl, rfl⟩ hr;refine wpIn_region_any hm ?_;have hl0 : ∀ i, listedAt (Array.replicate ops.size false) i = false := by
  intro i;unfold listedAt;rcases Nat.lt_or_ge i ops.size with h | h
  ·simp [h]
  ·simp [h]
 refine inv_all (w := w) (G := G) (S := S) (e := e) (a := a) (Z := Z) (r := r) (wr := wr) hd (fun listed a1 w1 G1 j K hinv hj hK => ?_) (fun listed a1 w1 G1 hinv hall => ?_) ops.size _ a w.drew G ?_ ?_
 ·refine inv_step hP hV hSh hok hd hf hn ht (fun i j hij hj hbi hbj => ?_) hinv hj hK;have := hpairs i j hij (by rw [hlen]; exact hj) hbi hbj
  simpa using this
 ·obtain ⟨m1, m2⟩ := ht.merge ops.size (by rw [hlen]; exact Nat.le_refl _)
  have hEn : E ops.size = e' := by rw [← hlen]; exact ht.en
  have hZn : Z ops.size = S' := by rw [← hlen]; exact ht.zn
  refine hq w1 G1 a1 (.mk0 (hinv.rel.congr fun id => ?_) ?_ hinv.ext ?_ hinv.tsize hinv.defers)
  ·show S'.obj id = _;rw [← hZn, m2 id];exact mergeS_congr fun i hi _ => (hall i hi).symm
  ·intro t;have : e' t = mergeE e (dstOf ops) r (listedAt listed) ops.size t := by
    rw [← hEn, m1];exact mergeE_congr fun i hi _ => (hall i hi).symm
   rw [this];exact hinv.env t
  ·intro l hl;rcases hinv.dom l hl with h1 | ⟨i, h1, h2⟩
   ·have := hf l h1
    cases l <;> simp only at this ⊢ <;> omega
   ·have hin : i < ops.size := by
     rcases Nat.lt_or_ge i ops.size with h | h
     ·exact h
     ·unfold listedAt at h1;rw [← hinv.size] at h;simp [Array.getElem?_eq_none h] at h1
    cases l <;> simp only [inBlk] at h2 ⊢ <;> omega
 ·have : ∀ k, left (listedAt (Array.replicate ops.size false)) k = k := by
   intro k
   induction k with
   | zero => rfl
   | succ k ih => simp only [left, ih, hl0]; simp
  exact this ops.size
 ·have hS0 : ∀ k id, mergeS S.obj wr (fun i => (Z (i + 1)).obj) (listedAt (Array.replicate ops.size false)) k id = S.obj id := by
   intro k id;exact (mergeS_cut (Nat.zero_le k) fun i _ _ _ => hl0 i).trans rfl
  refine ⟨by simp, hr1.congr fun id => hS0 _ id, ?_, he1, rfl, rfl, fun l hl => .inl hl, fun i o _ hl => ?_⟩
  ·intro t;rw [mergeE_none fun i _ hp => by rw [hl0] at hp; cases hp]
   exact (he.ext hr.wf he1) t
  ·rw [hl0] at hl; cases hl
end Go.VM
end
section
namespace Go.VM
open Go.RowKit
variable {w w' w1 w2 : World} {G G' G1 G2 : Gh} {S S' S1 S2 : St} {P : Program}
theorem set_loop (hr : Rel w G S) {id : Nat} {L : LoopO} {r r' : Loop} (ho : S.obj id = .loop L) (hh : w.heap[(G.addr (.arr id)).1]? = some (.loop r)) {o : Obj}
  (hO : Ext w G (w.putObj (G.addr (.arr id)).1 (.loop r')) G → ObjRel (w.putObj (G.addr (.arr id)).1 (.loop r')) G id o) :
  Rel (w.putObj (G.addr (.arr id)).1 (.loop r')) G (S.set id o) ∧ Ext w G (w.putObj (G.addr (.arr id)).1 (.loop r')) G := by
 have h0 := hr.obj id;rw [ho] at h0;obtain ⟨hd, hown, _⟩ := h0;have hst : ¬ G.St (G.addr (.arr id)).1 := (hr.wf.own _ _ hown).2;have hne : ∀ b, G.own b ≠ some (.arr id) → b ≠ (G.addr (.arr id)).1 := fun b hb e => hb (e ▸ hown);have he : Ext w G (w.putObj (G.addr (.arr id)).1 (.loop r')) G := by
  refine ⟨by rw [World.putObj_size]; exact Nat.le_refl _, rfl, rfl, rfl, fun b _ hb _ => World.putObj_heap_other (hne b (by rw [hb]; simp)), fun b hb c e f hc => ⟨f, ?_⟩, fun _ h => h, fun _ h => h, fun _ h => ⟨h, rfl, rfl, rfl⟩, fun _ _ h => h, fun _ _ h => .inl h, fun _ _ h => h⟩
  rw [World.putObj_heap_other (fun e => hst (by rw [← e]; exact hr.wf.lt b hb))]; exact hc
 have hk : Keep w G (w.putObj (G.addr (.arr id)).1 (.loop r')) G (fun k => k = .arr id) := fun b l hb hl => ⟨World.putObj_heap_other (hne b (by rw [hb]; simpa using hl)), hb⟩
 refine ⟨⟨⟨fun b l hb => by rw [World.putObj_size]; exact hr.wf.own b l hb, fun b hb => by rw [World.putObj_size]; exact hr.wf.st b hb, hr.wf.lt, hr.wf.max⟩, fun i => ?_⟩, he⟩
 simp only [set_obj];split
 ·rename_i e; subst e; exact hO he
 ·rename_i e;exact (hr.obj i).keep hr.wf he hk (fun l hl hx => e (by subst hx; exact hl.symm))
theorem Fresh.set (h : Fresh G S) {id : Nat} {o : Obj} : Fresh G (S.set id o) := h
theorem new_loop (hr : Rel w G S) (hf : Fresh G S) {r : Loop} {L : LoopO} (hL : ∀ w' G', Ext w G w' G' → LoopRel w' G' L r) :
  ∃ G2, Rel ((w.alloc (.deferred (some []))).alloc (.loop r)) G2 (S.alloc (.loop L)) ∧ Ext w G ((w.alloc (.deferred (some []))).alloc (.loop r)) G2 ∧ Fresh G2 (S.alloc (.loop L)) ∧
   G2.addr (.arr S.next) = (w.heap.size + 1, 0) ∧ G2.dom (.arr S.next) ∧ G2.own w.heap.size = none ∧ ¬ G2.St w.heap.size ∧
   ((w.alloc (.deferred (some []))).alloc (.loop r)).heap[w.heap.size]? = some (.deferred (some [])) := by
 obtain ⟨a1, a2⟩ := Ext.alloc (o := .deferred (some [])) (w := w) (G := G) (G' := G) (fun _ h => h) (fun _ h => h) (fun _ h => ⟨h, rfl, rfl, rfl⟩) (fun _ _ => rfl) (fun _ _ h => h) (fun _ _ h => h) hr.wf;have hr1 : Rel (w.alloc (.deferred (some []))) G S := by
  refine ⟨⟨fun b l hb => ?_, fun b hb => ?_, hr.wf.lt, hr.wf.max⟩, fun id => (hr.obj id).keep hr.wf a1 a2 (fun _ _ h => h)⟩
  ·have := hr.wf.own b l hb; rw [size_alloc]; exact ⟨by omega, this.2⟩
  ·have := hr.wf.st b hb; rw [size_alloc]; omega
 have hdn : ¬ G.dom (.arr S.next) := fun h => by have := hf _ h; simp only at this; omega
 obtain ⟨b1, b2, b3⟩ := gnew_ext (w := w.alloc (.deferred (some []))) (cap := 0) (sz := 0) hr1.wf hdn (by omega) (.loop r)
 have hsz : (w.alloc (.deferred (some []))).heap.size = w.heap.size + 1 := size_alloc _ _;have hne : w.heap.size ≠ (w.alloc (.deferred (some []))).heap.size := by omega
 refine ⟨gnew G (.arr S.next) (w.alloc (.deferred (some []))).heap.size 0 0, hr1.new b1 b2 b3 ?_, a1.trans b1, fun l hl => ?_, ?_, .inl rfl, ?_, ?_, ?_⟩
 ·refine ⟨.inl rfl, ?_, r, ?_, hL _ _ (a1.trans b1)⟩
  ·simp [gnew]
  ·have := heap_alloc_at (w.alloc (.deferred (some []))) (.loop r);simpa [gnew] using this
 ·rcases hl with rfl | hl
  ·simp [St.alloc]
  ·have := hf l hl
   cases l <;> simp only [St.alloc] at this ⊢ <;> omega
 ·simp [gnew, hsz]
 ·simp only [gnew, if_neg hne]
  cases ho : G.own w.heap.size with
  | none => rfl
  | some l => have := (hr.wf.own _ l ho).1; omega
 ·intro h;have := hr.wf.st _ h; omega
 ·rw [Below.heap_alloc _ _ _ (by omega)]; exact heap_alloc_at w _
theorem setPs_rel : ∀ (ps : List Tmp) (vs : List Value) (args : List LV) (e : Env) (tm : Array Value), (∀ i, LVRel w G (e i) (tm.getD i undef)) → (∀ p ∈ ps, p < tm.size) → ArgsRel w G args vs → vs.length = ps.length →
  (∀ i, LVRel w G (setPs e ps args i) (((ps.zip vs).foldl (fun t q => t.setIfInBounds q.1 q.2) tm).getD i undef)) ∧ ((ps.zip vs).foldl (fun (t : Array Value) q => t.setIfInBounds q.1 q.2) tm).size = tm.size := by
 intro ps
 induction ps with
 | nil =>
  intro vs args e tm h _ _ _;exact ⟨h, rfl⟩
 | cons p ps ih =>
  intro vs args e tm h hp ha hl
  cases vs with
  | nil => cases hl
  | cons v vs =>
   cases args with
   | nil => cases ha.1
   | cons c cs =>
    have hc := ha.2 0 c v rfl rfl;have hpl : p < tm.size := hp p (by simp)
    obtain ⟨h1, h2⟩ := ih vs cs (e.set p c) (tm.setIfInBounds p v) (EnvRel.set (a := { tmps := tm, defers := [] }) h hpl hc) (fun q hq => by simpa using hp q (by simp [hq])) ⟨by have := ha.1; simpa using this, fun i c v a b => ha.2 (i + 1) c v (by simpa using a) (by simpa using b)⟩ (by simpa using hl)
    exact ⟨h1, h2.trans (by simp)⟩
end Go.VM
end
section
namespace Go.VM
open Go.RowKit
variable {w w' w1 w2 : World} {G G' G1 G2 : Gh} {S S' S1 S2 : St} {P : Program}
theorem popsD_vac {cfg : Cfg} (hP : cfg.P = P) {V : FuncId → List D → Res LV} {Sh : FuncId → List LV → St → Res (LV × St)} (hV : VSound P V) (hSh : ShSound P cfg Sh) {n nx ck : Nat} {ops : List Oper} (hok : okOps n ops = true) :
  ∀ (os : List Oper) (i : Nat) (w : World) (G : Gh) (S : St) (e : Env) (a : Act) (L : List Log), (∀ o ∈ os, o ∈ ops) → Rel w G S → EnvRel w G e a → a.tmps.size = n →
   (∀ l, G.dom l → match l with | .arr id => id < nx + 100 * i | .cell _ _ v => v < ck + 100 * i) → popsD cfg V Sh nx ck i (os.map (sop ops)) e S L ≠ .vac := by
 intro os
 induction os with
 | nil => intro i w G S e a L _ _ _ _ _ h; cases h
 | cons o os ih =>
  intro i w G S e a L hos hr he hn hdom h;simp only [List.map_cons, popsD] at h;have hdst : ∀ d, o.dst = some d → d < a.tmps.size := by
   intro d hd;simp only [okOps, List.all_eq_true] at hok;have := hok o (hos o (by simp))
   rw [hd] at this;simp only [decide_eq_true_eq] at this;exact Nat.lt_of_lt_of_eq this hn.symm
  cases hw : wants e (sop ops o).guard with
  | none => rw [hw] at h; cases h
  | some b =>
   rw [hw] at h
   cases b with
   | false =>
    simp only at h;refine ih (i + 1) w G S _ (a.put o.dst undef) L (fun o ho => hos o (by simp [ho])) hr (he.put hdst LVRel.skipped) ((put_size _ _ _).1.trans hn) (fun l hl => ?_) h
    have := hdom l hl
    cases l <;> simp only at this ⊢ <;> omega
   | true =>
    simp only at h;obtain ⟨h1, h2⟩ := stepD_sound (cfg := cfg) hP hV hSh (⟨hr.wf, hr.obj⟩ : Rel w G (startD nx ck i S)) he (o := o)
    cases hs : (stepD cfg V Sh e o.op).run (startD nx ck i S) with
    | vac => exact h1 hs
    | no =>
     have : (stepD cfg V Sh e (sop ops o).op).run ⟨S.obj, nx + 100 * i, ck + 100 * i, S.esc⟩ = .no := hs;rw [this] at h; cases h
    | ok q =>
     obtain ⟨q, S1⟩ := q;have hs' : (stepD cfg V Sh e (sop ops o).op).run ⟨S.obj, nx + 100 * i, ck + 100 * i, S.esc⟩ = .ok (q, S1) := hs;rw [hs'] at h;simp only [Res.bind] at h;split at h
     case isFalse => cases h
     rename_i hroom;obtain ⟨v, w1, G1, k1, k2, k3, k4⟩ := (h2 q S1 hs (by
      intro l hl hdl;have := hdom l hdl
      cases l <;> simp only [New, startD] at hl this <;> omega)).some
     refine ih (i + 1) w1 G1 S1 _ (a.put o.dst v) _ (fun o ho => hos o (by simp [ho])) k2 ((he.ext hr.wf k3).put hdst k1) ((put_size _ _ _).1.trans hn) (fun l hl => ?_) h
     rcases k4 l hl with h3 | h3
     ·have := hdom l h3
      cases l <;> simp only at this ⊢ <;> omega
     ·cases l <;> simp only [New, startD] at h3 ⊢ <;> omega
def exOf : Ex → Exit
 | .normal => .normal
 | .exit id => .exit id
 | .ret => .ret
def CodeOk (P : Program) (top : Bool) (c : Code) (w : World) (G : Gh) (a : Act) (x : Ex) (e' : Env) (S' : St) : Prop :=
 ∀ (ro : Option Nat), (top = true → ro = none) → ∀ (m : Nat) (Q : Exit → Act → World → Prop), (∀ w' G' a', After w G a e' S' w' G' a' → Q (exOf x) a' w') → c.wpIn (Fr ro) m P Q a w
theorem code_const {c : Code} {a : Act} {X : Prop} (h : c.wpIn (Fr none) 0 P (fun _ _ _ => X) a w) : X := by
 obtain ⟨_, _, _, hx, _⟩ := h { (default : Frame) with roundOf := none } [] [] rfl trivial (fun d hd => by cases hd)
 exact hx
theorem CodeOk.some {top : Bool} {c : Code} {a : Act} {x : Ex} {e' : Env} (h : CodeOk P top c w G a x e' S') : ∃ w' G' a', After w G a e' S' w' G' a' :=
 code_const (h none (fun _ => rfl) 0 (fun _ _ _ => ∃ w' G' a', After w G a e' S' w' G' a') fun w' G' a' hA => ⟨w', G', a', hA⟩)
def Sound (P : Program) (top : Bool) (n : Nat) (c : Code) (f : Env → St → Res (Ex × Env × St)) : Prop :=
 ∀ (w : World) (G : Gh) (S : St) (e : Env) (a : Act), Rel w G S → Fresh G S → EnvRel w G e a → a.tmps.size = n → f e S ≠ .vac ∧ ∀ x e' S', f e S = .ok (x, e', S') → CodeOk P top c w G a x e' S'
theorem loop_sound {top : Bool} {n : Nat} {c : Code} {f : Env → St → Res (Ex × Env × St)} (hc : Sound P top n c f) : ∀ m : Nat, Sound P top n (.loop c) (loopN f m) := by
 have rounds : ∀ (m : Nat) (w : World) (G : Gh) (S : St) (e : Env) (a : Act), Rel w G S → Fresh G S → EnvRel w G e a → a.tmps.size = n →
   loopN f m e S ≠ .vac ∧ ∀ x e' S', loopN f m e S = .ok (x, e', S') → ∀ (ro : Option Nat), (top = true → ro = none) → ∀ (m2 : Nat) (Q : Exit → Act → World → Prop), (∀ w' G' a', After w G a e' S' w' G' a' → Q (exOf x) a' w') →
    ∀ (b : Frame) (k : List Item) (cs : List Frame), b.roundOf = (Fr ro).round → (Fr ro).fn b.fn → (Fr ro).room (cs.length + 1 + m2) → ∃ ex a' w', Q ex a' w' ∧ ArrivesIn (Machine.fenced P (Fr ro)) P (lone (b.atR a (.code c :: .inLoop c :: k)) cs w) b k cs ex a' w' := by
  intro m
  induction m with
  | zero => intro w G S e a _ _ _ _; exact ⟨(by intro h; cases h), fun x e' S' h => by cases h⟩
  | succ m ih =>
   intro w G S e a hr hf he hn;obtain ⟨h1, h2⟩ := hc w G S e a hr hf he hn;have hnext : ∀ e1 S1 w1 G1 a1, After w G a e1 S1 w1 G1 a1 → _ := fun e1 S1 w1 G1 a1 hA => ih w1 G1 S1 e1 a1 hA.rel hA.fresh hA.env (hA.size.trans hn);refine ⟨fun h => ?_, fun x e' S' h ro hro0 m2 Q hq b k cs hro hb hrm => ?_⟩
   ·rcases Res.bind_vac h with h | ⟨⟨x1, e1, S1⟩, h3, h4⟩
    ·exact h1 h
    ·obtain ⟨w1, G1, a1, hA⟩ := (h2 _ _ _ h3).some
     cases x1 with
     | normal => exact (hnext _ _ _ _ _ hA).1 h4
     | exit id => cases h4
     | ret => cases h4
   ·obtain ⟨⟨x1, e1, S1⟩, h3, h4⟩ := Res.bind_ok h;have hcode := h2 _ _ _ h3
    cases x1 with
    | normal =>
     obtain ⟨ex, a1, w1, ⟨G1, hA, hex⟩, harr⟩ := hcode ro hro0 m2 (fun ex a1 w1 => ∃ G1, After w G a e1 S1 w1 G1 a1 ∧ ex = .normal) (fun w1 G1 a1 hA => ⟨G1, hA, rfl⟩) b (.inLoop c :: k) cs hro hb hrm;subst hex;obtain ⟨ex2, a2, w2, hq2, harr2⟩ := (hnext _ _ _ _ _ hA).2 x e' S' h4 ro hro0 m2 Q (fun w' G' a' hA2 => hq w' G' a' (hA.trans hA2)) b k cs hro hb hrm;exact ⟨ex2, a2, w2, hq2, .of_steps (StepsIn.trans harr (.one (fenced_calm hb hrm rfl) stepR_inLoop)) harr2⟩
    | exit id =>
     obtain ⟨rfl, rfl, rfl⟩ : Ex.exit id = x ∧ e1 = e' ∧ S1 = S' := by cases h4; exact ⟨rfl, rfl, rfl⟩
     obtain ⟨ex, a1, w1, ⟨hq1, hex⟩, harr⟩ := hcode ro hro0 m2 (fun ex a1 w1 => Q ex a1 w1 ∧ ex = .exit id) (fun w1 G1 a1 hA => ⟨hq w1 G1 a1 hA, rfl⟩) b (.inLoop c :: k) cs hro hb hrm;subst hex;exact ⟨_, a1, w1, hq1, .pass (x := .inLoop c) rfl (fun _ _ => .inl (by simp)) harr⟩
    | ret =>
     obtain ⟨rfl, rfl, rfl⟩ : Ex.ret = x ∧ e1 = e' ∧ S1 = S' := by cases h4; exact ⟨rfl, rfl, rfl⟩
     obtain ⟨ex, a1, w1, ⟨hq1, hex⟩, harr⟩ := hcode ro hro0 m2 (fun ex a1 w1 => Q ex a1 w1 ∧ ex = .ret) (fun w1 G1 a1 hA => ⟨hq w1 G1 a1 hA, rfl⟩) b (.inLoop c :: k) cs hro hb hrm;subst hex;exact ⟨_, a1, w1, hq1, .pass (x := .inLoop c) rfl (fun _ _ => .inl (by simp)) harr⟩
 intro m w G S e a hr hf he hn;obtain ⟨h1, h2⟩ := rounds m w G S e a hr hf he hn;refine ⟨h1, fun x e' S' h ro hro0 m2 Q hq b k cs hro hb hrm => ?_⟩;obtain ⟨ex, a', w', hq', harr⟩ := h2 x e' S' h ro hro0 m2 Q hq b k cs hro hb hrm;exact ⟨ex, a', w', hq', .of_steps (.one (fenced_calm hb hrm rfl) stepR_loop) harr⟩
theorem code_sound {cfg : Cfg} (hP : cfg.P = P) (hm : P.follows .mixedOrders = true) {V : FuncId → List D → Res LV} {Sh : FuncId → List LV → St → Res (LV × St)} (hV : VSound P V) (hSh : ShSound P cfg Sh) (top : Bool) (m n : Nat) :
  ∀ c : Code, okCodeT top n c = true → Sound P top n c (pexec cfg V Sh m c) := by
 intro c
 induction c with
 | skip =>
  intro _ w G S e a hr hf he hn;refine ⟨(by intro h; cases h), fun x e' S' h ro hro0 m2 Q hq => ?_⟩
  cases h
  exact wpIn_skip (hq w G a (After.refl hr he hf))
 | exit id =>
  intro _ w G S e a hr hf he hn;refine ⟨(by intro h; cases h), fun x e' S' h ro hro0 m2 Q hq => ?_⟩
  cases h
  exact wpIn_exit (hq w G a (After.refl hr he hf))
 | ret =>
  intro _ w G S e a hr hf he hn;refine ⟨(by intro h; cases h), fun x e' S' h ro hro0 m2 Q hq => ?_⟩
  cases h
  exact wpIn_ret (hq w G a (After.refl hr he hf))
 | region id ops draw =>
  intro hk w G S e a hr hf he hn;simp only [okCodeT] at hk
  cases draw with
  | false =>
   have hmap : ops.toList.map (sop ops.toList) = (List.range ops.size).map fun i => sop ops.toList (ops.getD i default) := by
    apply List.ext_getElem?
    intro i;rw [List.getElem?_map, List.getElem?_map, Array.getElem?_toList];by_cases hi : i < ops.size
    ·simp [hi]
    ·simp [hi]
   obtain ⟨h1, h2⟩ := pops_sound hP hV hSh hk (List.range ops.size) w G S e a hr hf he hn (fun i hi => by simpa using hi)
   simp only [pexec, hmap];refine ⟨fun h => ?_, fun x e' S' h ro hro0 m2 Q hq => ?_⟩
   ·rcases Res.bind_vac h with h | ⟨q, _, h4⟩
    ·exact h1 h
    ·cases h4
   ·obtain ⟨q, h3, h4⟩ := Res.bind_ok h
    cases h4
    exact wpIn_region (h2 _ _ h3 ro m2 Q hq)
  | true =>
   simp only [pexec];refine ⟨fun h => ?_, fun x e' S' h ro hro0 m2 Q hq => ?_⟩
   ·rcases Res.bind_vac h with h | ⟨q, _, h4⟩
    ·refine popsD_vac hP hV hSh hk ops.toList 0 w G S e a [] (fun o h => h) hr he hn (fun l hl => ?_) h;have := hf l hl
     cases l <;> simp only at this ⊢ <;> omega
    ·split at h4 <;> cases h4
   ·obtain ⟨⟨e1, S1, L⟩, h3, h4⟩ := Res.bind_ok h;split at h4
    case isFalse => cases h4
    rename_i hcond
    cases h4
    exact draw_sound hP hm hV hSh hk hcond.1 hr hf he hn h3 hcond.2 hq
 | seq x y ihx ihy =>
  intro hk w G S e a hr hf he hn;simp only [okCodeT, Bool.and_eq_true] at hk;obtain ⟨h1, h2⟩ := ihx hk.1 w G S e a hr hf he hn;simp only [pexec];refine ⟨fun h => ?_, fun ex e' S' h ro hro0 m2 Q hq => ?_⟩
  ·rcases Res.bind_vac h with h | ⟨⟨x1, e1, S1⟩, h3, h4⟩
   ·exact h1 h
   ·obtain ⟨w1, G1, a1, hA⟩ := (h2 _ _ _ h3).some
    cases x1 with
    | normal => exact (ihy hk.2 w1 G1 S1 e1 a1 hA.rel hA.fresh hA.env (hA.size.trans hn)).1 h4
    | exit id => cases h4
    | ret => cases h4
  ·obtain ⟨⟨x1, e1, S1⟩, h3, h4⟩ := Res.bind_ok h;refine wpIn_seq (h2 _ _ _ h3 ro hro0 m2 _ fun w1 G1 a1 hA => ?_)
   cases x1 with
   | normal => exact (ihy hk.2 w1 G1 S1 e1 a1 hA.rel hA.fresh hA.env (hA.size.trans hn)).2 _ _ _ h4 ro hro0 m2 Q fun w' G' a' hA2 => hq w' G' a' (hA.trans hA2)
   | exit id => cases h4; exact hq w1 G1 a1 hA
   | ret => cases h4; exact hq w1 G1 a1 hA
 | cond c x y ihx ihy =>
  intro hk w G S e a hr hf he hn;simp only [okCodeT, Bool.and_eq_true] at hk;simp only [pexec];have hc := he.lv c;split
  ·rename_i t ht;rw [ht] at hc;have hcv : a.eval c = .bool t := by
    generalize a.eval c = v at hc
    cases hc with | d _ _ hx => cases hx; rfl
   cases t with
   | true =>
    obtain ⟨h1, h2⟩ := ihx hk.1 w G S e a hr hf he hn;exact ⟨h1, fun ex e' S' h ro hro0 m2 Q hq => wpIn_cond_true hcv (h2 ex e' S' h ro hro0 m2 Q hq)⟩
   | false =>
    obtain ⟨h1, h2⟩ := ihy hk.2 w G S e a hr hf he hn;exact ⟨h1, fun ex e' S' h ro hro0 m2 Q hq => wpIn_cond_false hcv (h2 ex e' S' h ro hro0 m2 Q hq)⟩
  ·exact ⟨(by intro h; cases h), fun x e' S' h => by cases h⟩
 | block id c ih =>
  intro hk w G S e a hr hf he hn;simp only [okCodeT] at hk;obtain ⟨h1, h2⟩ := ih hk w G S e a hr hf he hn;simp only [pexec];refine ⟨fun h => ?_, fun ex e' S' h ro hro0 m2 Q hq => ?_⟩
  ·rcases Res.bind_vac h with h | ⟨⟨x1, e1, S1⟩, h3, h4⟩
   ·exact h1 h
   ·cases x1 with
    | normal => cases h4
    | exit j => simp only at h4; split at h4 <;> cases h4
    | ret => cases h4
  ·obtain ⟨⟨x1, e1, S1⟩, h3, h4⟩ := Res.bind_ok h;refine wpIn_block (h2 _ _ _ h3 ro hro0 m2 _ fun w1 G1 a1 hA => ?_)
   cases x1 with
   | normal => cases h4; exact hq w1 G1 a1 hA
   | exit j =>
    simp only at h4;simp only [exOf, Exit.inBlock];split at h4
    ·rename_i hj; cases h4; rw [if_pos hj]; exact hq w1 G1 a1 hA
    ·rename_i hj; cases h4; rw [if_neg hj]; exact hq w1 G1 a1 hA
   | ret => cases h4; exact hq w1 G1 a1 hA
 | loop c ih =>
  intro hk;simp only [okCodeT] at hk;have := loop_sound (ih hk) m;simp only [pexec];exact this
 | rangeFunc g ps as bd _ _ =>
  intro hk w G S e a hr hf he hn;simp only [okCodeT, Bool.and_eq_true, List.all_eq_true, decide_eq_true_eq] at hk;obtain ⟨⟨⟨htop, hps⟩, hka⟩, hkb⟩ := hk;simp only [pexec];have hg := he.lv g;split
  case h_2 => exact ⟨(by intro h; cases h), fun x e' S' h => by cases h⟩
  rename_i f caps hgv;rw [hgv] at hg;by_cases hY : f = YID
  ·rw [if_pos hY]; exact ⟨(by intro h; cases h), fun x e' S' h => by cases h⟩
  rw [if_neg hY];generalize hcv : a.eval g = cv at hg
  cases hg with
  | fn _ _ cvs hcl hch =>
  have hnew := fun fn : FuncId => new_loop (w := w) (G := G) (S := S) (r := { state := .ready, pending := none, fn, tmps := a.tmps, params := ps, assign := as, body := bd, defers := w.heap.size })
   (L := ⟨ps.toList, as, bd, e, .rdy⟩) hr hf (fun w' G' hx => ⟨rfl, rfl, rfl, by rw [hn]; exact hka, by rw [hn]; exact hkb, fun p hp => by rw [hn]; exact hps p hp, fun i => (he i).ext hr.wf hx, rfl, rfl⟩)
  have hargs : ∀ (W : World) (G2 : Gh), Ext w G W G2 → G2.addr (.arr S.next) = (w.heap.size + 1, 0) → G2.dom (.arr S.next) → ArgsRel W G2 (.yl S.next :: caps) (.func (.yield (w.heap.size + 1)) #[] #[] :: cvs.toList) := by
   intro W G2 n2 n4 n5;refine ⟨by simp [hcl], fun i c v h1 h2 => ?_⟩
   cases i with
   | zero =>
    simp at h1 h2; subst h1 h2;have := LVRel.yl (w := W) S.next n5;rw [n4] at this; exact this
   | succ i => exact (hch i c v (by simpa using h1) (by simpa using h2)).ext hr.wf n2
  refine ⟨fun h => ?_, fun x e' S' h ro hro0 m2 Q hq => ?_⟩
  ·obtain ⟨G2, n1, n2, n3, n4, n5, n6, n7, n8⟩ := hnew 0;rcases Res.bind_vac h with h | ⟨q, _, h4⟩
   ·exact (hSh.call f _ _ _ G2 _ hY n1 n3 (hargs _ G2 n2 n4 n5)).1 h
   ·unfold endY at h4;split at h4
    ·split at h4 <;> cases h4
    ·cases h4
  ·have hro := hro0 htop;subst hro;obtain ⟨⟨r, S3⟩, h3, h4⟩ := Res.bind_ok h;refine wpIn_rangeFunc fun fn _ => ?_;obtain ⟨G2, n1, n2, n3, n4, n5, n6, n7, n8⟩ := hnew fn;have hent := run_enterLoop_outer (P := P) (w := w) fn a.tmps ps as bd;generalize (w.alloc (.deferred (some []))).alloc (.loop { state := .ready, pending := none, fn, tmps := a.tmps, params := ps, assign := as, body := bd, defers := w.heap.size }) = W2 at n1 n2 n8 hent;obtain ⟨c3, c4⟩ := (hSh.call f _ _ _ G2 _ hY n1 n3 (hargs _ G2 n2 n4 n5)).2 r S3 h3;refine ⟨w.heap.size + 1, [mark w.heap.size], W2, { target := .fn (.func f) cvs, args := #[.func (.yield (w.heap.size + 1)) #[] #[]] }, W2, f, #[.func (.yield (w.heap.size + 1)) #[] #[]] ++ cvs, W2, hent, ?_, fun _ _ => trivial, ?_, fun h => (by cases h), ?_⟩
   ·simp only [resolve, hcv];simp [go_sem]
   ·have hE : ∀ args w, (callFunc f args).run P w = .ok (.enter f args) w := c3;simp [invoke, hE]
   ·have hvs : (Value.func (.yield (w.heap.size + 1)) #[] #[] :: cvs.toList).toArray = #[.func (.yield (w.heap.size + 1)) #[] #[]] ++ cvs := by simp
    unfold Answers at c4;rw [hvs] at c4;refine calls_fr (Calls.mono c4 fun en w3 hx => ?_)
    cases en with
    | returned v =>
     obtain ⟨G3, q1, q2, q3, q4⟩ := hx;simp only [endY] at h4;split at h4
     case h_2 => cases h4
     rename_i L hobj;have hL := q2.obj S.next;rw [hobj] at hL;obtain ⟨d1, d2, r3, d3, d4⟩ := hL;have haddr : (G3.addr (.arr S.next)).1 = w.heap.size + 1 := by rw [(q3.dom _ n5).2.1, n4]
     obtain ⟨s1, s2⟩ := set_loop (r' := { r3 with state := .exhausted }) (o := .dead) q2 hobj d3 (fun _ => trivial);rw [haddr] at d3 s1 s2;have hA : After w G a e (S3.set S.next .dead) (w3.putObj (w.heap.size + 1) (.loop { r3 with state := .exhausted })) G3 { a with defers := [mark w.heap.size] ++ a.defers } := by
      have hx := n2.trans (q3.trans s2);refine ⟨s1, fun i => (he i).ext hr.wf hx, hx, q4.set, rfl, [w.heap.size], ?_, rfl⟩;refine Marks.ext ⟨by simp, fun D hD => ?_⟩ n1.wf (q3.trans s2)
      obtain rfl : D = w.heap.size := by simpa using hD
      exact ⟨Nat.le_refl _, n6, n7, n8⟩
     split at h4
     ·rename_i hst;have := d4.st;rw [hst] at this
      cases h4
      exact ⟨none, _, (run_endLoop (P := P) d3 (by rw [this.1]; simp)).trans (congrArg (fun p => Result.ok p _) this.2), hq _ _ _ hA⟩
     ·rename_i hst;have := d4.st;rw [hst] at this
      cases h4
      exact ⟨some .ret, _, (run_endLoop (P := P) d3 (by rw [this.1]; simp)).trans (congrArg (fun p => Result.ok p _) this.2), wpIn_ret (hq _ _ _ hA)⟩
     ·rename_i k hst;have := d4.st;rw [hst] at this
      cases h4
      exact ⟨some (.exit k), _, (run_endLoop (P := P) d3 (by rw [this.1]; simp)).trans (congrArg (fun p => Result.ok p _) this.2), wpIn_exit (hq _ _ _ hA)⟩
     ·cases h4
    | _ => exact hx.elim
 | _ => intro hk; cases hk
end Go.VM
end
section
namespace Go.VM
open Go.RowKit
variable {w w' w1 w2 : World} {G G' G1 G2 : Gh} {S S' S1 S2 : St} {P : Program}
theorem result1_rel {e : Env} {a : Act} (hr : Rel w G S) (he : EnvRel w G e a) {f : ResultVar → Sem Value} (h1 : ∀ t, f (.tmp t) = pure (a.tmps.getD t undef)) (h2 : ∀ b t, f (.cell b t) = do loadVar t (← asAddr (a.tmps.getD b undef)))
  {r : ResultVar} {v : LV} (h : result1 P e S r = .ok v) : ∃ x, (f r).run P w = .ok x w ∧ LVRel w G v x := by
 cases r with
 | tmp t => cases h; exact ⟨_, by rw [h1]; rfl, he t⟩
 | cell b t =>
  simp only [result1] at h;obtain ⟨⟨v1, S1⟩, h3, h4⟩ := Res.bind_ok h
  cases h4
  obtain ⟨_, x, h5, h6⟩ := load_ok hr (he b) h3;refine ⟨x, ?_, h6⟩;have hptr : ∃ ad, a.tmps.getD b undef = .pointer (some ad) := by
   have hb := he b;generalize a.tmps.getD b undef = y at hb
   cases hx : e b with
   | ptr id off => rw [hx] at hb; cases hb; exact ⟨_, rfl⟩
   | elp l sz i off => rw [hx] at hb; cases hb; exact ⟨_, rfl⟩
   | cp cs => rw [hx] at hb; cases hb; exact ⟨_, rfl⟩
   | _ => rw [hx] at h3; cases h3
  obtain ⟨ad, had⟩ := hptr;rw [h2, had];rw [had] at h5;exact h5
theorem resultL_rel {e : Env} {a : Act} (hr : Rel w G S) (he : EnvRel w G e a) {f : ResultVar → Sem Value} (h1 : ∀ t, f (.tmp t) = pure (a.tmps.getD t undef)) (h2 : ∀ b t, f (.cell b t) = do loadVar t (← asAddr (a.tmps.getD b undef))) :
  ∀ (rs : List ResultVar) (vs : List LV), resultL P e S rs = .ok vs → ∃ xs : List Value, (rs.mapM f).run P w = .ok xs w ∧ ArgsRel w G vs xs := by
 intro rs
 induction rs with
 | nil => intro vs h; cases h; exact ⟨[], by simp, rfl, fun i c v h => by simp at h⟩
 | cons r rs ih =>
  intro vs h;simp only [resultL] at h;obtain ⟨v, h3, h⟩ := Res.bind_ok h;obtain ⟨l, h4, h⟩ := Res.bind_ok h
  cases h
  obtain ⟨x, h5, h6⟩ := result1_rel hr he h1 h2 h3;obtain ⟨xs, h7, h8⟩ := ih l h4;refine ⟨x :: xs, ?_, by simp [h8.1], fun i c v e1 e2 => ?_⟩
  ·rw [List.mapM_cons, Sem.run_bind, h5, Result.andThen_ok, Sem.run_bind, h7]; rfl
  ·cases i with
   | zero => simp at e1 e2; subst e1 e2; exact h6
   | succ i => exact h8.2 i c v (by simpa using e1) (by simpa using e2)
theorem resultV_rel {e : Env} {a : Act} (hr : Rel w G S) (he : EnvRel w G e a) {fn : Func} {r : LV} (h : resultV P e S fn.results.toList = .ok r) : ∃ v, (results fn a.tmps).run P w = .ok v w ∧ LVRel w G r v := by
 unfold resultV at h;obtain ⟨vs, hl, h⟩ := Res.bind_ok h
 cases h
 have key : ∃ xs, (results fn a.tmps).run P w = .ok (if h : xs.toArray.size = 1 then xs.toArray[0] else .tuple xs.toArray) w ∧ ArgsRel w G vs xs := by
  unfold results;simp only [Sem.run_bind, Array.mapM_eq_mapM_toList, Sem.run_map];obtain ⟨xs, h1, h2⟩ := resultL_rel (P := P) hr he (f := fun | .tmp t => pure (a.tmps.getD t undef) | .cell b t => do loadVar t (← asAddr (a.tmps.getD b undef))) (fun t => rfl) (fun b t => rfl) _ _ hl
  refine ⟨xs, ?_, h2⟩;have h1' := h1;show ((Sem.run P _ w).andThen _).andThen _ = _
  erw [h1']
  rfl
 obtain ⟨xs, hrun, h2, h3⟩ := key;refine ⟨_, hrun, ?_⟩
 match vs, h2, h3 with
 | [v], h2, h3 =>
  obtain ⟨x, rfl⟩ := List.length_eq_one_iff.1 h2.symm;exact h3 0 _ x rfl rfl
 | [], h2, h3 =>
  have : xs = [] := List.eq_nil_of_length_eq_zero h2.symm;subst this;exact .tup _ _ rfl (fun i c v e1 e2 => by simp at e1)
 | v1 :: v2 :: l, h2, h3 =>
  rw [dif_neg (by simp at h2 ⊢; omega)]
  exact .tup _ _ (by simpa using h2) (fun i c v e1 e2 => h3 i c v e1 (by simpa using e2))
theorem resultV_vac {e : Env} {rs : List ResultVar} : resultV P e S rs ≠ .vac := by
 have h1 : ∀ r, result1 P e S r ≠ .vac := by
  intro r h
  cases r with
  | tmp t => cases h
  | cell b t =>
   rcases Res.bind_vac h with h | ⟨q, _, h⟩
   ·exact clean_load.run h
   ·cases h
 have h2 : ∀ rs, resultL P e S rs ≠ .vac := by
  intro rs
  induction rs with
  | nil => intro h; cases h
  | cons r rs ih =>
   intro h;rcases Res.bind_vac h with h | ⟨v, _, h⟩
   ·exact h1 r h
   ·rcases Res.bind_vac h with h | ⟨vs, _, h⟩
    ·exact ih h
    ·cases h
 intro h;rcases Res.bind_vac h with h | ⟨vs, _, h⟩
 ·exact h2 rs h
 ·cases h
end Go.VM
end
section
namespace Go.VM
open Go.RowKit
variable {w w' w1 w2 : World} {G G' G1 G2 : Gh} {S S' S1 S2 : St} {P : Program}
def Stays (w : World) (G : Gh) (w' : World) : Prop := ∀ b k v, G.St b → w.cell? ⟨b, k, none⟩ = some v → w'.cell? ⟨b, k, none⟩ = some v
theorem LVRel.same (hc : Stays w G w') {x : LV} {v : Value} (hr : LVRel w G x v) : LVRel w' G x v := by
 induction hr with
 | d x v hx => exact .d x v (hx.mono (fun _ h => h) hc)
 | lit xs a hx hl hn => exact .lit xs a (hx.mono (fun _ h => h) hc) hl hn
 | ar l sz lo len cap a hd hs hb hcc ha => exact .ar l sz lo len cap a hd hs hb hcc ha
 | ptr id off hd => exact .ptr id off hd
 | elp l sz i off hd hs hi => exact .elp l sz i off hd hs hi
 | cp cs b off hs ho f h1 h2 => exact .cp cs b off hs ho f (fun j d hj => hc b _ _ hs (h1 j d hj)) (fun j d hj => (h2 j d hj).mono (fun _ h => h) hc)
 | agg cs vs hl _ ho ih => exact .agg cs vs hl ih ho
 | tup cs vs hl _ ih => exact .tup cs vs hl ih
 | fn f cs vs hl _ ih => exact .fn f cs vs hl ih
 | mp id hd => exact .mp id hd
 | yl id hd => exact .yl id hd
 | un v => exact .un v
theorem stays_put {D : Nat} {o : Go.Obj} (hs : ¬ G.St D) : Stays w G (w.putObj D o) := by
 intro b k v hb hv;obtain ⟨c, e, f, hh, hk⟩ := cell_of_some hv;have hne : b ≠ D := fun e => hs (e ▸ hb);rw [cell_of ((World.putObj_heap_other hne).trans hh)]; exact hk
theorem Rel.put (hr : Rel w G S) {D : Nat} {o : Go.Obj} (ho : G.own D = none) (hs : ¬ G.St D) : Rel (w.putObj D o) G S := by
 have hc := stays_put (w := w) (o := o) hs;have hown : ∀ b l, G.own b = some l → (w.putObj D o).heap[b]? = w.heap[b]? := fun b l hb => World.putObj_heap_other (fun e => by rw [e, ho] at hb; cases hb)
 have hst : ∀ b, G.St b → (w.putObj D o).heap[b]? = w.heap[b]? := fun b hb => World.putObj_heap_other (fun e => hs (e ▸ hb));have harr : ∀ {l : Loc} {sz : Nat} {xs : List Go.VM.D} {fz : Bool}, ArrRel w G l sz xs fz → ArrRel (w.putObj D o) G l sz xs fz := by
  intro l sz xs fz h;refine ⟨h.dom, h.esz, h.hz, h.ho, h.len, fun hcap => ?_⟩;obtain ⟨c, e, f, h1, h2, h3, h4⟩ := h.row hcap;refine ⟨c, e, f, ?_, h2, fun i j x d a b => let ⟨v, p, q⟩ := h3 i j x d a b; ⟨v, p, q.mono (fun _ h => h) hc⟩, h4⟩
  cases fz with
  | true => rw [hst _ (by simpa using h4)]; exact h1
  | false => simp only [Bool.false_eq_true, if_false] at h4; rw [hown _ _ h4.1]; exact h1
 refine ⟨⟨fun b l hb => by rw [World.putObj_size]; exact hr.wf.own b l hb, fun b hb => by rw [World.putObj_size]; exact hr.wf.st b hb, hr.wf.lt, hr.wf.max⟩, fun id => ?_⟩
 have h := hr.obj id
 cases hob : S.obj id with
 | dead => trivial
 | cells cs =>
  rw [hob] at h;obtain ⟨hd, hw, c, e, f, hh, hsz, hf, h1c, hcl⟩ := h;refine ⟨hd, hw, c, e, f, (hown _ _ hw).trans hh, hsz, hf, h1c, fun k lv v a b => ?_⟩;have hcell := hcl k lv v a b
  cases lv with
  | own ver sz xs fz =>
   obtain ⟨⟨a, cap, p1, p2⟩, p3⟩ := hcell;exact ⟨⟨a, cap, p1, p2.same hc⟩, harr p3⟩
  | _ => exact LVRel.same hc hcell
 | arr sz xs fz => rw [hob] at h; exact harr h
 | mp ks es =>
  rw [hob] at h;obtain ⟨hks, hd, hw, en, cl, hh, hsz, hcl, hbn⟩ := h;exact ⟨hks, hd, hw, en, cl, (hown _ _ hw).trans hh, hsz, fun i p q a b => ⟨(hcl i p q a b).1.mono (fun _ h => h) hc, (hcl i p q a b).2.mono (fun _ h => h) hc⟩, hbn⟩
 | loop L =>
  rw [hob] at h;obtain ⟨hd, hw, r, hh, hL⟩ := h;exact ⟨hd, hw, r, (hown _ _ hw).trans hh, hL.ps, hL.as, hL.bd, hL.okA, hL.okB, hL.okP, fun i => (hL.env i).same hc, hL.st⟩
structure But (w : World) (ms : List Nat) (w' : World) : Prop where
 size : w'.heap.size = w.heap.size
 os : w'.os = w.os
 tape : w'.tape = w.tape
 out : w'.output = w.output
 old : ∀ b, b ∉ ms → w'.heap[b]? = w.heap[b]?
theorem leaves_marks {fn : Func} {tmps : Array Value} {R : Ending → World → Prop} : ∀ (ms : List Nat) (w : World), ms.Nodup → (∀ D ∈ ms, G.own D = none ∧ ¬ G.St D ∧ w.heap[D]? = some (.deferred (some []))) → Rel w G S →
  (∀ w2, Rel w2 G S → Stays w G w2 → But w ms w2 → ∃ v, (results fn tmps).run P w2 = .ok v w2 ∧ R (.returned v) w2) → LeavesInM (Fr none) 0 P fn tmps R (ms.map mark) .returning w := by
 intro ms
 induction ms with
 | nil => intro w _ _ hr h; exact h w hr (fun _ _ _ _ h => h) ⟨rfl, rfl, rfl, rfl, fun _ _ => rfl⟩
 | cons D ms ih =>
  intro w hn hD hr h;obtain ⟨d1, d2, d3⟩ := hD D (by simp)
  obtain ⟨n1, n2⟩ := List.nodup_cons.1 hn;refine ⟨by simp, .inl ⟨D, _, rfl, run_takeDeferred d3, ih _ n2 (fun E hE => ?_) (hr.put d1 d2) (fun w2 r2 s2 b2 => h w2 r2 (fun b k v hb hv => s2 b k v hb (stays_put d2 b k v hb hv)) ?_)⟩⟩
  ·obtain ⟨e1, e2, e3⟩ := hD E (by simp [hE])
   exact ⟨e1, e2, (World.putObj_heap_other (fun e => n1 (by rw [← e]; exact hE))).trans e3⟩
  ·refine ⟨b2.size.trans World.putObj_size, b2.os, b2.tape, b2.out, fun b hb => (b2.old b (fun h => hb (by simp [h]))).trans (World.putObj_heap_other (fun e => hb (by simp [e])))⟩
theorem runY_sound {cfg : Cfg} (hP : cfg.P = P) (hm : P.follows .mixedOrders = true) {V : FuncId → List D → Res LV} {Sh : FuncId → List LV → St → Res (LV × St)} (hV : VSound P V) (hSh : ShSound P cfg Sh) (m : Nat)
  {id : Nat} {args : List LV} {vs : List Value} (hr : Rel w G S) (hf : Fresh G S) (ha : ArgsRel w G args vs) :
  runY (pexec cfg V Sh m) id args S ≠ .vac ∧ ∀ r S', runY (pexec cfg V Sh m) id args S = .ok (r, S') → Yields P (G.addr (.arr id)).1 vs w fun v w' => ∃ G', LVRel w' G' r v ∧ Rel w' G' S' ∧ Ext w G w' G' ∧ Fresh G' S' := by
 unfold runY
 cases ho : S.obj id with
 | loop L =>
  simp only;have hL := hr.obj id;rw [ho] at hL;obtain ⟨d1, d2, r, d3, d4⟩ := hL;by_cases hc : args.length = L.ps.length ∧ L.st = .rdy
  ·rw [if_pos hc];obtain ⟨c1, c2⟩ := hc;have hvl : vs.length = L.ps.length := by rw [← ha.1]; exact c1
   obtain ⟨e1, e2⟩ := setPs_rel (w := w) (G := G) L.ps vs args L.e r.tmps d4.env d4.okP ha hvl;have hfold : (r.params.zip vs.toArray).foldl (fun tmps (t, a) => tmps.setIfInBounds t a) r.tmps = (L.ps.zip vs).foldl (fun t q => t.setIfInBounds q.1 q.2) r.tmps := by
    rw [← Array.foldl_toList, Array.toList_zip, d4.ps]
   obtain ⟨tm, htm⟩ : ∃ tm, tm = (L.ps.zip vs).foldl (fun (t : Array Value) q => t.setIfInBounds q.1 q.2) r.tmps := ⟨_, rfl⟩;rw [← htm] at e1 e2 hfold;have hrs : r.state = .ready ∧ r.pending = none := by have := d4.st; rw [c2] at this; exact this
   obtain ⟨a1, a2⟩ := code_sound hP hm hV hSh false m r.tmps.size L.as d4.okA w G S (setPs L.e L.ps args) { tmps := tm, defers := [] } hr hf e1 e2;have mid : ∀ e1 S1 w1 G1 b1 L1, After w G { tmps := tm, defers := [] } e1 S1 w1 G1 b1 → S1.obj id = .loop L1 → L1.st = .rdy →
     ∃ r1, w1.heap[(G.addr (.arr id)).1]? = some (.loop r1) ∧ r1.state = .ready ∧
      (pexec cfg V Sh m L.bd e1 (S1.set id (.loop { L1 with st := .busy })) ≠ .vac ∧
      ∀ x e2 S2, pexec cfg V Sh m L.bd e1 (S1.set id (.loop { L1 with st := .busy })) = .ok (x, e2, S2) →
       CodeOk P false L.bd (w1.putObj (G.addr (.arr id)).1 (.loop { r1 with state := .busy })) G1 b1 x e2 S2 ∧ Ext w1 G1 (w1.putObj (G.addr (.arr id)).1 (.loop { r1 with state := .busy })) G1) := by
    intro e1 S1 w1 G1 b1 L1 hA ho1 hst1;have hL1 := hA.rel.obj id;rw [ho1] at hL1;obtain ⟨g1, g2, r1, g3, g4⟩ := hL1;have had : G1.addr (.arr id) = G.addr (.arr id) := (hA.ext.dom _ d1).2.1;obtain ⟨s1, s2⟩ := set_loop (r' := { r1 with state := .busy }) (o := .loop { L1 with st := .busy }) hA.rel ho1 g3 (fun hx => ⟨g1, g2, _, World.putObj_heap_same (lt_size g3), g4.ps, g4.as, g4.bd, g4.okA, g4.okB, g4.okP, fun i => (g4.env i).ext hA.rel.wf hx, rfl⟩);rw [had] at g3 s1 s2;have hst := g4.st;rw [hst1] at hst;obtain ⟨k1, k2⟩ := code_sound hP hm hV hSh false m r.tmps.size L.bd d4.okB _ G1 _ e1 b1 s1 hA.fresh.set (fun i => (hA.env i).ext hA.rel.wf s2) (hA.size.trans e2);exact ⟨r1, g3, hst.1, k1, fun x e2 S2 h => ⟨k2 x e2 S2 h, s2⟩⟩
   refine ⟨fun h => ?_, fun res S' h m2 => ?_⟩
   ·rcases Res.bind_vac h with h | ⟨⟨x1, e1, S1⟩, h3, h4⟩
    ·exact a1 h
    ·obtain ⟨w1, G1, b1, hA⟩ := (a2 _ _ _ h3).some;split at h4
     case h_2 => cases h4
     rename_i L1 hx1 ho1;split at h4
     case isFalse => cases h4
     rename_i hst1;obtain ⟨r1, _, _, k1, _⟩ := mid e1 S1 w1 G1 b1 L1 hA ho1 hst1;rcases Res.bind_vac h4 with h4 | ⟨q, _, h4⟩
     ·exact k1 h4
     ·split at h4 <;> cases h4
   ·obtain ⟨⟨x1, e1, S1⟩, h3, h4⟩ := Res.bind_ok h;split at h4
    case h_2 => cases h4
    rename_i L1 hx1 ho1;split at h4
    case isFalse => cases h4
    rename_i hst1;simp only at hx1 ho1;subst hx1;obtain ⟨⟨x2, e2, S2⟩, h5, h6⟩ := Res.bind_ok h4;split at h6
    case h_2 => cases h6
    rename_i L2 ho2;simp only at ho2
    cases h6
    refine ⟨r.fn, tm, r.assign, r.body, ?_, roundIn_of_wpIn trivial ?_⟩
    ·rw [run_yield d3 (by simp [hvl, ← d4.ps]), hfold]
    rw [d4.as, d4.bd];refine a2 _ _ _ h3 (some (G.addr (.arr id)).1) (fun h => by cases h) m2 _ fun w1 G1 b1 hA => ?_
    obtain ⟨r1, k1, k2, _, k4⟩ := mid e1 S1 w1 G1 b1 L1 hA ho1 hst1;obtain ⟨k5, k6⟩ := k4 _ _ _ h5;refine ⟨_, run_beginRound k1 k2, ?_⟩;refine k5 (some (G.addr (.arr id)).1) (fun h => by cases h) m2 _ fun w2 G2 b2 hB => ?_
    have hL2 := hB.rel.obj id;rw [ho2] at hL2;obtain ⟨g1, g2, r2, g3, g4⟩ := hL2;have had : G2.addr (.arr id) = G.addr (.arr id) := ((hA.ext.trans (k6.trans hB.ext)).dom _ d1).2.1;have fin : ∀ (jump : Option Code) (st : LSt), stands st (if jump.isNone then .ready else .done) jump →
      Rel (w2.putObj (G.addr (.arr id)).1 (.loop { r2 with state := if jump.isNone then .ready else .done, pending := jump })) G2 (S2.set id (.loop { L2 with st := st })) ∧
      Ext w2 G2 (w2.putObj (G.addr (.arr id)).1 (.loop { r2 with state := if jump.isNone then .ready else .done, pending := jump })) G2 := by
     intro jump st hst;have := set_loop (r' := { r2 with state := if jump.isNone then .ready else .done, pending := jump }) (o := .loop { L2 with st := st }) hB.rel ho2 g3 (fun hx => ⟨g1, g2, _, World.putObj_heap_same (lt_size g3), g4.ps, g4.as, g4.bd, g4.okA, g4.okB, g4.okP, fun i => (g4.env i).ext hB.rel.wf hx, hst⟩);rw [had] at this;exact this
    rw [had] at g3;have hext := hA.ext.trans (k6.trans hB.ext)
    cases x2 with
    | normal =>
     obtain ⟨f1, f2⟩ := fin none .rdy ⟨rfl, rfl⟩;exact ⟨_, _, run_endRound none g3, G2, .d _ _ (.bool true), f1, hext.trans f2, hB.fresh.set⟩
    | ret =>
     obtain ⟨f1, f2⟩ := fin (some .ret) (.out none) ⟨rfl, rfl⟩;exact ⟨_, _, run_endRound (some .ret) g3, G2, .d _ _ (.bool false), f1, hext.trans f2, hB.fresh.set⟩
    | exit k =>
     obtain ⟨f1, f2⟩ := fin (some (.exit k)) (.out (some k)) ⟨rfl, rfl⟩;exact ⟨_, _, run_endRound (some (.exit k)) g3, G2, .d _ _ (.bool false), f1, hext.trans f2, hB.fresh.set⟩
  ·rw [if_neg hc]; exact ⟨(by intro h; cases h), fun r S' h => by cases h⟩
 | _ => exact ⟨(by intro h; cases h), fun r S' h => by cases h⟩
end Go.VM
end
section
namespace Go.VM
open Go.RowKit
variable {w w' w1 w2 : World} {G G' G1 G2 : Gh} {S S' S1 S2 : St} {P : Program}
def chain : List Code → Code → Code
 | [], c => c
 | x :: l, c => .seq x (chain l c)
def SegOk (P : Program) (n : Nat) (ops : Array Oper) (k : Nat) (blk : Code) (seg : List Code) (g : Env → St → Option (Env × St)) : Prop :=
 ∀ (w : World) (G : Gh) (S : St) (e : Env) (a : Act), Rel w G S → Fresh G S → EnvRel w G e a → a.tmps.size = n → ∀ e' S', g e S = some (e', S') →
  ∀ (m : Nat) (tail : Code) (Q : Exit → Act → World → Prop), (∀ w' G' a', After w G a e' S' w' G' a' → tail.wpIn (Fr none) m P Q a' w') →
   wpOpsIn (Fr none) m P ops (Exit.then (blk.wpIn (Fr none) m P (Exit.then ((chain seg tail).wpIn (Fr none) m P Q) Q)) (Exit.then ((chain seg tail).wpIn (Fr none) m P Q) Q)) (List.range' k (ops.size - k)) a w
structure AltOk (P : Program) (n : Nat) (q : Alt) (c : Code) : Prop where
 le : q.k ≤ q.ops.size
 free : ∀ i, i < q.k → (q.ops.getD i default).guard = none
 seg : ∃ (blk : Code) (seg : List Code), c = chain q.pre (.seq (.seq (.region q.id q.ops false) blk) (chain seg q.post)) ∧ SegOk P n q.ops q.k blk seg q.mac
theorem chain_ok {top : Bool} {n : Nat} : ∀ {l : List Code} {c : Code}, okCodeT top n (chain l c) = true → okCodeT top n c = true := by
 intro l
 induction l with
 | nil => intro c h; exact h
 | cons x l ih =>
  intro c h;simp only [chain, okCodeT, Bool.and_eq_true] at h;exact ih h.2
theorem alt_sound {cfg : Cfg} (hP : cfg.P = P) (hm : P.follows .mixedOrders = true) {V : FuncId → List D → Res LV} {Sh : FuncId → List LV → St → Res (LV × St)} (hV : VSound P V) (hSh : ShSound P cfg Sh) {m n : Nat} {q : Alt} {c : Code} (hq : AltOk P n q c) (hk : okCodeT true n c = true) :
  Sound P true n c (altRun (pexec cfg V Sh m) q) := by
 obtain ⟨hle, hfree, blk, seg, rfl, hseg⟩ := hq;obtain ⟨pre, id, ops, k, g, post⟩ := q;simp only at hle hfree hk hseg ⊢
 induction pre with
 | nil =>
  intro w G S e a hr hf he hn;simp only [chain, okCodeT, Bool.and_eq_true] at hk;have hpost := code_sound hP hm hV hSh true m n post (chain_ok hk.2);have hmap : ((ops.extract 0 k).toList.map (sop (ops.extract 0 k).toList)) = (List.range k).map fun i => sop ops.toList (ops.getD i default) := by
   apply List.ext_getElem?
   intro i;rw [List.getElem?_map, List.getElem?_map];by_cases hi : i < k
   ·have h1 : i < ops.size := by omega
    have hfr := hfree i hi;have e1 : ops.getD i default = ops[i] := by simp [h1]
    rw [e1] at hfr;simp [hi, h1, sop, hfr]
   ·simp [hi];omega
  obtain ⟨h1, h2⟩ := pops_soundR hP hV hSh hk.1.1 (List.range' k (ops.size - k)) (List.range k) w G S e a hr hf he hn (fun i hi => by have := List.mem_range.1 hi; omega)
  rw [← hmap] at h1 h2;simp only [altRun, Alt.head, List.nil_append, runL, pexec];have hsplit : List.range ops.size = List.range k ++ List.range' k (ops.size - k) := by
   rw [List.range_eq_range', List.range_eq_range'];have := List.range'_append (s := 0) (m := k) (n := ops.size - k) (step := 1);simp only [Nat.one_mul, Nat.zero_add] at this;rw [this]; congr 1; omega
  cases hp : pops cfg V Sh ((ops.extract 0 k).toList.map (sop (ops.extract 0 k).toList)) e S with
  | vac => exact absurd hp h1
  | no => exact ⟨(by intro h; cases h), fun x e' S' h => by cases h⟩
  | ok r =>
   obtain ⟨e1, S1⟩ := r;have h2' := h2 e1 S1 hp;simp only [Res.bind]
   cases hg : g e1 S1 with
   | none => exact ⟨(by intro h; cases h), fun x e' S' h => by cases h⟩
   | some q =>
    obtain ⟨e2, S2⟩ := q;simp only [seen];have hcode : ∀ (m2 : Nat) (tail : Code) (Q : Exit → Act → World → Prop), (∀ w' G' a', After w G a e2 S2 w' G' a' → tail.wpIn (Fr none) m2 P Q a' w') → (Code.seq (.seq (.region id ops false) blk) (chain seg tail)).wpIn (Fr none) m2 P Q a w := by
     intro m2 tail Q ht;refine wpIn_seq (wpIn_seq (wpIn_region ?_));rw [hsplit];refine h2' none m2 _ fun w1 G1 a1 hA => ?_;exact hseg w1 G1 S1 e1 a1 hA.rel hA.fresh hA.env (hA.size.trans hn) e2 S2 hg m2 tail Q fun w' G' a' hA2 => ht w' G' a' (hA.trans hA2)
    obtain ⟨w2, G2, a2, hA2⟩ : ∃ w' G' a', After w G a e2 S2 w' G' a' := by
     refine code_const (P := P) (a := a) (w := w) (hcode 0 .skip (fun _ _ _ => ∃ w' G' a', After w G a e2 S2 w' G' a') fun w' G' a' hA => ?_);exact wpIn_skip ⟨w', G', a', hA⟩
    refine ⟨(hpost w2 G2 S2 e2 a2 hA2.rel hA2.fresh hA2.env (hA2.size.trans hn)).1, fun x e' S' h ro hro m2 Q hq => ?_⟩;have := hro rfl;subst this;refine hcode m2 post Q fun w1 G1 a1 hA => ?_;exact (hpost w1 G1 S2 e2 a1 hA.rel hA.fresh hA.env (hA.size.trans hn)).2 x e' S' h none (fun _ => rfl) m2 Q fun w' G' a' hA2 => hq w' G' a' (hA.trans hA2)
 | cons c pre ih =>
  intro w G S e a hr hf he hn;have hk' : okCodeT true n c = true ∧ okCodeT true n (chain pre (.seq (.seq (.region id ops false) blk) (chain seg post))) = true := by
   simpa only [chain, okCodeT, Bool.and_eq_true] using hk
  have hi := ih hk'.2;obtain ⟨h1, h2⟩ := code_sound hP hm hV hSh true m n c hk'.1 w G S e a hr hf he hn;have hrun : altRun (pexec cfg V Sh m) ⟨c :: pre, id, ops, k, g, post⟩ e S = (pexec cfg V Sh m c e S).bind fun r => match r.1 with
    | .normal => altRun (pexec cfg V Sh m) ⟨pre, id, ops, k, g, post⟩ r.2.1 r.2.2
    | x => .ok (x, r.2) := by
   simp only [altRun, List.cons_append, runL]
   cases pexec cfg V Sh m c e S with
   | ok r =>
    obtain ⟨x, e1, S1⟩ := r
    cases x <;> simp [Res.bind, Alt.head]
   | no => rfl
   | vac => rfl
  rw [hrun];refine ⟨fun h => ?_, fun ex e' S' h ro hro0 m2 Q hq => ?_⟩
  ·rcases Res.bind_vac h with h | ⟨⟨x1, e1, S1⟩, h3, h4⟩
   ·exact h1 h
   ·obtain ⟨w1, G1, a1, hA⟩ := (h2 _ _ _ h3).some
    cases x1 with
    | normal => exact (hi w1 G1 S1 e1 a1 hA.rel hA.fresh hA.env (hA.size.trans hn)).1 h4
    | exit id => cases h4
    | ret => cases h4
  ·obtain ⟨⟨x1, e1, S1⟩, h3, h4⟩ := Res.bind_ok h;simp only [chain];refine wpIn_seq (h2 _ _ _ h3 ro hro0 m2 _ fun w1 G1 a1 hA => ?_)
   cases x1 with
   | normal => exact (hi w1 G1 S1 e1 a1 hA.rel hA.fresh hA.env (hA.size.trans hn)).2 _ _ _ h4 ro hro0 m2 Q fun w' G' a' hA2 => hq w' G' a' (hA.trans hA2)
   | exit id => cases h4; exact hq w1 G1 a1 hA
   | ret => cases h4; exact hq w1 G1 a1 hA
end Go.VM
end
section
namespace Go.VM
open Go.RowKit
variable {w w' w1 w2 : World} {G G' G1 G2 : Gh} {S S' S1 S2 : St} {P : Program}
def Says (P : Program) (f : FuncId) (x : List D → Res LV) : Prop := ∀ (ds : List D) (vs : List Value) (w : World) (St : Nat → Prop), (∀ b, St b → b < w.heap.size) → DArgs w St ds vs →
 x ds ≠ .vac ∧ ∀ r, x ds = .ok r → dataV r = true → Enters P f ∧ Answers P f vs w fun v w' => ∃ St', Grows w St w' St' ∧ LVRel w' (gst0 St') r v
def FarSays (P : Program) (f : FuncId) (x : List LV → St → Res (LV × St)) : Prop := ∀ (args : List LV) (vs : List Value) (w : World) (G : Gh) (S : St), Rel w G S → Fresh G S → ArgsRel w G args vs →
 x args S ≠ .vac ∧ ∀ r S', x args S = .ok (r, S') → Enters P f ∧ Answers P f vs w fun v w' => ∃ G', LVRel w' G' r v ∧ Rel w' G' S' ∧ Ext w G w' G' ∧ Fresh G' S'
structure Cfg.Good (cfg : Cfg) (P : Program) : Prop where
 prog : cfg.P = P
 mixed : P.follows .mixedOrders = true
 yid : cfg.mode YID = .val ∧ P.funcs[YID]? = none
 enters : ∀ (g : FuncId) (fn : Func) (c : Code), P.funcs[g]? = some fn → fn.body = some c → Enters P g
 ext : ∀ (g : FuncId) (x : List D → Res LV), cfg.ext g = some x → Says P g x
 far : ∀ (g : FuncId) (x : List LV → St → Res (LV × St)), cfg.far g = some x → FarSays P g x
 alt : ∀ (g : FuncId) (q : Alt), cfg.alt g = some q → ∀ (fn : Func) (c : Code), P.funcs[g]? = some fn → fn.body = some c → AltOk P fn.ntmps q c
theorem rel0 {St : Nat → Prop} (h : ∀ b, St b → b < w.heap.size) : Rel w (gst0 St) .empty :=
 ⟨⟨fun b l hb => (by cases hb), h, fun b hb => False.elim hb, fun l => Nat.zero_le _⟩, fun id => trivial⟩
theorem fresh0 {St : Nat → Prop} : Fresh (gst0 St) S := fun _ h => h.elim
def EvSound (P : Program) (cfg : Cfg) (n : Nat) : Prop := ShSound P cfg (ev cfg n)
theorem ev_yid {cfg : Cfg} (hy : cfg.P.funcs[YID]? = none) : ∀ (n : Nat) (ds : List D) (S : St), ev cfg n YID (ds.map .d) S = .no := by
 intro n ds S
 cases n with
 | zero => rfl
 | succ n => rw [ev_succ, hy]; cases ds <;> rfl
theorem v_sound {cfg : Cfg} (hg : cfg.Good P) {n : Nat} (h : EvSound P cfg n) : VSound P (callV cfg n) := by
 intro f ds vs w St htop hds;unfold callV
 cases hx : cfg.ext f with
 | some x => exact hg.ext f x hx ds vs w St htop hds
 | none =>
  have hargs : ArgsRel w (gst0 St) (ds.map .d) vs := by
   refine ⟨by simpa using hds.1, fun i c v h1 h2 => ?_⟩
   rw [List.getElem?_map] at h1
   cases hd : ds[i]? with
   | none => rw [hd] at h1; cases h1
   | some d => rw [hd] at h1; cases h1; exact .d _ _ (hds.2 i d v hd h2)
  by_cases hY : f = YID
  ·subst hY;simp only [ev_yid (by rw [hg.prog]; exact hg.yid.2), Res.bind]
   exact ⟨(by intro h; cases h), fun r h => by cases h⟩
  obtain ⟨h1, h2⟩ := h.call f (ds.map .d) vs w (gst0 St) .empty hY (rel0 htop) fresh0 hargs;simp only;refine ⟨fun hv => ?_, fun r hr hd => ?_⟩
  ·rcases Res.bind_vac hv with hv | ⟨q, hq, hv⟩
   ·exact h1 hv
   ·rcases Res.bind_vac hv with hv | ⟨q2, _, hv⟩
    ·exact (clean_close _).run hv
    ·cases hv
  ·obtain ⟨⟨r1, S1⟩, hq, hr⟩ := Res.bind_ok hr;obtain ⟨⟨r2, S2⟩, hq2, hr⟩ := Res.bind_ok hr
   cases hr
   obtain ⟨k1, k2⟩ := h2 r1 S1 hq;refine ⟨k1, k2.mono fun v w' hh => ?_⟩;obtain ⟨G', q1, q2, q3, q4⟩ := hh;obtain ⟨_, G2, p1, p2, p3⟩ := closeV_rel q2 q1 hq2;have hext := q3.trans p2;refine ⟨G2.St, ⟨hext.size, hext.os, hext.tape, hext.out, fun b hb => hext.oth b hb rfl (fun h => h.elim), hext.st, fun b hb hs => ?_, p1.wf.st⟩, data_rel hd p3 fun b h => h⟩;rcases hext.st' b hb hs with h | h
   ·exact h
   ·exact absurd rfl h
theorem ev_sound {cfg : Cfg} (hg : cfg.Good P) : ∀ n, EvSound P cfg n := by
 intro n
 induction n with
 | zero => exact ⟨hg.yid.1, fun f args vs w G S _ _ _ _ => ⟨(by intro h; cases h), fun r S' h => by cases h⟩, fun id args vs w G S _ _ _ => ⟨(by intro h; cases h), fun r S' h => by cases h⟩⟩
 | succ n ih =>
  have hV := v_sound hg ih;have hSh : ShSound P cfg (ev cfg n) := ih;refine ⟨hg.yid.1, fun f args vs w G S hY hr hf ha => ?_, fun id args vs w G S hr hf ha => ?_⟩
  case refine_2 =>
   rw [ev_succ, hg.prog, hg.yid.2];simp only [if_pos];exact runY_sound hg.prog hg.mixed hV hSh n hr hf ha
  rw [ev_succ];rw [hg.prog]
  cases hfn : P.funcs[f]? with
  | none =>
   simp only;split
   ·rw [if_neg hY]; exact ⟨(by intro h; cases h), fun r S' h => by cases h⟩
   ·exact ⟨(by intro h; cases h), fun r S' h => by cases h⟩
  | some fn =>
   simp only
   cases hfar : cfg.far f with
   | some g => exact hg.far f g hfar args vs w G S hr hf ha
   | none =>
   simp only
   cases hb : fn.body with
   | none => exact ⟨(by intro h; cases h), fun r S' h => by cases h⟩
   | some c =>
    simp only;by_cases hc : okCode fn.ntmps c = true ∧ args.length ≤ fn.ntmps
    ·rw [if_pos hc];obtain ⟨hok, hlen⟩ := hc
     let a : Act := { tmps := vs.toArray ++ Array.replicate (fn.ntmps - vs.toArray.size) undef, defers := [] }
     have hvl : vs.length ≤ fn.ntmps := by rw [← ha.1]; exact hlen
     have hn : a.tmps.size = fn.ntmps := by simp [a]; omega
     have he : EnvRel w G (Env.init args) a := by
      intro i;unfold Env.init;by_cases hi : i < args.length
      ·have h1 : args[i]? = some args[i] := List.getElem?_eq_getElem hi;have h2 : vs[i]? = some (vs[i]'(by rw [← ha.1]; exact hi)) := List.getElem?_eq_getElem _
       have h3 : a.tmps.getD i undef = vs[i]'(by rw [← ha.1]; exact hi) := by
        have hiv : i < vs.length := by rw [← ha.1]; exact hi
        simp [a, Array.getElem?_append, hiv]
       have h4 : args.getD i .un = args[i] := by simp [List.getD, h1]
       rw [h3, h4];exact ha.2 i _ _ h1 h2
      ·have h4 : args.getD i .un = .un := by simp [List.getD, List.getElem?_eq_none (Nat.le_of_not_lt hi)]
       rw [h4]; exact .un _
     have hbody : Sound P true fn.ntmps c (bodyRun (pexec cfg (callV cfg n) (ev cfg n) n) (cfg.alt f) c) := by
      cases hq : cfg.alt f with
      | none => exact code_sound hg.prog hg.mixed hV hSh true n fn.ntmps c hok
      | some q =>
       exact alt_sound hg.prog hg.mixed hV hSh (hg.alt f q hq fn c hfn hb) hok
     obtain ⟨h1, h2⟩ := hbody w G S (Env.init args) a hr hf he hn;refine ⟨fun hv => ?_, fun r S' h => ?_⟩
     ·rcases Res.bind_vac hv with hv | ⟨⟨x, e1, S1⟩, _, hv⟩
      ·exact h1 hv
      ·have hres : ∀ e, (resultV P e S1 fn.results.toList).bind (fun v => Res.ok (v, S1)) ≠ .vac := by
        intro e hx;rcases Res.bind_vac hx with hx | ⟨v, _, hx⟩
        ·exact resultV_vac hx
        ·cases hx
       cases x with
       | normal => exact hres _ hv
       | exit id => cases hv
       | ret => exact hres _ hv
     ·obtain ⟨⟨x, e1, S1⟩, h3, h4⟩ := Res.bind_ok h;refine ⟨hg.enters f fn c hfn hb, ?_⟩;have hcode := h2 x e1 S1 h3;unfold Answers;refine callsIn_wide.1 (callsIn_of_wp_marks (F := Fr none) (n := 0) hfn hb trivial ?_);refine hcode none (fun _ => rfl) 0 _ fun w1 G1 a1 hA => ?_;obtain ⟨ms, m1, m2⟩ := hA.marks;have hd : a1.defers = ms.map mark := by rw [m2]; exact List.append_nil _
      have fin : (resultV P e1 S1 fn.results.toList).bind (fun v => Res.ok (v, S1)) = .ok (r, S') → LeavesInM (Fr none) 0 P fn a1.tmps (fun e w' => match e with | .returned v => ∃ G', LVRel w' G' r v ∧ Rel w' G' S' ∧ Ext w G w' G' ∧ Fresh G' S' | _ => False) a1.defers .returning w1 := by
       intro h5;obtain ⟨r1, h6, h7⟩ := Res.bind_ok h5
       cases h7
       rw [hd];refine leaves_marks ms w1 m1.nd (fun D hD => (m1.at_ D hD).2) hA.rel fun w2 k1 k2 k3 => ?_;obtain ⟨v, h8, h9⟩ := resultV_rel (P := P) (a := a1) k1 (fun i => (hA.env i).same k2) h6;have hold : ∀ b, b < w.heap.size → w2.heap[b]? = w1.heap[b]? := fun b hb => k3.old b (fun h => by have := (m1.at_ b h).1; omega)
       have hx := hA.ext;refine ⟨v, h8, G1, h9, k1, ⟨by rw [k3.size]; exact hx.size, k3.os.trans hx.os, k3.tape.trans hx.tape, k3.out.trans hx.out, fun b hb ho hl => (hold b hb).trans (hx.oth b hb ho hl), fun b hb c e f hh => ?_, hx.st, hx.ltt, hx.dom, hx.own', hx.st', hx.lt'⟩, hA.fresh⟩
       obtain ⟨f', q⟩ := hx.lt b hb c e f hh;exact ⟨f', (hold b (lt_size hh)).trans q⟩
      cases x with
      | normal => exact fin h4
      | exit id => cases h4
      | ret => exact fin h4
    ·rw [if_neg hc];exact ⟨(by intro h; cases h), fun r S' h => by cases h⟩
end Go.VM
end
section
namespace Go.VM
def Le {α : Type} (r r' : Res α) : Prop := r = .no ∨ r' = r
theorem Le.refl {α : Type} (r : Res α) : Le r r := .inr rfl
theorem Le.trans {α : Type} {a b c : Res α} (h : Le a b) (k : Le b c) : Le a c := by
 rcases h with h | rfl
 ·exact .inl h
 ·exact k
theorem Le.no {α : Type} (r : Res α) : Le .no r := .inl rfl
theorem Le.bind {α β : Type} {r r' : Res α} {f f' : α → Res β} (h : Le r r') (k : ∀ a, Le (f a) (f' a)) : Le (r.bind f) (r'.bind f') := by
 rcases h with rfl | rfl
 ·exact .inl rfl
 ·cases r' with
  | ok a => exact k a
  | no => exact .inl rfl
  | vac => exact .inr rfl
def TLe {α : Type} (t t' : T α) (S : St) : Prop := t.run S = .no ∨ (t'.run S = t.run S ∧ t'.log S = t.log S)
theorem TLe.bind {α β : Type} {f f' : α → T β} (h : ∀ a S, TLe (f a) (f' a) S) : ∀ (t : T α) (S : St), TLe (t.bind f) (t.bind f') S := by
 intro t
 induction t with
 | ret a => intro S; exact h a S
 | no => intro S; exact .inl rfl
 | vac => intro S; exact .inr ⟨rfl, rfl⟩
 | get id k ih =>
  intro S;rcases ih (S.obj id) S with h | ⟨h1, h2⟩
  ·exact .inl h
  ·exact .inr ⟨h1, by simp only [T.bind, T.log]; rw [h2]⟩
 | put id o k ih =>
  intro S;rcases ih (S.set id o) with h | ⟨h1, h2⟩
  ·exact .inl h
  ·exact .inr ⟨h1, by simp only [T.bind, T.log]; rw [h2]⟩
 | new o k ih =>
  intro S;rcases ih S.next (S.alloc o) with h | ⟨h1, h2⟩
  ·exact .inl h
  ·exact .inr ⟨h1, by simp only [T.bind, T.log]; rw [h2]⟩
 | tick k ih => intro S; exact ih S.clk S.tick
 | leak k ih => intro S; exact ih S.leak
variable {cfg : Cfg} {V V' : FuncId → List D → Res LV} {Sh Sh' : FuncId → List LV → St → Res (LV × St)}
theorem TLe.res {α : Type} {r r' : Res α} (h : Le r r') {F : α → T LV} (S : St) : TLe ((T.ofRes r).bind F) ((T.ofRes r').bind F) S := by
 rcases h with rfl | rfl
 ·exact .inl rfl
 ·exact .inr ⟨rfl, rfl⟩
theorem callSh_le (hS : ∀ f l S, Le (Sh f l S) (Sh' f l S)) (f : FuncId) (args : List LV) (S : St) : TLe (callSh Sh f args) (callSh Sh' f args) S := by
 refine TLe.bind (fun as S => TLe.bind (fun objs S => ?_) _ S) _ S;have h : Le (runSh Sh f as objs) (runSh Sh' f as objs) := (hS f as _).bind fun q => .refl _;by_cases hc : (objs.all fun p => objTame (objs.map (·.1)) p.2) = true ∧ (as.all (argTame (objs.map (·.1)))) = true
 ·have := TLe.res h (F := fun q => putsT (objs.map fun p => (p.1, stampO S.clk (q.2.obj p.1))) (.ret q.1)) S.tick;simp only [if_pos hc];exact this
 ·simp only [if_neg hc];exact .inl rfl
open Classical in
theorem callRo_le (hS : ∀ f l S, Le (Sh f l S) (Sh' f l S)) (f : FuncId) (args : List LV) (S : St) : TLe (callRo Sh f args) (callRo Sh' f args) S := by
 refine TLe.bind (fun as S => TLe.bind (fun objs S => ?_) _ S) _ S;have h : Le (runSh Sh f as objs) (runSh Sh' f as objs) := (hS f as _).bind fun q => .refl _;by_cases hc : (objs.all fun p => objTame (objs.map (·.1)) p.2) = true ∧ (as.all (argTame (objs.map (·.1)))) = true
 ·have := TLe.res h (F := fun q => if ∀ p ∈ objs, q.2.obj p.1 = p.2 then .ret q.1 else .no) S.tick;simp only [if_pos hc];exact this
 ·simp only [if_neg hc];exact .inl rfl
theorem callT_le (hV : ∀ f ds, Le (V f ds) (V' f ds)) (hS : ∀ f l S, Le (Sh f l S) (Sh' f l S)) (f : FuncId) (args : List LV) (S : St) : TLe (callT cfg V Sh f args) (callT cfg V' Sh' f args) S := by
 unfold callT;split
 ·exact TLe.bind (fun ds S => TLe.res (hV f ds) S) _ S
 ·exact callSh_le hS f args S
 ·exact callSh_le hS f args S
 ·exact callRo_le hS f args S
 ·exact TLe.bind (fun ds S => TLe.res ((hS f _ _).bind fun q => .refl _) S) _ S
 ·exact TLe.bind (fun ds S => TLe.res ((hS f _ _).bind fun q => .refl _) S) _ S
 ·exact TLe.bind (fun ds S => TLe.res (hV f ds) S) _ S
theorem stepD_le (hV : ∀ f ds, Le (V f ds) (V' f ds)) (hS : ∀ f l S, Le (Sh f l S) (Sh' f l S)) (e : Env) (o : Op) (S : St) : TLe (stepD cfg V Sh e o) (stepD cfg V' Sh' e o) S := by
 unfold stepD;split
 ·exact callT_le hV hS _ _ S
 ·exact .inr ⟨rfl, rfl⟩
theorem TLe.run {α : Type} {t t' : T α} {S : St} (h : TLe t t' S) : Le (t.run S) (t'.run S) := by
 rcases h with h | ⟨h, _⟩
 ·exact .inl h
 ·exact .inr h
theorem step1_le (hV : ∀ f ds, Le (V f ds) (V' f ds)) (hS : ∀ f a S, Le (Sh f a S) (Sh' f a S)) (e : Env) (o : Op) (S : St) : Le (step1 cfg V Sh e o S) (step1 cfg V' Sh' e o S) := by
 unfold step1;split
 ·unfold callS;split
  ·exact hS _ _ _
  ·exact (Le.refl _).bind fun q => hS _ _ _
  ·exact (Le.refl _).bind fun q => hS _ _ _
  ·exact (callT_le hV hS _ _ S).run
 ·split
  ·exact hS _ _ _
  ·exact .refl _
theorem pops_le (hV : ∀ f ds, Le (V f ds) (V' f ds)) (hS : ∀ f a S, Le (Sh f a S) (Sh' f a S)) : ∀ (os : List SOp) (e : Env) (S : St), Le (pops cfg V Sh os e S) (pops cfg V' Sh' os e S) := by
 intro os
 induction os with
 | nil => intro e S; exact .refl _
 | cons o os ih =>
  intro e S;simp only [pops];split
  ·exact (step1_le hV hS e o.op S).bind fun r => ih _ _
  ·exact ih _ _
  ·exact .refl _
theorem popsD_le (hV : ∀ f ds, Le (V f ds) (V' f ds)) (hS : ∀ f l S, Le (Sh f l S) (Sh' f l S)) (nx ck : Nat) : ∀ (os : List SOp) (i : Nat) (e : Env) (S : St) (L : List Log), Le (popsD cfg V Sh nx ck i os e S L) (popsD cfg V' Sh' nx ck i os e S L) := by
 intro os
 induction os with
 | nil => intro i e S L; exact .refl _
 | cons o os ih =>
  intro i e S L;simp only [popsD];split
  ·rcases stepD_le (cfg := cfg) hV hS e o.op ⟨S.obj, nx + 100 * i, ck + 100 * i, S.esc⟩ with h | ⟨h1, h2⟩
   ·rw [h]; exact .inl rfl
   ·rw [h1, h2];refine (Le.refl _).bind fun r => ?_;split
    ·exact ih _ _ _ _
    ·exact .refl _
  ·exact ih _ _ _ _
  ·exact .refl _
theorem loopN_le {f f' : Env → St → Res (Ex × Env × St)} (h : ∀ e S, Le (f e S) (f' e S)) : ∀ (m m' : Nat) (e : Env) (S : St), m ≤ m' → Le (loopN f m e S) (loopN f' m' e S) := by
 intro m
 induction m with
 | zero => intro m' e S _; exact .inl rfl
 | succ m ih =>
  intro m' e S hm
  cases m' with
  | zero => omega
  | succ m' =>
   simp only [loopN];refine (h e S).bind fun r => ?_;split
   ·exact ih m' _ _ (by omega)
   ·exact .refl _
theorem pexec_le (hV : ∀ f ds, Le (V f ds) (V' f ds)) (hS : ∀ f a S, Le (Sh f a S) (Sh' f a S)) {m m' : Nat} (hm : m ≤ m') : ∀ (c : Code) (e : Env) (S : St), Le (pexec cfg V Sh m c e S) (pexec cfg V' Sh' m' c e S) := by
 intro c
 induction c with
 | region id ops draw =>
  intro e S
  cases draw with
  | false => simp only [pexec]; exact (pops_le hV hS _ e S).bind fun r => .refl _
  | true => simp only [pexec]; exact (popsD_le hV hS _ _ _ 0 e S []).bind fun r => .refl _
 | seq x y ihx ihy =>
  intro e S;simp only [pexec];refine (ihx e S).bind fun r => ?_;split
  ·exact ihy _ _
  ·exact .refl _
 | cond c x y ihx ihy =>
  intro e S;simp only [pexec];split
  ·split
   ·exact ihx _ _
   ·exact ihy _ _
  ·exact .refl _
 | block id c ih =>
  intro e S;simp only [pexec];exact (ih e S).bind fun r => .refl _
 | loop c ih =>
  intro e S;simp only [pexec];exact loopN_le ih m m' e S hm
 | rangeFunc g ps as bd _ _ =>
  intro e S;simp only [pexec];split
  ·split
   ·exact .refl _
   ·exact (hS _ _ _).bind fun r => .refl _
  ·exact .refl _
 | _ => intro e S; exact .refl _
theorem callV_le {n m : Nat} (h : ∀ f a S, Le (ev cfg n f a S) (ev cfg m f a S)) (f : FuncId) (ds : List D) : Le (callV cfg n f ds) (callV cfg m f ds) := by
 unfold callV;split
 ·exact .refl _
 ·exact (h _ _ _).bind fun r => .refl _
theorem runY_le {X X' : Code → Env → St → Res (Ex × Env × St)} (h : ∀ c e S, Le (X c e S) (X' c e S)) (id : Nat) (vs : List LV) (S : St) : Le (runY X id vs S) (runY X' id vs S) := by
 unfold runY;split
 ·split
  ·refine (h _ _ _).bind fun r => ?_;split
   ·split
    ·exact (h _ _ _).bind fun q => .refl _
    ·exact .refl _
   ·exact .refl _
  ·exact .refl _
 ·exact .refl _
theorem runL_le {X X' : Code → Env → St → Res (Ex × Env × St)} (h : ∀ c e S, Le (X c e S) (X' c e S)) : ∀ (l : List Code) (e : Env) (S : St), Le (runL X l e S) (runL X' l e S) := by
 intro l
 induction l with
 | nil => intro e S; exact .refl _
 | cons c l ih =>
  intro e S;refine (h c e S).bind fun r => ?_;split
  ·exact ih _ _
  ·exact .refl _
theorem bodyRun_le {X X' : Code → Env → St → Res (Ex × Env × St)} (h : ∀ c e S, Le (X c e S) (X' c e S)) (a : Option Alt) (c : Code) (e : Env) (S : St) : Le (bodyRun X a c e S) (bodyRun X' a c e S) := by
 cases a with
 | none => exact h c e S
 | some q =>
  refine (runL_le h (q.pre ++ [q.head]) e S).bind fun r => ?_;split
  ·exact Le.bind (.refl _) fun m => h _ _ _
  ·exact .refl _
theorem ev_le : ∀ (n m : Nat), n ≤ m → ∀ (f : FuncId) (args : List LV) (S : St), Le (ev cfg n f args S) (ev cfg m f args S) := by
 intro n
 induction n with
 | zero => intro m _ f args S; exact .inl rfl
 | succ n ih =>
  intro m hm f args S
  cases m with
  | zero => omega
  | succ m =>
   rw [ev_succ, ev_succ];have hS := ih m (by omega)
   split
   ·split
    ·exact .refl _
    split
    ·split
     ·exact (bodyRun_le (fun c e S => pexec_le (callV_le hS) hS (by omega) c e S) _ _ _ _).bind fun r => .refl _
     ·exact .refl _
    ·exact .refl _
   ·split
    ·split
     ·exact runY_le (fun c e S => pexec_le (callV_le hS) hS (by omega) c e S) _ _ S
     ·exact .refl _
    ·exact .refl _
end Go.VM
end
section
namespace Go.VM
theorem holds_le {α : Type} {r r' : Res α} {Q : α → Prop} (h : Le r r') (k : r.holds Q) : r'.holds Q := by
 rcases h with rfl | rfl
 ·exact k.elim
 ·exact k
theorem holds_mono {α : Type} {r : Res α} {Q Q' : α → Prop} (h : ∀ a, Q a → Q' a) (k : r.holds Q) : r.holds Q' := by
 cases r with
 | ok a => exact h a k
 | no => exact k
 | vac => trivial
theorem holds_bind {α β : Type} {r : Res α} {f : α → Res β} {Q : β → Prop} : (r.bind f).holds Q ↔ r.holds fun a => (f a).holds Q := by
 cases r <;> exact Iff.rfl
section
variable (cfg : Cfg)
def PX (c : Code) (e : Env) (S : St) (Q : Ex → Env → St → Prop) : Prop := ∃ n, (pexec cfg (callV cfg n) (ev cfg n) n c e S).holds fun r => Q r.1 r.2.1 r.2.2
def PO (os : List SOp) (e : Env) (S : St) (Q : Env → St → Prop) : Prop := ∃ n, (pops cfg (callV cfg n) (ev cfg n) os e S).holds fun r => Q r.1 r.2
def P1 (op : Op) (e : Env) (S : St) (Q : LV → St → Prop) : Prop := ∃ n, (step1 cfg (callV cfg n) (ev cfg n) e op S).holds fun r => Q r.1 r.2
def VQ (f : FuncId) (ds : List D) (Q : LV → Prop) : Prop := ∃ n, (callV cfg n f ds).holds Q
def SQ (f : FuncId) (args : List LV) (S : St) (Q : LV → St → Prop) : Prop := ∃ n, (ev cfg n f args S).holds fun r => Q r.1 r.2
end
variable {cfg : Cfg}
theorem up {n m : Nat} (h : n ≤ m) : (∀ f a S, Le (ev cfg n f a S) (ev cfg m f a S)) ∧ ∀ f ds, Le (callV cfg n f ds) (callV cfg m f ds) :=
 ⟨ev_le n m h, callV_le (ev_le n m h)⟩
theorem PX_up {n m : Nat} (h : n ≤ m) (c : Code) (e : Env) (S : St) : Le (pexec cfg (callV cfg n) (ev cfg n) n c e S) (pexec cfg (callV cfg m) (ev cfg m) m c e S) := pexec_le (up h).2 (up h).1 h c e S
theorem ex_bind {α β : Type} {r : Nat → Res α} {f : Nat → α → Res β} {Q : β → Prop} (hr : ∀ n m, n ≤ m → Le (r n) (r m)) (hf : ∀ n m a, n ≤ m → Le (f n a) (f m a)) :
  (∃ n, ((r n).bind (f n)).holds Q) ↔ ∃ n, (r n).holds fun a => ∃ m, (f m a).holds Q := by
 constructor
 ·rintro ⟨n, h⟩;exact ⟨n, holds_mono (fun a ha => ⟨n, ha⟩) (holds_bind.1 h)⟩
 ·rintro ⟨n, h⟩
  cases hn : r n with
  | ok a =>
   rw [hn] at h;obtain ⟨m, hm⟩ := h;refine ⟨max n m, holds_bind.2 ?_⟩;have h1 := hr n (max n m) (Nat.le_max_left _ _);rw [hn] at h1;rcases h1 with h1 | h1
   ·cases h1
   ·rw [h1];show (f (max n m) a).holds Q;exact holds_le (hf m _ a (Nat.le_max_right _ _)) hm
  | no => rw [hn] at h; exact h.elim
  | vac => exact ⟨n, holds_bind.2 (by rw [hn]; trivial)⟩
theorem ex_const {α : Type} {r : Res α} {Q : α → Prop} : (∃ _ : Nat, r.holds Q) ↔ r.holds Q := ⟨fun ⟨_, h⟩ => h, fun h => ⟨0, h⟩⟩
def Ex.then (x : Ex) (k : Env → St → Prop) (Q : Ex → Env → St → Prop) (e : Env) (S : St) : Prop := match x with | .normal => k e S | x => Q x e S
theorem then_normal {k : Env → St → Prop} {Q : Ex → Env → St → Prop} {e : Env} {S : St} : Ex.then .normal k Q e S ↔ k e S := Iff.rfl
theorem then_exit {k : Env → St → Prop} {Q : Ex → Env → St → Prop} {e : Env} {S : St} {id : Nat} : Ex.then (.exit id) k Q e S ↔ Q (.exit id) e S := Iff.rfl
theorem then_ret {k : Env → St → Prop} {Q : Ex → Env → St → Prop} {e : Env} {S : St} : Ex.then .ret k Q e S ↔ Q .ret e S := Iff.rfl
def Ex.out (x : Ex) (id : Nat) (Q : Ex → Env → St → Prop) (e : Env) (S : St) : Prop := match x with | .exit j => if j = id then Q .normal e S else Q (.exit j) e S | x => Q x e S
theorem out_normal {Q : Ex → Env → St → Prop} {e : Env} {S : St} {id : Nat} : Ex.out .normal id Q e S ↔ Q .normal e S := Iff.rfl
theorem out_exit {Q : Ex → Env → St → Prop} {e : Env} {S : St} {id j : Nat} : Ex.out (.exit j) id Q e S ↔ if j = id then Q .normal e S else Q (.exit j) e S := Iff.rfl
theorem out_ret {Q : Ex → Env → St → Prop} {e : Env} {S : St} {id : Nat} : Ex.out .ret id Q e S ↔ Q .ret e S := Iff.rfl
variable {e : Env} {S : St} {Q Q' : Ex → Env → St → Prop}
theorem PX_mono {c : Code} (h : PX cfg c e S Q) (hq : ∀ x e S, Q x e S → Q' x e S) : PX cfg c e S Q' := by
 obtain ⟨n, h⟩ := h;exact ⟨n, holds_mono (fun a ha => hq _ _ _ ha) h⟩
theorem PX_skip : PX cfg .skip e S Q ↔ Q .normal e S := ex_const
theorem PX_exit {id : Nat} : PX cfg (.exit id) e S Q ↔ Q (.exit id) e S := ex_const
theorem PX_ret : PX cfg .ret e S Q ↔ Q .ret e S := ex_const
theorem PX_seq {x y : Code} : PX cfg (.seq x y) e S Q ↔ PX cfg x e S fun ex e' S' => ex.then (fun e' S' => PX cfg y e' S' Q) Q e' S' := by
 unfold PX;simp only [pexec];rw [ex_bind (fun n m h => PX_up h x e S) (fun n m a h => by
  split
  ·exact PX_up h y _ _
  ·exact .refl _)]
 refine exists_congr fun n => ?_;have : ∀ a : Ex × Env × St, (∃ m, (match a.1 with | .normal => pexec cfg (callV cfg m) (ev cfg m) m y a.2.1 a.2.2 | x => Res.ok (x, a.2)).holds fun r => Q r.1 r.2.1 r.2.2) ↔
   Ex.then a.1 (fun e' S' => ∃ n, (pexec cfg (callV cfg n) (ev cfg n) n y e' S').holds fun r => Q r.1 r.2.1 r.2.2) Q a.2.1 a.2.2 := by
  intro a;obtain ⟨x1, e1, S1⟩ := a
  cases x1 with
  | normal => exact Iff.rfl
  | exit id => exact ex_const
  | ret => exact ex_const
 exact ⟨holds_mono fun a h => (this a).1 h, holds_mono fun a h => (this a).2 h⟩
theorem PX_block {c : Code} {id : Nat} : PX cfg (.block id c) e S Q ↔ PX cfg c e S fun ex e' S' => ex.out id Q e' S' := by
 unfold PX;refine exists_congr fun n => ?_;simp only [pexec];rw [holds_bind];have : ∀ a : Ex × Env × St, ((match a.1 with | .exit j => if j = id then Res.ok (Ex.normal, a.2) else .ok (.exit j, a.2) | x => Res.ok (x, a.2)).holds fun r => Q r.1 r.2.1 r.2.2) ↔ Ex.out a.1 id Q a.2.1 a.2.2 := by
  intro a;obtain ⟨x1, e1, S1⟩ := a
  cases x1 with
  | normal => exact Iff.rfl
  | exit j =>
   simp only [Ex.out];split <;> exact Iff.rfl
  | ret => exact Iff.rfl
 exact ⟨holds_mono fun a h => (this a).1 h, holds_mono fun a h => (this a).2 h⟩
def whenB (v : LV) (k : Bool → Prop) : Prop := match v with | .d (.bool t) => k t | _ => False
def whenW (w : Bool) (v : LV) (k : Bool → Prop) : Prop := match v with | .d (.bool t) => k t | .tup [] => k (!w) | _ => False
theorem whenW_bool {w t : Bool} {k : Bool → Prop} : whenW w (.d (.bool t)) k ↔ k t := Iff.rfl
theorem whenW_skt {k : Bool → Prop} : whenW true (.tup []) k ↔ k false := Iff.rfl
theorem whenW_skf {k : Bool → Prop} : whenW false (.tup []) k ↔ k true := Iff.rfl
theorem whenB_bool {t : Bool} {k : Bool → Prop} : whenB (.d (.bool t)) k ↔ k t := Iff.rfl
def fork (c A B : Prop) : Prop := (c → A) ∧ (¬ c → B)
theorem fork_yes {A B : Prop} : fork True A B ↔ A := by simp [fork]
theorem fork_no {A B : Prop} : fork False A B ↔ B := by simp [fork]
theorem fork_not {c A B : Prop} : fork (¬ c) A B ↔ fork c B A := by
 unfold fork;by_cases h : c <;> simp [h]
theorem PX_cond {c : Operand} {x y : Code} : PX cfg (.cond c x y) e S Q ↔ whenB (Operand.lv e c) fun t => fork (t = true) (PX cfg x e S Q) (PX cfg y e S Q) := by
 unfold PX whenB;simp only [pexec];generalize Operand.lv e c = v
 cases v with
 | d v =>
  cases v with
  | bool t => cases t <;> simp [fork]
  | _ => exact ex_const
 | _ => exact ex_const
theorem PX_region {id : Nat} {ops : Array Oper} : PX cfg (.region id ops false) e S Q ↔ PO cfg (ops.toList.map (sop ops.toList)) e S fun e' S' => Q .normal e' S' := by
 unfold PX PO;refine exists_congr fun n => ?_;simp only [pexec];rw [holds_bind];exact Iff.rfl
theorem PX_round {c : Code} (h : PX cfg c e S fun x e' S' => x.then (fun e' S' => PX cfg (.loop c) e' S' Q) Q e' S') : PX cfg (.loop c) e S Q := by
 obtain ⟨n, h⟩ := h
 cases hn : pexec cfg (callV cfg n) (ev cfg n) n c e S with
 | no => rw [hn] at h; exact h.elim
 | vac =>
  refine ⟨n + 1, ?_⟩;have := PX_up (cfg := cfg) (Nat.le_succ n) c e S;rw [hn] at this;rcases this with this | this
  ·cases this
  ·simp only [pexec, loopN]; rw [this]; trivial
 | ok a =>
  rw [hn] at h;obtain ⟨x1, e1, S1⟩ := a;have hx : ∀ m, n ≤ m → pexec cfg (callV cfg m) (ev cfg m) m c e S = .ok (x1, e1, S1) := by
   intro m hm;have := PX_up (cfg := cfg) hm c e S;rw [hn] at this;rcases this with this | this
   ·cases this
   ·exact this
  cases x1 with
  | normal =>
   obtain ⟨m, hm⟩ : ∃ m, (pexec cfg (callV cfg m) (ev cfg m) m (.loop c) e1 S1).holds fun r => Q r.1 r.2.1 r.2.2 := h;refine ⟨max n m + 1, ?_⟩;simp only [pexec, loopN];rw [hx _ (by omega)]
   show (loopN (pexec cfg (callV cfg (max n m + 1)) (ev cfg (max n m + 1)) (max n m + 1) c) (max n m) e1 S1).holds _;refine holds_le ?_ hm;simp only [pexec];exact loopN_le (fun e S => PX_up (by omega) c e S) m (max n m) e1 S1 (by omega)
  | exit id =>
   refine ⟨n + 1, ?_⟩;simp only [pexec, loopN];rw [hx _ (by omega)]; exact h
  | ret =>
   refine ⟨n + 1, ?_⟩;simp only [pexec, loopN];rw [hx _ (by omega)]; exact h
theorem PX_loop {β : Type} {c : Code} (I : β → Env → St → Prop) (μ : β → Nat) (b : β) (h0 : I b e S)
  (hr : ∀ b e S, I b e S → PX cfg c e S fun x e' S' => x.then (fun e' S' => ∃ b', I b' e' S' ∧ μ b' < μ b) Q e' S') : PX cfg (.loop c) e S Q := by
 have key : ∀ (k : Nat) (b : β) (e : Env) (S : St), μ b < k → I b e S → PX cfg (.loop c) e S Q := by
  intro k
  induction k with
  | zero => intro b e S h; omega
  | succ k ih =>
   intro b e S hk hI;refine PX_round (PX_mono (hr b e S hI) fun x e' S' hx => ?_)
   cases x with
   | normal =>
    obtain ⟨b', h1, h2⟩ := hx;exact ih b' e' S' (by omega) h1
   | exit id => exact hx
   | ret => exact hx
 exact key (μ b + 1) b e S (by omega) h0
end Go.VM
end
