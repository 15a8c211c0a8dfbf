/- Maps from texts to numbers that the call owns: a list of entries by rising names. -/
import Derived.Test.YtcojlgkfkifhmaaDoorStr
import Derived.Maps.OwnSet
import Derived.Maps.Range
namespace Sg
open Go Go.RowKit Go.ChangeMaps Go.MapKept
open Go.WideElems (Fit rd rg)
open Go.Maps (Keyed)
abbrev D0 := DataW Unit
/- Plain: entries. -/
abbrev Ents := List (List UInt8 × Int)
def entD (p : List UInt8 × Int) : Lit × D0 := (.string p.1, .lit (.int .i64 p.2))
def mapD (m : Ents) : D0 := .map (m.map entD)
def eget (m : Ents) (k : List UInt8) : Option Int := (m.find? fun p => p.1 == k).map (·.2)
def edel (m : Ents) (k : List UInt8) : Ents := m.filter fun p => !(p.1 == k)
def eins (x : List UInt8 × Int) : Ents → Ents
  | [] => [x]
  | y :: r => if (Lit.string x.1).before (.string y.1) then x :: y :: r else y :: eins x r
def eput (m : Ents) (k : List UInt8) (v : Int) : Ents := eins (k, v) (edel m k)
theorem mapD_at (m : Ents) (k : List UInt8) : (mapD m).atKey (.string k) (.lit (.int .i64 0)) = .lit (.int .i64 ((eget m k).getD 0)) := by
  unfold mapD DataW.atKey eget
  simp only
  induction m with
  | nil => rfl
  | cons p m ih =>
    simp only [List.map_cons, List.find?_cons, entD, Lit.sameKey]
    cases p.1 == k with
    | true => rfl
    | false => exact ih
theorem mapD_atz (m : Ents) (k : List UInt8) (zd : D0) : (mapD m).atKey (.string k) zd = match eget m k with
    | some v => .lit (.int .i64 v)
    | none => zd := by
  unfold mapD DataW.atKey eget
  simp only
  induction m with
  | nil => rfl
  | cons p m ih =>
    simp only [List.map_cons, List.find?_cons, entD, Lit.sameKey]
    cases p.1 == k with
    | true => rfl
    | false => exact ih
theorem mapD_has (m : Ents) (k : List UInt8) : Maps.has (mapD m) (.string k) = (eget m k).isSome := by
  unfold mapD eget
  rw [Maps.has_eq]
  induction m with
  | nil => rfl
  | cons p m ih =>
    rw [List.map_cons, List.any_cons, ih, List.find?_cons]
    show ((p.1 == k) || _) = _
    cases p.1 == k <;> rfl
theorem mapD_size (m : Ents) : Maps.size (mapD m) = m.length := by
  unfold mapD
  rw [Maps.size_eq, List.length_map]
theorem mapD_del (m : Ents) (k : List UInt8) : (mapD m).del (.string k) = mapD (edel m k) := by
  unfold mapD DataW.del edel
  simp only [List.filter_map, DataW.map.injEq]
  rfl
theorem mapD_ins (x : List UInt8 × Int) : ∀ m : Ents, DataW.insert (entD x) (m.map entD) = (eins x m).map entD
  | [] => rfl
  | y :: r => by
    rw [List.map_cons, DataW.insert, eins]
    show (if (Lit.string x.1).before (.string y.1) then _ else _) = _
    by_cases h : (Lit.string x.1).before (.string y.1) = true
    · rw [if_pos h, if_pos h]; rfl
    · rw [if_neg h, if_neg h, mapD_ins x r]; rfl
theorem mapD_put (m : Ents) (k : List UInt8) (v : Int) : (mapD m).put (.string k) (.lit (.int .i64 v)) = mapD (eput m k v) := by
  have h := mapD_del m k
  unfold mapD DataW.del at h
  unfold mapD DataW.put eput
  simp only [DataW.map.injEq] at h ⊢
  rw [h]
  exact mapD_ins (k, v) (edel m k)
/- The resource. -/
def mapQ (P : Program) (k e : TypeId) (n : Nat) (D : D0) (o : Obj) : Prop :=
  ∃ es clock, o = .map es clock ∧ Fit P k (plainElem (H := Unit) P e) es clock ∧ es.size ≤ n ∧ D = .map ((es.toList.map (rg P k (plainElem (H := Unit) P e))).foldr DataW.insert [])
abbrev Res.mp (P : Program) (k e : TypeId) (b n : Nat) (m : Ents) : Res := .ex b (mapQ P k e n (mapD m))
theorem mapQ_iff {P : Program} {w : World} {k e : TypeId} {b n : Nat} {D : D0} : (Res.ex b (mapQ P k e n D)).holds w ↔ w.ownsMap P k (plainElem P e) b n D :=
  ⟨fun ⟨_, h1, es, clock, h2, h3⟩ => by subst h2; exact ⟨es, clock, h1, h3⟩, fun ⟨es, clock, h1, h3⟩ => ⟨_, h1, es, clock, rfl, h3⟩⟩
class InE (H : List Res) (b : Nat) (Q : outParam (Obj → Prop)) : Prop where
  h : Res.ex b Q ∈ H
instance InE.hd {H : List Res} {b : Nat} {Q : Obj → Prop} : InE (.ex b Q :: H) b Q := ⟨List.mem_cons_self ..⟩
instance InE.tl {H : List Res} {b : Nat} {Q : Obj → Prop} {r : Res} [h : InE H b Q] : InE (r :: H) b Q := ⟨List.mem_cons_of_mem _ h.h⟩
instance Fr.hdE {H : List Res} {b : Nat} {Q : Obj → Prop} : Fr (.ex b Q :: H) b (.ex b Q :: H) := ⟨.refl _⟩
section
variable {c : Ctx} {dr : Bool} {ds : List Deferred} {H : List Res} {e : Env} {ops : Array Oper} {l : List Oper} {κ : List Res → Env → Prop} {dst : Option Tmp} {ty : TypeId} {pos : String} {aft : Array Edge} {g : Option (Nat × Bool)} {q : Mode}
theorem sV_key {P : Program} {k : TypeId} (hk : P.underlying k = some .string) {kk : List UInt8} (hl : kk.length ≤ maxLen) : keyOf P k (sV kk) = some (.string kk) := WideMaps.keyOf_string_mk hk (s := ByteArray.mk kk.toArray) hl
theorem Pu.mapLook {x y : Operand} {b n : Nat} {m : Ents} {kk : List UInt8} {t k E : TypeId} [HU c.P t (.map k E)] [HU c.P k .string] [HU c.P E (.int .i64)] {sz by_ : Nat} [HI c.P E (.int .i64 0) sz by_] (hx : ev e x = some (.map (some b))) (hy : ev e y = some (sV kk)) (hl : kk.length ≤ maxLen) (hm : InE H b (mapQ c.P k E n (mapD m))) :
    Pu c H e ⟨dst, .lookup t x y false, ty, pos, aft, g⟩ (.int .i64 ((eget m kk).getD 0)) := fun w a hw ha => by
  have hown := mapQ_iff.1 (hw.res _ hm.h)
  obtain ⟨v, hrun, hat, _⟩ := hown.lookup_int (Maps.string_keyed HU.h) (HU.h (P := c.P) (t := t)) (HU.h (P := c.P) (t := E)) (run_zero w) (sV_key (P := c.P) (k := k) HU.h hl)
  rw [mapD_at] at hat
  simp only [DataW.lit.injEq, Lit.int.injEq, true_and] at hat
  subst hat
  simp [execOp, ha.ev hx, ha.ev hy, hrun]
theorem Pu.mapOk {x y : Operand} {b n : Nat} {m : Ents} {kk : List UInt8} {t k E : TypeId} [HU c.P t (.map k E)] [HU c.P k .string] [HU c.P E (.int .i64)] {sz by_ : Nat} [HI c.P E (.int .i64 0) sz by_] (hx : ev e x = some (.map (some b))) (hy : ev e y = some (sV kk)) (hl : kk.length ≤ maxLen) (hm : InE H b (mapQ c.P k E n (mapD m))) :
    Pu c H e ⟨dst, .lookup t x y true, ty, pos, aft, g⟩ (.tuple ⟨[.int .i64 ((eget m kk).getD 0), .bool (eget m kk).isSome]⟩) := fun w a hw ha => by
  have hown := mapQ_iff.1 (hw.res _ hm.h)
  obtain ⟨v, ps, hrun, hv⟩ := hown.look_ok (Maps.string_keyed HU.h) (HU.h (P := c.P) (t := t)) (run_zero w) (plainElem_int (q := .i64) (a := 0) (HU.h (P := c.P) (t := E)) (by decide)) (sV_key (P := c.P) (k := k) HU.h hl)
  obtain ⟨z, rfl, hz, _⟩ := plainElem_int_inv HU.h hv
  rw [mapD_at] at hz
  simp only [Prod.mk.injEq, DataW.lit.injEq, Lit.int.injEq, true_and] at hz
  rw [mapD_has] at hrun
  simp [execOp, ha.ev hx, ha.ev hy, hrun, hz.1]
theorem Pu.mapLen {x : Operand} {b n : Nat} {m : Ents} {t k E : TypeId} [HU c.P t (.map k E)] (hx : ev e x = some (.map (some b))) (hm : InE H b (mapQ c.P k E n (mapD m))) :
    Pu c H e ⟨dst, .call ⟨.builtin .len, #[x], #[t]⟩, ty, pos, aft, g⟩ (.int .i64 (m.length : Nat)) := fun w a hw ha => by
  have hown := mapQ_iff.1 (hw.res _ hm.h)
  have hrun := hown.len (HU.h (P := c.P) (t := t)) ty
  rw [mapD_size] at hrun
  simp [execOp, ha.ev hx, resolve, invoke, builtin, hrun]
theorem St.turnMap {F : World} {M : List Nat} {w w' : World} {H : List Res} {b : Nat} {Q Q' : Obj → Prop} (h : St F M w (.ex b Q :: H)) (hg : w.grownBy w' (some b)) (hr : (Res.ex b Q').holds w') : St F M w' (.ex b Q' :: H) :=
  h.turn hg.os hg.tape hg.output hg.size (fun j hj hn => hg.block j hj (by simpa [Res.foot] using hn)) hr (fun c hc => .inl hc) (by simp [Res.foot])
theorem Ef.mapMake {t k E : TypeId} [HU c.P t (.map k E)] : Ef c H e ⟨dst, .makeMap t none, ty, pos, aft, g⟩ fun v H' => ∃ b, v = .map (some b) ∧ H' = .ex b (mapQ c.P k E 0 (mapD [])) :: H := fun w a hw ha => by
  refine ⟨.map (some w.heap.size), w.alloc (.map #[] 0), _, .inl ?_, ?_, w.heap.size, rfl, rfl⟩
  · simp [execOp, run_makeMap]
  · exact hw.fresh rfl rfl rfl (by simp) (fun j hj => Below.heap_alloc _ _ _ hj) (mapQ_iff.2 (World.ownsMap_made w c.P k (plainElem c.P E))) (by simp [Res.foot]) (by simp [Res.foot])
theorem Ef.mapPut {x y u : Operand} {b n : Nat} {m : Ents} {kk : List UInt8} {z : Int} {t k E : TypeId} [HU c.P t (.map k E)] [HU c.P k .string] [HU c.P E (.int .i64)] (hx : ev e x = some (.map (some b))) (hy : ev e y = some (sV kk)) (hu : ev e u = some (.int .i64 z)) (hl : kk.length ≤ maxLen) (hn : n < maxLen) (hz : (Lit.int .i64 z).wf = true) :
    Ef c (.ex b (mapQ c.P k E n (mapD m)) :: H) e ⟨dst, .mapUpdate t x y u, ty, pos, aft, g⟩ fun v H' => v = undef ∧ H' = .ex b (mapQ c.P k E (n + 1) (mapD (eput m kk z))) :: H := fun w a hw ha => by
  have hown := mapQ_iff.1 (hw.res _ (List.mem_cons_self ..))
  obtain ⟨w', hrun, hown', hg⟩ := hown.update (Maps.string_keyed HU.h) (HU.h (P := c.P) (t := t)) hn (sV_key (P := c.P) (k := k) HU.h hl) (plainElem_int (q := .i64) (a := z) (HU.h (P := c.P) (t := E)) hz)
  rw [mapD_put] at hown'
  refine ⟨undef, w', _, .inr ⟨?_, rfl⟩, St.turnMap hw hg (mapQ_iff.2 hown'), rfl, rfl⟩
  simp [execOp, ha.ev hx, ha.ev hy, ha.ev hu, hrun]
theorem Ef.mapDel {x y : Operand} {b n : Nat} {m : Ents} {kk : List UInt8} {t k E : TypeId} [HU c.P t (.map k E)] [HU c.P k .string] (hx : ev e x = some (.map (some b))) (hy : ev e y = some (sV kk)) (hl : kk.length ≤ maxLen) :
    Ef c (.ex b (mapQ c.P k E n (mapD m)) :: H) e ⟨dst, .call ⟨.builtin .delete, #[x, y], #[t, k]⟩, ty, pos, aft, g⟩ fun v H' => v = .tuple #[] ∧ H' = .ex b (mapQ c.P k E n (mapD (edel m kk))) :: H := fun w a hw ha => by
  have hown := mapQ_iff.1 (hw.res _ (List.mem_cons_self ..))
  obtain ⟨w', hrun, hown', hg⟩ := hown.drop (Maps.string_keyed HU.h) (HU.h (P := c.P) (t := t)) (sV_key (P := c.P) (k := k) HU.h hl) ty
  rw [mapD_del] at hown'
  refine ⟨.tuple #[], w', _, .inl ?_, St.turnMap hw hg.grown (mapQ_iff.2 hown'), rfl, rfl⟩
  simp [execOp, ha.ev hx, ha.ev hy, resolve, invoke, builtin, hrun]
/- A range over a map. -/
def rngQ (P : Program) (k e : TypeId) (b n : Nat) (D : D0) (left : Lit → Bool) (cnt : Nat) (o o' : Obj) : Prop :=
  ∃ es clock since seen c0, o = .map es clock ∧ Fit P k (plainElem (H := Unit) P e) es clock ∧ es.size ≤ n ∧ D = .map ((es.toList.map (rg P k (plainElem (H := Unit) P e))).foldr DataW.insert []) ∧
    o' = .mapIter (some b) since seen c0 ∧ (∀ x ∈ es.toList, x.born < since) ∧ (leftOf es seen).size = cnt ∧
    (∀ x ∈ es.toList, left (rg P k (plainElem (H := Unit) P e) x).1 = !seen.contains x.born) ∧ (∀ kl, left kl = true → ∃ x ∈ es.toList, (rg P k (plainElem (H := Unit) P e) x).1 = kl) ∧ since ≤ c0 ∧ since ≤ clock
theorem rngQ_iff {P : Program} {w : World} {k e : TypeId} {b r n : Nat} {D : D0} {left : Lit → Bool} {cnt : Nat} : (Res.ex2 b r (rngQ P k e b n D left cnt)).holds w ↔ w.ranges P k (plainElem P e) b r n D left cnt :=
  ⟨fun ⟨_, _, h1, h2, es, clock, since, seen, c0, e1, f1, f2, f3, e2, f4⟩ => by subst e1 e2; exact ⟨es, clock, since, seen, c0, h1, f1, f2, f3, h2, f4⟩,
   fun ⟨es, clock, since, seen, c0, h1, f1, f2, f3, h2, f4⟩ => ⟨_, _, h1, h2, es, clock, since, seen, c0, rfl, f1, f2, f3, rfl, f4⟩⟩
/-- A range that has just come to an entry. -/
def curQ (P : Program) (k e : TypeId) (b r n : Nat) (D : D0) (left : Lit → Bool) (cnt : Nat) (kk : List UInt8) (z : Int) (o o' : Obj) : Prop :=
  rngQ P k e b n D left cnt o o' ∧ ∀ w : World, w.heap[b]? = some o → w.heap[r]? = some o' → (Instr.entry (.pointer (some ⟨r, 0, none⟩))).run P w = .ok (.tuple ⟨[sV kk, .int .i64 z]⟩) w
theorem entry_same {P : Program} {w w' : World} {b r : Nat} {es : Array MapEntry} {clock since c0 : Nat} {seen : Array Nat} {v : Value} (hb : w.heap[b]? = some (.map es clock)) (hr : w.heap[r]? = some (.mapIter (some b) since seen c0))
    (hb' : w'.heap[b]? = some (.map es clock)) (hr' : w'.heap[r]? = some (.mapIter (some b) since seen c0)) (h : (Instr.entry (.pointer (some ⟨r, 0, none⟩))).run P w = .ok v w) : (Instr.entry (.pointer (some ⟨r, 0, none⟩))).run P w' = .ok v w' := by
  have g1 : ∀ {u : World}, u.heap[r]? = some (.mapIter (some b) since seen c0) → (getObj r).run P u = .ok (.mapIter (some b) since seen c0) u := fun hu => by simp [getObj, Sem.run, hu]
  have g2 : ∀ {u : World}, u.heap[b]? = some (.map es clock) → (getObj b).run P u = .ok (.map es clock) u := fun hu => run_getObj_map hu
  simp only [Instr.entry, Sem.run_bind, g1 hr, g1 hr', Result.andThen] at h ⊢
  generalize seen.back? = ob at h ⊢
  cases ob with
  | none => cases h
  | some st =>
    dsimp only at h ⊢
    simp only [Sem.run_bind, g2 hb, g2 hb', Result.andThen] at h ⊢
    by_cases hc : (clock != c0) = true
    · rw [if_pos hc] at h
      cases h
    · rw [if_neg hc] at h ⊢
      generalize es.find? (fun x => x.born == st) = oe at h ⊢
      cases oe with
      | none => cases h
      | some en =>
        dsimp only at h ⊢
        rw [Sem.run_pure] at h ⊢
        cases h
        rfl
theorem Ef.mapRange {x : Operand} {b n : Nat} {m : Ents} {t k E : TypeId} [HU c.P t (.map k E)] [HU c.P k .string] (hx : ev e x = some (.map (some b))) :
    Ef c (.ex b (mapQ c.P k E n (mapD m)) :: H) e ⟨dst, .range t x, ty, pos, aft, g⟩ fun v H' => ∃ r, v = .pointer (some ⟨r, 0, none⟩) ∧ H' = .ex2 b r (rngQ c.P k E b n (mapD m) (Maps.has (mapD m)) m.length) :: H := fun w a hw ha => by
  have hown := mapQ_iff.1 (hw.res _ (List.mem_cons_self ..))
  obtain ⟨w', hrun, hr, hg, hsz⟩ := hown.range (Maps.string_keyed HU.h) (HU.h (P := c.P) (t := t))
  rw [mapD_size] at hr
  refine ⟨_, w', _, .inl ?_, ?_, w.heap.size, rfl, rfl⟩
  · simp [execOp, ha.ev hx, hrun]
  · have hne := hr.ne
    refine hw.turn hg.os hg.tape hg.output hg.size (fun j hj _ => hg.block j hj (by simp)) (rngQ_iff.2 hr) (fun q hq => ?_) ?_
    · simp only [Res.foot, List.mem_cons, List.not_mem_nil, or_false] at hq
      rcases hq with rfl | rfl
      · exact .inl (by simp [Res.foot])
      · exact .inr (Nat.le_refl _)
    · simp only [Res.foot, List.nodup_cons, List.mem_cons, List.not_mem_nil, or_false, not_false_eq_true, List.nodup_nil, and_true]
      exact fun h => hne h.symm
theorem Ef.mapNext {x : Operand} {b r n : Nat} {m : Ents} {left : Lit → Bool} {cnt : Nat} {k E : TypeId} [HU c.P k .string] [HU c.P E (.int .i64)] (hx : ev e x = some (.pointer (some ⟨r, 0, none⟩))) :
    Ef c (.ex2 b r (rngQ c.P k E b n (mapD m) left cnt) :: H) e ⟨dst, .next x false, ty, pos, aft, g⟩ fun v H' => (v = .tuple #[.bool false] ∧ (∀ kl, left kl = false) ∧ H' = .ex2 b r (rngQ c.P k E b n (mapD m) left cnt) :: H) ∨
      ∃ kk z cnt', v = .tuple #[.bool true, sV kk, .int .i64 z] ∧ left (.string kk) = true ∧ eget m kk = some z ∧ kk.length ≤ maxLen ∧ cnt' < cnt ∧ H' = .ex2 b r (curQ c.P k E b r n (mapD m) (fun l => left l && !l.sameKey (.string kk)) cnt' kk z) :: H := fun w a hw ha => by
  have hrng := rngQ_iff.1 (hw.res _ (List.mem_cons_self ..))
  rcases hrng.next (Maps.string_keyed HU.h) ty with ⟨_, hl, hrun⟩ | ⟨key, v, kl, y, w', cnt', hkey, hleft, hv, hat, hrun, hr', hc, hg, hsz, hent⟩
  · exact ⟨_, w, _, .inl (by simp [execOp, ha.ev hx, hrun]), hw, .inl ⟨rfl, hl, rfl⟩⟩
  · obtain ⟨s, rfl, rfl, hsl⟩ := WideMaps.string_of_keyOf (HU.h (P := c.P) (t := k)) hkey
    obtain ⟨z, rfl, rfl, _⟩ := plainElem_int_inv (HU.h (P := c.P) (t := E)) hv
    have hget : eget m s.data.toList = some z := by
      have h := hat .nil
      rw [mapD_atz] at h
      cases hm : eget m s.data.toList with
      | none => rw [hm] at h; cases h
      | some z' => rw [hm] at h; simp only [DataW.lit.injEq, Lit.int.injEq, true_and] at h; rw [h]
    rw [sV_of s] at hrun hent
    refine ⟨_, w', _, .inl (by simp [execOp, ha.ev hx, hrun]), ?_, .inr ⟨s.data.toList, z, cnt', rfl, hleft, hget, hsl, hc, rfl⟩⟩
    have hcur : (Res.ex2 b r (curQ c.P k E b r n (mapD m) (fun l => left l && !l.sameKey (.string s.data.toList)) cnt' s.data.toList z)).holds w' := by
      obtain ⟨o, o', h1, h2, h3⟩ := rngQ_iff.2 hr'
      refine ⟨o, o', h1, h2, h3, fun u hu1 hu2 => ?_⟩
      obtain ⟨es, clock, since, seen, c0, rfl, _, _, _, rfl, _⟩ := h3
      exact entry_same h1 h2 hu1 hu2 hent
    have hnd := hw.nd
    refine hw.turn hg.os hg.tape hg.output hg.size (fun j hj hn => hg.block j hj (fun h => hn (by simp only [Option.some.injEq] at h; simp [Res.foot, h]))) hcur (fun q hq => .inl (by simpa [Res.foot] using hq)) ?_
    simp only [feet, List.flatMap_cons, List.nodup_append] at hnd
    exact hnd.1
theorem Pu.mapEntry {x : Operand} {b r n : Nat} {D : D0} {left : Lit → Bool} {cnt : Nat} {kk : List UInt8} {z : Int} {k E : TypeId} (hx : ev e x = some (.pointer (some ⟨r, 0, none⟩))) :
    Pu c (.ex2 b r (curQ c.P k E b r n D left cnt kk z) :: H) e ⟨dst, .entry x, ty, pos, aft, g⟩ (.tuple ⟨[sV kk, .int .i64 z]⟩) := fun w a hw ha => by
  obtain ⟨o, o', h1, h2, _, h3⟩ := hw.res _ (List.mem_cons_self ..)
  have hrun := h3 w h1 h2
  simp [execOp, ha.ev hx, hrun]
/-- The entry is known no more. -/
theorem St.uncur {P : Program} {F : World} {M : List Nat} {w : World} {b r n : Nat} {D : D0} {left : Lit → Bool} {cnt : Nat} {kk : List UInt8} {z : Int} {k E : TypeId} (h : St F M w (.ex2 b r (curQ P k E b r n D left cnt kk z) :: H)) : St F M w (.ex2 b r (rngQ P k E b n D left cnt) :: H) :=
  h.weakB (fun _ h => h) h.nd fun q hq => by
    rcases List.mem_cons.1 hq with rfl | hq
    · obtain ⟨o, o', h1, h2, h3, _⟩ := h.res _ (List.mem_cons_self ..)
      exact ⟨o, o', h1, h2, h3⟩
    · exact h.res q (List.mem_cons_of_mem _ hq)
/-- The range is over. -/
theorem St.unrange {P : Program} {F : World} {M : List Nat} {w : World} {b r n : Nat} {D : D0} {left : Lit → Bool} {cnt : Nat} {k E : TypeId} (h : St F M w (.ex2 b r (rngQ P k E b n D left cnt) :: H)) : St F M w (.ex b (mapQ P k E n D) :: H) := by
  have hnd := h.nd
  simp only [feet, List.flatMap_cons] at hnd
  refine h.weakB (fun q hq => ?_) ?_ fun q hq => ?_
  · simp only [feet, List.flatMap_cons, List.mem_append, Res.foot, List.mem_cons, List.not_mem_nil, or_false] at hq ⊢
    rcases hq with hq | hq
    · exact .inl (.inl hq)
    · exact .inr hq
  · simp only [feet, List.flatMap_cons]
    refine hnd.sublist ?_
    exact List.Sublist.append_right (List.Sublist.cons_cons b (List.nil_sublist _)) _
  · rcases List.mem_cons.1 hq with rfl | hq
    · exact mapQ_iff.2 (rngQ_iff.1 (h.res _ (List.mem_cons_self ..))).owns
    · exact h.res q (List.mem_cons_of_mem _ hq)
theorem Ef.mapRangeDel {x y : Operand} {b r n : Nat} {m : Ents} {left : Lit → Bool} {cnt : Nat} {kk : List UInt8} {t k E : TypeId} [HU c.P t (.map k E)] [HU c.P k .string] (hx : ev e x = some (.map (some b))) (hy : ev e y = some (sV kk)) (hl : kk.length ≤ maxLen) :
    Ef c (.ex2 b r (rngQ c.P k E b n (mapD m) left cnt) :: H) e ⟨dst, .call ⟨.builtin .delete, #[x, y], #[t, k]⟩, ty, pos, aft, g⟩ fun v H' => v = .tuple #[] ∧ ∃ cnt', cnt' ≤ cnt ∧ H' = .ex2 b r (rngQ c.P k E b n (mapD (edel m kk)) (fun l => left l && !l.sameKey (.string kk)) cnt') :: H := fun w a hw ha => by
  have hrng := rngQ_iff.1 (hw.res _ (List.mem_cons_self ..))
  obtain ⟨w', cnt', hrun, hr', hc, hg⟩ := hrng.drop (Maps.string_keyed HU.h) (HU.h (P := c.P) (t := t)) (sV_key (P := c.P) (k := k) HU.h hl) ty
  rw [mapD_del] at hr'
  refine ⟨.tuple #[], w', _, .inl ?_, ?_, rfl, cnt', hc, rfl⟩
  · simp [execOp, ha.ev hx, ha.ev hy, resolve, invoke, builtin, hrun]
  · have hg' := hg.grown
    have hnd := hw.nd
    refine hw.turn hg'.os hg'.tape hg'.output hg'.size (fun j hj hn => hg'.block j hj (fun h => hn (by simp only [Option.some.injEq] at h; simp [Res.foot, h]))) (rngQ_iff.2 hr') (fun q hq => .inl (by simpa [Res.foot] using hq)) ?_
    simp only [feet, List.flatMap_cons, List.nodup_append] at hnd
    exact hnd.1
end
end Sg
