/- Texts put together by a program: Mark MoreB MoreC Str Map MapT ShaP Word MapU StrB JsnP JsnU JsnM JsnQ JsnA Rune JsnB JsnR JsnC JsnD JsnK JsnE JsnF DecP DecA. -/
import Derived.Test.YtnimcchalinihaaDoorRecs
import Derived.Laws.Strings
import Derived.Laws.Strings2
import Derived.Laws.Slices
import Derived.Laws.BytesString
import Derived.Maps.OwnSet
import Derived.Maps.Range
import Derived.Laws.CopyRow
import Derived.Lib.AppendStr
import Derived.Sort.KeysCollected
import Derived.Sort.Walk0
import Derived.Lib.ConvBytes
import Derived.Test.YtnimcchalinihaaDoorCore
import Derived.Lib.DecodeNEq
import Derived.Test.YtnimcchalinihaaDoorFacts
import Derived.Shelf.Utf8.AppendRunePlain
import Derived.Shelf.Unicode.DecodeAny
import Derived.Test.YtnimcchalinihaaDoorProg
/- A byte slice of a literal turned into its own type: its block is marked behind its last cell, and only read from then on. -/
namespace Sg
open Go Go.RowKit
section
variable {c : Ctx} {H : List Res} {e : Env} {dst : Option Tmp} {ty : TypeId} {pos : String} {aft : Array Edge} {g : Option (Nat × Bool)}
end
end Sg
/- More rules: the complement of a number, shifts of negative ones, a literal as a slice that may grow. -/
namespace Sg
open Go Go.RowKit
theorem St.weakB {F : World} {M : List Nat} {w : World} {H H' : List Res} (h : St F M w H) (hf : ∀ b ∈ feet H', b ∈ feet H) (hn : (feet H').Nodup) (hr : ∀ r ∈ H', r.holds w) : St F M w H' :=
  ⟨h.os, h.tape, h.output, h.size, h.keep, fun b hb => h.own b (hf b hb), hn, hr⟩
section
variable {c : Ctx} {dr : Bool} {ds : List Deferred} {H : List Res} {e : Env} {ops : Array Oper} {l : List Oper} {κ : List Res → Env → Prop} {ty : TypeId} {pos : String} {aft : Array Edge} {q : Mode}
theorem T.appendL {α : Type} {g : α → Value} {d : Tmp} {x y : Operand} {ad : Option Addr} {n cp b m t E Eb : Nat} [HU c.P t (.slice E)] {z : Value} {by_ : Nat} [HI c.P E z 1 by_] {xs us : List α} {f : Res → List Res} (hx : ev e x = some (.slice ad n cp)) (hy : ev e y = some (.slice (some ⟨b, 0, none⟩) m m))
    (hr : AtR H ad cp E 1 n (xs.map g) f) (hm : us.length = m) (hg : ∀ u, (g u).oneCell' = true) (hzs : z.cells.size = 1) (hroom : (n + m) * by_ ≤ 140737488355328 ∧ n + m ≤ 140737488355328) (hlt : Nat.blt d c.fn.ntmps = true)
    (hk : ∀ ad' cp', Sr (.eff dr) c ds (f (.row ad' cp' E 1 (n + m) ((xs ++ us).map g))) ops l κ ((d, .slice ad' (n + m) cp') :: e)) :
    Sr (.eff dr) c ds (.blk b (us.map g) Eb :: H) ops (⟨some d, .call ⟨.builtin .append, #[x, y], #[t, t]⟩, ty, pos, aft, none⟩ :: l) κ e := Sr.append (z := z) (by_ := by_) hx hy (by simpa using hm) (by simpa using fun u _ => hg u) hzs (by omega) hroom hlt (fun ad' cp' => by
    have := hk ad' cp'
    rw [List.map_append] at this
    exact this)
end
end Sg
/- More rules: a whole slice of records appended. -/
namespace Sg
open Go Go.RowKit
section
variable {c : Ctx} {dr : Bool} {ds : List Deferred} {H : List Res} {e : Env} {ops : Array Oper} {l : List Oper} {κ : List Res → Env → Prop} {ty : TypeId} {pos : String} {aft : Array Edge}
end
end Sg
/- Rules on texts: a text is the list of its bytes. -/
namespace Sg
open Go Go.RowKit
abbrev sV (l : List UInt8) : Value := .string (ByteArray.mk l.toArray)
theorem sV_of (s : ByteArray) : Value.string s = sV s.data.toList := by
  cases s
  simp [sV]
theorem beq_dec (a b : List UInt8) : (a == b) = decide (a = b) := by by_cases h : a = b <;> simp [h]
section
variable {c : Ctx} {dr : Bool} {ds : List Deferred} {H : List Res} {e : Env} {ops : Array Oper} {l : List Oper} {κ : List Res → Env → Prop} {dst : Option Tmp} {ty : TypeId} {pos : String} {aft : Array Edge} {g : Option (Nat × Bool)} {q : Mode}
theorem Pu.sop {x y : Operand} {a b : List UInt8} {op : BinOp} {t u : TypeId} {v : Value} (hop : op = .eql ∨ op = .neq ∨ op = .lss ∨ op = .leq ∨ op = .gtr ∨ op = .geq ∨ op = .add) (hx : ev e x = some (sV a)) (hy : ev e y = some (sV b))
    (hv : ∀ w, (Op.stringOp op (ByteArray.mk a.toArray) (ByteArray.mk b.toArray)).run c.P w = .ok v w) : Pu c H e ⟨dst, .binOp op t x y u, ty, pos, aft, g⟩ v := fun w ac _ ha => by
  rcases hop with rfl | rfl | rfl | rfl | rfl | rfl | rfl <;> simp [execOp, ha.ev hx, ha.ev hy, eqGuard, binOp, hv]
theorem T.sop {x y : Operand} {d : Tmp} {a b : List UInt8} {op : BinOp} {t u : TypeId} {v : Value} (hop : op = .eql ∨ op = .neq ∨ op = .lss ∨ op = .leq ∨ op = .gtr ∨ op = .geq ∨ op = .add) (hx : ev e x = some (sV a)) (hy : ev e y = some (sV b))
    (hv : ∀ w, (Op.stringOp op (ByteArray.mk a.toArray) (ByteArray.mk b.toArray)).run c.P w = .ok v w) (hlt : Nat.blt d c.fn.ntmps = true) (hk : Sr q c ds H ops l κ ((d, v) :: e)) : Sr q c ds H ops (⟨some d, .binOp op t x y u, ty, pos, aft, none⟩ :: l) κ e :=
  Sr.p (Pu.sop hop hx hy hv) rfl hlt rfl hk
theorem T.seql {x y : Operand} {d : Tmp} {a b : List UInt8} {t u : TypeId} (hx : ev e x = some (sV a)) (hy : ev e y = some (sV b)) (hlt : Nat.blt d c.fn.ntmps = true) (hk : Sr q c ds H ops l κ ((d, .bool (decide (a = b))) :: e)) : Sr q c ds H ops (⟨some d, .binOp .eql t x y u, ty, pos, aft, none⟩ :: l) κ e :=
  T.sop (by simp) hx hy (fun w => by
    simp [Op.stringOp, Sem.run_pure]
    rw [beq_dec]) hlt hk
theorem T.sneq {x y : Operand} {d : Tmp} {a b : List UInt8} {t u : TypeId} (hx : ev e x = some (sV a)) (hy : ev e y = some (sV b)) (hlt : Nat.blt d c.fn.ntmps = true) (hk : Sr q c ds H ops l κ ((d, .bool (decide (¬ a = b))) :: e)) : Sr q c ds H ops (⟨some d, .binOp .neq t x y u, ty, pos, aft, none⟩ :: l) κ e :=
  T.sop (by simp) hx hy (fun w => by
    simp [Op.stringOp, Sem.run_pure]
    rw [beq_dec]) hlt hk
theorem T.sadd {x y : Operand} {d : Tmp} {a b : List UInt8} {t u : TypeId} (hx : ev e x = some (sV a)) (hy : ev e y = some (sV b)) (hm : a.length + b.length ≤ 9223372036854775807) (hlt : Nat.blt d c.fn.ntmps = true) (hk : Sr q c ds H ops l κ ((d, sV (a ++ b)) :: e)) : Sr q c ds H ops (⟨some d, .binOp .add t x y u, ty, pos, aft, none⟩ :: l) κ e :=
  T.sop (by simp) hx hy (fun w => by
    have h : ¬ (((a.length + b.length : Nat) : Int) > IntKind.i64.max) := by
      show ¬ (((a.length + b.length : Nat) : Int) > 9223372036854775807)
      omega
    have h2 : ByteArray.mk a.toArray ++ ByteArray.mk b.toArray = ByteArray.mk (a ++ b).toArray := by
      apply ByteArray.ext
      simp
    have h3 : (ByteArray.mk a.toArray).size + (ByteArray.mk b.toArray).size = a.length + b.length := rfl
    simp only [Op.stringOp, h3, if_neg h, h2, Sem.run_pure]) hlt hk
theorem T.slen {x : Operand} {d : Tmp} {a : List UInt8} {t : TypeId} [HU c.P t .string] (hx : ev e x = some (sV a)) (hlt : Nat.blt d c.fn.ntmps = true) (hk : Sr q c ds H ops l κ ((d, .int .i64 (a.length : Int)) :: e)) : Sr q c ds H ops (⟨some d, .call ⟨.builtin .len, #[x], #[t]⟩, ty, pos, aft, none⟩ :: l) κ e := T.lenS hx hlt hk
theorem Pu.sidx {x y : Operand} {a : List UInt8} {i : Nat} {kd : IntKind} {t : TypeId} [HU c.P t .string] (hx : ev e x = some (sV a)) (hy : ev e y = some (.int kd (i : Int))) (h : i < a.length) : Pu c H e ⟨dst, .index t x y, ty, pos, aft, g⟩ (.int .u8 ((a.getD i 0).toNat : Int)) := fun w ac _ ha => by
  have hr := run_index_string (P := c.P) w t (ByteArray.mk a.toArray) kd (i : Int) (HU.h (P := c.P) (t := t))
  have hs : (0 : Int) ≤ (i : Int) ∧ ((i : Nat) : Int) < ((ByteArray.mk a.toArray).size : Nat) := ⟨by omega, by show (i : Int) < (a.length : Nat); omega⟩
  rw [dif_pos hs] at hr
  have hg : (ByteArray.mk a.toArray)[(i : Int).toNat]'(by show _ < a.length; omega) = a.getD i 0 := by
    show a.toArray[(i : Int).toNat]'_ = _
    simp [List.getD, h]
  rw [hg] at hr
  simp [execOp, ha.ev hx, ha.ev hy, hr]
theorem T.sidx {x y : Operand} {d : Tmp} {a : List UInt8} {i : Nat} {kd : IntKind} {t : TypeId} [HU c.P t .string] (hx : ev e x = some (sV a)) (hy : ev e y = some (.int kd (i : Int))) (h : i < a.length) (hlt : Nat.blt d c.fn.ntmps = true) (hk : Sr q c ds H ops l κ ((d, .int .u8 ((a.getD i 0).toNat : Int)) :: e)) :
    Sr q c ds H ops (⟨some d, .index t x y, ty, pos, aft, none⟩ :: l) κ e := Sr.p (Pu.sidx hx hy h) rfl hlt rfl hk
end
end Sg
/- Maps from texts to numbers that the call owns: a list of entries by rising names. -/
namespace Sg
open Go Go.RowKit Go.ChangeMaps Go.MapKept
open Go.WideElems (Fit rd rg)
open Go.Maps (Keyed)
abbrev D0 := DataW Unit
/- Plain: entries. -/
abbrev Ents := List (List UInt8 × Int)
def entD (p : List UInt8 × Int) : Lit × D0 := (.string p.1, .lit (.int .i64 p.2))
def mapD (m : Ents) : D0 := .map (m.map entD)
def eget (m : Ents) (k : List UInt8) : Option Int := (m.find? fun p => p.1 == k).map (·.2)
def edel (m : Ents) (k : List UInt8) : Ents := m.filter fun p => !(p.1 == k)
def eins (x : List UInt8 × Int) : Ents → Ents
  | [] => [x]
  | y :: r => if (Lit.string x.1).before (.string y.1) then x :: y :: r else y :: eins x r
def eput (m : Ents) (k : List UInt8) (v : Int) : Ents := eins (k, v) (edel m k)
theorem mapD_at (m : Ents) (k : List UInt8) : (mapD m).atKey (.string k) (.lit (.int .i64 0)) = .lit (.int .i64 ((eget m k).getD 0)) := by
  unfold mapD DataW.atKey eget
  simp only
  induction m with
  | nil => rfl
  | cons p m ih =>
    simp only [List.map_cons, List.find?_cons, entD, Lit.sameKey]
    cases p.1 == k with
    | true => rfl
    | false => exact ih
theorem mapD_size (m : Ents) : Maps.size (mapD m) = m.length := by
  unfold mapD
  rw [Maps.size_eq, List.length_map]
theorem mapD_del (m : Ents) (k : List UInt8) : (mapD m).del (.string k) = mapD (edel m k) := by
  unfold mapD DataW.del edel
  simp only [List.filter_map, DataW.map.injEq]
  rfl
theorem mapD_ins (x : List UInt8 × Int) : ∀ m : Ents, DataW.insert (entD x) (m.map entD) = (eins x m).map entD
  | [] => rfl
  | y :: r => by
    rw [List.map_cons, DataW.insert, eins]
    show (if (Lit.string x.1).before (.string y.1) then _ else _) = _
    by_cases h : (Lit.string x.1).before (.string y.1) = true
    · rw [if_pos h, if_pos h]; rfl
    · rw [if_neg h, if_neg h, mapD_ins x r]; rfl
theorem mapD_put (m : Ents) (k : List UInt8) (v : Int) : (mapD m).put (.string k) (.lit (.int .i64 v)) = mapD (eput m k v) := by
  have h := mapD_del m k
  unfold mapD DataW.del at h
  unfold mapD DataW.put eput
  simp only [DataW.map.injEq] at h ⊢
  rw [h]
  exact mapD_ins (k, v) (edel m k)
/- The resource. -/
def mapQ (P : Program) (k e : TypeId) (n : Nat) (D : D0) (o : Obj) : Prop :=
  ∃ es clock, o = .map es clock ∧ Fit P k (plainElem (H := Unit) P e) es clock ∧ es.size ≤ n ∧ D = .map ((es.toList.map (rg P k (plainElem (H := Unit) P e))).foldr DataW.insert [])
theorem mapQ_iff {P : Program} {w : World} {k e : TypeId} {b n : Nat} {D : D0} : (Res.ex b (mapQ P k e n D)).holds w ↔ w.ownsMap P k (plainElem P e) b n D :=
  ⟨fun ⟨_, h1, es, clock, h2, h3⟩ => by subst h2; exact ⟨es, clock, h1, h3⟩, fun ⟨es, clock, h1, h3⟩ => ⟨_, h1, es, clock, rfl, h3⟩⟩
class InE (H : List Res) (b : Nat) (Q : outParam (Obj → Prop)) : Prop where
  h : Res.ex b Q ∈ H
instance InE.hd {H : List Res} {b : Nat} {Q : Obj → Prop} : InE (.ex b Q :: H) b Q := ⟨List.mem_cons_self ..⟩
instance InE.tl {H : List Res} {b : Nat} {Q : Obj → Prop} {r : Res} [h : InE H b Q] : InE (r :: H) b Q := ⟨List.mem_cons_of_mem _ h.h⟩
instance Fr.hdE {H : List Res} {b : Nat} {Q : Obj → Prop} : Fr (.ex b Q :: H) b (.ex b Q :: H) := ⟨.refl _⟩
section
variable {c : Ctx} {dr : Bool} {ds : List Deferred} {H : List Res} {e : Env} {ops : Array Oper} {l : List Oper} {κ : List Res → Env → Prop} {dst : Option Tmp} {ty : TypeId} {pos : String} {aft : Array Edge} {g : Option (Nat × Bool)} {q : Mode}
theorem sV_key {P : Program} {k : TypeId} (hk : P.underlying k = some .string) {kk : List UInt8} (hl : kk.length ≤ maxLen) : keyOf P k (sV kk) = some (.string kk) := WideMaps.keyOf_string_mk hk (s := ByteArray.mk kk.toArray) hl
theorem Pu.mapLook {x y : Operand} {b n : Nat} {m : Ents} {kk : List UInt8} {t k E : TypeId} [HU c.P t (.map k E)] [HU c.P k .string] [HU c.P E (.int .i64)] {sz by_ : Nat} [HI c.P E (.int .i64 0) sz by_] (hx : ev e x = some (.map (some b))) (hy : ev e y = some (sV kk)) (hl : kk.length ≤ maxLen) (hm : InE H b (mapQ c.P k E n (mapD m))) :
    Pu c H e ⟨dst, .lookup t x y false, ty, pos, aft, g⟩ (.int .i64 ((eget m kk).getD 0)) := fun w a hw ha => by
  have hown := mapQ_iff.1 (hw.res _ hm.h)
  obtain ⟨v, hrun, hat, _⟩ := hown.lookup_int (Maps.string_keyed HU.h) (HU.h (P := c.P) (t := t)) (HU.h (P := c.P) (t := E)) (run_zero w) (sV_key (P := c.P) (k := k) HU.h hl)
  rw [mapD_at] at hat
  simp only [DataW.lit.injEq, Lit.int.injEq, true_and] at hat
  subst hat
  simp [execOp, ha.ev hx, ha.ev hy, hrun]
theorem St.turnMap {F : World} {M : List Nat} {w w' : World} {H : List Res} {b : Nat} {Q Q' : Obj → Prop} (h : St F M w (.ex b Q :: H)) (hg : w.grownBy w' (some b)) (hr : (Res.ex b Q').holds w') : St F M w' (.ex b Q' :: H) :=
  h.turn hg.os hg.tape hg.output hg.size (fun j hj hn => hg.block j hj (by simpa [Res.foot] using hn)) hr (fun c hc => .inl hc) (by simp [Res.foot])
theorem Ef.mapMake {t k E : TypeId} [HU c.P t (.map k E)] : Ef c H e ⟨dst, .makeMap t none, ty, pos, aft, g⟩ fun v H' => ∃ b, v = .map (some b) ∧ H' = .ex b (mapQ c.P k E 0 (mapD [])) :: H := fun w a hw ha => by
  refine ⟨.map (some w.heap.size), w.alloc (.map #[] 0), _, .inl ?_, ?_, w.heap.size, rfl, rfl⟩
  · simp [execOp, run_makeMap]
  · exact hw.fresh rfl rfl rfl (by simp) (fun j hj => Below.heap_alloc _ _ _ hj) (mapQ_iff.2 (World.ownsMap_made w c.P k (plainElem c.P E))) (by simp [Res.foot]) (by simp [Res.foot])
theorem Ef.mapPut {x y u : Operand} {b n : Nat} {m : Ents} {kk : List UInt8} {z : Int} {t k E : TypeId} [HU c.P t (.map k E)] [HU c.P k .string] [HU c.P E (.int .i64)] (hx : ev e x = some (.map (some b))) (hy : ev e y = some (sV kk)) (hu : ev e u = some (.int .i64 z)) (hl : kk.length ≤ maxLen) (hn : n < maxLen) (hz : (Lit.int .i64 z).wf = true) :
    Ef c (.ex b (mapQ c.P k E n (mapD m)) :: H) e ⟨dst, .mapUpdate t x y u, ty, pos, aft, g⟩ fun v H' => v = undef ∧ H' = .ex b (mapQ c.P k E (n + 1) (mapD (eput m kk z))) :: H := fun w a hw ha => by
  have hown := mapQ_iff.1 (hw.res _ (List.mem_cons_self ..))
  obtain ⟨w', hrun, hown', hg⟩ := hown.update (Maps.string_keyed HU.h) (HU.h (P := c.P) (t := t)) hn (sV_key (P := c.P) (k := k) HU.h hl) (plainElem_int (q := .i64) (a := z) (HU.h (P := c.P) (t := E)) hz)
  rw [mapD_put] at hown'
  refine ⟨undef, w', _, .inr ⟨?_, rfl⟩, St.turnMap hw hg (mapQ_iff.2 hown'), rfl, rfl⟩
  simp [execOp, ha.ev hx, ha.ev hy, ha.ev hu, hrun]
/- A range over a map. -/
end
end Sg
/- Rules on maps, in the form that walks apply. -/
namespace Sg
open Go Go.RowKit
section
variable {c : Ctx} {dr : Bool} {ds : List Deferred} {H : List Res} {e : Env} {ops : Array Oper} {l : List Oper} {κ : List Res → Env → Prop} {ty : TypeId} {pos : String} {aft : Array Edge} {q : Mode}
theorem T.mapLook {x y : Operand} {d : Tmp} {b n : Nat} {m : Ents} {kk : List UInt8} {t k E : TypeId} [HU c.P t (.map k E)] [HU c.P k .string] [HU c.P E (.int .i64)] {sz by_ : Nat} [HI c.P E (.int .i64 0) sz by_] (hx : ev e x = some (.map (some b))) (hy : ev e y = some (sV kk)) (hm : InE H b (mapQ c.P k E n (mapD m))) (hl : kk.length ≤ maxLen) (hlt : Nat.blt d c.fn.ntmps = true)
    (hk : Sr q c ds H ops l κ ((d, .int .i64 ((eget m kk).getD 0)) :: e)) : Sr q c ds H ops (⟨some d, .lookup t x y false, ty, pos, aft, none⟩ :: l) κ e := Sr.p (Pu.mapLook (k := k) (E := E) (sz := sz) (by_ := by_) hx hy hl hm) rfl hlt rfl hk
theorem T.mapMake {d : Tmp} {t k E : TypeId} [HU c.P t (.map k E)] (hlt : Nat.blt d c.fn.ntmps = true) (hk : ∀ b, Sr (.eff dr) c ds (.ex b (mapQ c.P k E 0 (mapD [])) :: H) ops l κ ((d, .map (some b)) :: e)) : Sr (.eff dr) c ds H ops (⟨some d, .makeMap t none, ty, pos, aft, none⟩ :: l) κ e :=
  Sr.eff (Ef.mapMake (k := k) (E := E)) hlt rfl fun v H' ⟨b, hv, hH⟩ => by
    subst hv hH
    exact hk b
theorem T.mapPut {x y u : Operand} {b n : Nat} {m : Ents} {kk : List UInt8} {z : Int} {t k E : TypeId} [HU c.P t (.map k E)] [HU c.P k .string] [HU c.P E (.int .i64)] (hx : ev e x = some (.map (some b))) (hy : ev e y = some (sV kk)) (hu : ev e u = some (.int .i64 z)) (hl : kk.length ≤ maxLen) (hn : n < maxLen) (hz : (Lit.int .i64 z).wf = true)
    (hk : Sr (.eff dr) c ds (.ex b (mapQ c.P k E (n + 1) (mapD (eput m kk z))) :: H) ops l κ e) : Sr (.eff dr) c ds (.ex b (mapQ c.P k E n (mapD m)) :: H) ops (⟨none, .mapUpdate t x y u, ty, pos, aft, none⟩ :: l) κ e :=
  Sr.eff (Ef.mapPut (k := k) (E := E) hx hy hu hl hn hz) rfl rfl fun v H' ⟨hv, hH⟩ => by
    subst hv hH
    exact hk
theorem mapQ_tight {P : Program} {k E : TypeId} {n : Nat} {m : Ents} {o : Obj} (h : mapQ P k E n (mapD m) o) : mapQ P k E m.length (mapD m) o := by
  obtain ⟨es, clock, h1, h2, h3, h4⟩ := h
  refine ⟨es, clock, h1, h2, ?_, h4⟩
  have h5 := congrArg Maps.size h4
  rw [mapD_size] at h5
  rw [h5, Maps.size_eq, length_sorted, List.length_map, Array.length_toList]
  exact Nat.le_refl _
theorem St.tight {F : World} {M : List Nat} {w : World} {P : Program} {b n : Nat} {m : Ents} {k E : TypeId} (hw : St F M w (.ex b (mapQ P k E n (mapD m)) :: H)) : St F M w (.ex b (mapQ P k E m.length (mapD m)) :: H) :=
  hw.weakB (fun _ h => h) hw.nd fun q hq => by
    rcases List.mem_cons.1 hq with rfl | hq
    · obtain ⟨o, h1, h2⟩ := hw.res _ (List.mem_cons_self ..)
      exact ⟨o, h1, mapQ_tight h2⟩
    · exact hw.res q (List.mem_cons_of_mem _ hq)
theorem Sr.tight {b n : Nat} {m : Ents} {k E : TypeId} (h : Sr (.eff dr) c ds (.ex b (mapQ c.P k E m.length (mapD m)) :: H) ops l κ e) : Sr (.eff dr) c ds (.ex b (mapQ c.P k E n (mapD m)) :: H) ops l κ e := h.weaken fun _ hw => hw.tight
theorem T.mapPutT {x y u : Operand} {b n : Nat} {m : Ents} {kk : List UInt8} {z : Int} {t k E : TypeId} [HU c.P t (.map k E)] [HU c.P k .string] [HU c.P E (.int .i64)] (hx : ev e x = some (.map (some b))) (hy : ev e y = some (sV kk)) (hu : ev e u = some (.int .i64 z)) (hl : kk.length ≤ maxLen) (hn : n < maxLen) (hz : (Lit.int .i64 z).wf = true)
    (hk : Sr (.eff dr) c ds (.ex b (mapQ c.P k E (eput m kk z).length (mapD (eput m kk z))) :: H) ops l κ e) : Sr (.eff dr) c ds (.ex b (mapQ c.P k E n (mapD m)) :: H) ops (⟨none, .mapUpdate t x y u, ty, pos, aft, none⟩ :: l) κ e :=
  T.mapPut (k := k) (E := E) hx hy hu hl hn hz hk.tight
end
end Sg
/- The sum of a text by words of 32 bits, in plain Lean: schedule, rounds, blocks, filling; and that both ways to spell a round are one. -/
namespace Sg
structure V8 where
  a : UInt32
  b : UInt32
  c : UInt32
  d : UInt32
  e : UInt32
  f : UInt32
  g : UInt32
  h : UInt32
end Sg
/- Words of 32 bits as values: their operations, rows of them, whole arrays, an index into an array's value, copies into an array. -/
namespace Sg
open Go Go.RowKit
section
variable {q : Mode} {c : Ctx} {ds : List Deferred} {H : List Res} {ops : Array Oper} {l : List Oper} {κ : List Res → Env → Prop} {dr : Bool} {e : Env} {ty : TypeId} {pos : String} {aft : Array Edge}
end
end Sg
/- More rules on texts and maps: texts as elements, texts behind bytes, texts of bytes; the names of a map rise. -/
namespace Sg
open Go Go.RowKit Go.ChangeMaps Go.MapKept
section
variable {c : Ctx} {dr : Bool} {ds : List Deferred} {H : List Res} {e : Env} {ops : Array Oper} {l : List Oper} {κ : List Res → Env → Prop} {dst : Option Tmp} {ty : TypeId} {pos : String} {aft : Array Edge} {g : Option (Nat × Bool)} {q : Mode}
theorem getS {xs : List (List UInt8)} {j : Nat} (h : j < xs.length) : (xs.map sV)[j]? = some (sV (xs.getD j [])) := by
  simp [List.getD, h]
theorem T.loadS {x : Operand} {d : Tmp} {ad : Option Addr} {j : Nat} {t : TypeId} [HU c.P t .string] {xs : List (List UInt8)} (hx : ev e x = some (.pointer (eaddr ad j))) (hr : Rd c.F c.M H ad (xs.map sV)) (hj : j < xs.length) (hlt : Nat.blt d c.fn.ntmps = true)
    (hk : Sr q c ds H ops l κ ((d, sV (xs.getD j [])) :: e)) : Sr q c ds H ops (⟨some d, .load t x, ty, pos, aft, none⟩ :: l) κ e := Sr.p (Pu.loadE (d := .string) hx rfl (getS hj)) rfl hlt rfl hk
/- A text behind bytes. -/
theorem appendS_where {P : Program} (w : World) (t u ty e : TypeId) (i : TypeInfo) (ht : P.underlying t = some (.slice e)) (hu : P.underlying u = some .string) (hi : P.info? e = some i) (hz : i.zero = some (.int .u8 0))
    (hsize : i.size = 1) (hby : i.bytes = 1) (v : Value) (n : Nat) (xs : List Value) (hown : w.ownsRow 0 e 1 v n xs) (s : ByteArray) (h63 : n + s.size ≤ maxLen) (hbytes : n + s.size ≤ 140737488355328) {v' : Value} {w' : World}
    (hrun : (Builtin.append_ #[t, u] ty #[v, .string s]).run P w = .ok v' w') : v'.ownBlock = v.ownBlock ∨ v'.ownBlock = some w.heap.size := by
  have hsmall : n + s.size ≤ 9223372036854775807 := by simp only [maxLen] at h63; omega
  have hxl : xs.length = n := by simpa using hown.1
  rcases hown.2 with ⟨rfl, rfl⟩ | ⟨g, cap, cur, rfl, hbg, hg, hnc, hcm, hcs, htake⟩
  · by_cases hm : s.size = 0
    · have hf := Lib.run_firstCells_string (P := P) w 1 s
      rw [hm] at hf
      have hr : (Builtin.append_ #[t, u] ty #[.slice none 0 0, .string s]).run P w = .ok (.slice none 0 0) w := by
        simp [Builtin.append_, run_underlying ht, run_underlying hu, Go.sizeOf, typeInfo, hi, hsize, Builtin.lenOf, hm, hf]
      rw [hr] at hrun
      simp only [Result.ok.injEq] at hrun
      left
      rw [← hrun.1]
    · have hr := run_append_nil_string (P := P) w t u ty e i (.int .u8 0) ht hu hi hz s (by omega) (by omega) (by rw [hby]; omega)
      rw [hr] at hrun
      simp only [Result.ok.injEq] at hrun
      right
      rw [← hrun.1]
      rfl
  · by_cases hroom : n + s.size ≤ cap
    · have hcs' : cur.size = cap := by simpa using hcs
      have hr := Lib.run_append_room_string (P := P) w t u ty e i ht hu hi hsize g n cap cur hg s hroom (by omega)
      rw [hr] at hrun
      simp only [Result.ok.injEq] at hrun
      left
      rw [← hrun.1]
      rfl
    · have holds : ∀ j u, xs[j]? = some u → w.cell? ((⟨g, 0, none⟩ : Addr).add j) = some u := hown.cells (g := g) rfl
      have hr := Lib.run_append_grow_string (P := P) w t u ty e i (.int .u8 0) ht hu hi hz ⟨g, 0, none⟩ n cap xs (by rw [hsize]; simpa using hxl) holds s (by omega) (by omega) (by rw [hby]; exact growslice_fits (by omega) (by omega))
      rw [hr] at hrun
      simp only [Result.ok.injEq] at hrun
      right
      rw [← hrun.1]
      rfl
theorem strCells_sV (s : List UInt8) : Lib.strCells (ByteArray.mk s.toArray) = s.map bV := by simp [Lib.strCells]
theorem T.appendS {d : Tmp} {x y : Operand} {ad : Option Addr} {n cp t u E : Nat} [HU c.P t (.slice E)] [HU c.P u .string] [HI c.P E (.int .u8 0) 1 1] {xs s : List UInt8} {f : Res → List Res} (hx : ev e x = some (.slice ad n cp)) (hy : ev e y = some (sV s))
    (hr : AtR H ad cp E 1 n (xs.map bV) f) (hroom : n + s.length ≤ 140737488355328) (hlt : Nat.blt d c.fn.ntmps = true)
    (hk : ∀ ad' cp', Sr (.eff dr) c ds (f (.row ad' cp' E 1 (n + s.length) ((xs ++ s).map bV))) ops l κ ((d, .slice ad' (n + s.length : Nat) cp') :: e)) :
    Sr (.eff dr) c ds H ops (⟨some d, .call ⟨.builtin .append, #[x, y], #[t, u]⟩, ty, pos, aft, none⟩ :: l) κ e :=
  Sr.eff (K := fun v H' => ∃ ad' cp', v = .slice ad' (n + s.length) cp' ∧ H' = f (.row ad' cp' E 1 (n + s.length) ((xs ++ s).map bV))) (fun w a hw ha => by
    obtain ⟨rest, h1, h2⟩ := hr.h
    have hw1 := hw.perm h1
    obtain ⟨i, hi1, hi2, hi3, hi4⟩ := HI.h (P := c.P) (t := E) (z := .int .u8 0) (sz := 1) (by_ := 1)
    have hrow : w.ownsRow 0 E 1 (.slice ad n cp) n (xs.map bV) := hw1.res _ (List.mem_cons_self ..)
    have hsz : (ByteArray.mk s.toArray).size = s.length := rfl
    have hmax : n + (ByteArray.mk s.toArray).size ≤ maxLen := by rw [hsz]; unfold maxLen; omega
    obtain ⟨v', w', hrun, hown, hg, -⟩ := Lib.run_append_own_string (P := c.P) w 0 t u ty E i (HU.h (P := c.P) (t := t)) (HU.h (P := c.P) (t := u)) hi1 hi2 hi3 hi4 _ n _ hrow (ByteArray.mk s.toArray) hmax (by rw [hsz]; exact hroom) (Nat.zero_le _)
    have hwhere := appendS_where (P := c.P) w t u ty E i (HU.h (P := c.P) (t := t)) (HU.h (P := c.P) (t := u)) hi1 hi2 hi3 hi4 _ n _ hrow (ByteArray.mk s.toArray) hmax (by rw [hsz]; exact hroom) hrun
    rw [strCells_sV, ← List.map_append, hsz] at hown
    obtain ⟨ad', cp', hv'⟩ : ∃ ad' cp', v' = .slice ad' (n + s.length) cp' := by
      rcases hown.2 with ⟨hv, h0⟩ | ⟨g, cap, cur, hv, _⟩
      · exact ⟨none, 0, by rw [hv, h0]⟩
      · exact ⟨_, _, hv⟩
    subst hv'
    refine ⟨_, w', _, .inl (by simp [execOp, ha.ev hx, ha.ev hy, resolve, invoke, builtin, hrun]), (hw1.turn (r' := .row ad' cp' E 1 (n + s.length) ((xs ++ s).map bV)) hg.os hg.tape hg.output hg.size (fun j hj hjr => hg.block j hj fun hjo => hjr ?_) hown (fun q hq => ?_) (by cases ad' <;> simp [Res.foot])).perm (h2 _), ad', cp', rfl, rfl⟩
    · cases ad with
      | none => simp [Value.ownBlock] at hjo
      | some q => simp only [Value.ownBlock, Option.some.injEq] at hjo; simp [Res.foot, hjo]
    · cases ad' with
      | none => simp [Res.foot] at hq
      | some p =>
        simp only [Res.foot, List.mem_singleton] at hq
        subst hq
        rcases hwhere with hwh | hwh
        · left
          cases ad with
          | none => simp [Value.ownBlock] at hwh
          | some q => simp only [Value.ownBlock, Option.some.injEq] at hwh; simp [Res.foot, hwh]
        · right
          simp only [Value.ownBlock, Option.some.injEq] at hwh
          omega) hlt rfl (fun v H' ⟨ad', cp', hv, hH⟩ => by subst hv hH; exact hk ad' cp')
/- A text of bytes. -/
theorem push_bytes : ∀ (xs acc : List UInt8), ((xs.map fun b => (b.toNat : Int)).foldl (fun r n => r.push (UInt8.ofNat n.toNat)) (ByteArray.mk acc.toArray)) = ByteArray.mk (acc ++ xs).toArray
  | [], acc => by simp
  | x :: xs, acc => by
    rw [List.map_cons, List.foldl_cons]
    have : (ByteArray.mk acc.toArray).push (UInt8.ofNat (x.toNat : Int).toNat) = ByteArray.mk (acc ++ [x]).toArray := by
      apply ByteArray.ext
      simp [ByteArray.push]
    rw [this, push_bytes xs (acc ++ [x]), List.append_assoc]
    rfl
theorem T.convS {x : Operand} {d : Tmp} {ad : Option Addr} {n cp : Nat} {xs : List UInt8} {t t' E : TypeId} [HU c.P t (.slice E)] [HU c.P E (.int .u8)] [HU c.P t' .string] (hx : ev e x = some (.slice ad n cp)) (hr : Rd c.F c.M H ad (xs.map bV)) (hn : xs.length = n) (hlt : Nat.blt d c.fn.ntmps = true)
    (hk : Sr q c ds H ops l κ ((d, sV xs) :: e)) : Sr q c ds H ops (⟨some d, .convert t t' x, ty, pos, aft, none⟩ :: l) κ e :=
  Sr.p (fun w a hw ha => by
    have hcv := run_convert_bytes_string (P := c.P) w t t' E ad n cp (HU.h (P := c.P) (t := t)) (HU.h (P := c.P) (t := E)) (HU.h (P := c.P) (t := t'))
    have hb : (Conv.bytesToString (.slice ad n cp)).run c.P w = .ok (sV xs) w := by
      cases ad with
      | none =>
        cases xs with
        | nil => rfl
        | cons b xs =>
          obtain ⟨q, h, -⟩ := hr.h w hw 0 _ (by rfl)
          cases h
      | some q =>
        have hl := run_loadCells_list (P := c.P) (w := w) q (xs.map bV) (fun j v hj => by
          obtain ⟨q', h, h'⟩ := hr.h w hw j v hj
          simp only [Option.some.injEq] at h
          subst h
          exact h')
        rw [List.length_map, hn] at hl
        have hm : xs.map bV = (xs.map fun b => (b.toNat : Int)).map (Value.int .u8) := by rw [List.map_map]; rfl
        rw [hm] at hl
        rw [run_bytesToString w q n cp _ hl]
        have := push_bytes xs []
        rw [List.nil_append] at this
        exact congrArg (fun b => Result.ok (Value.string b) w) this
    rw [hb] at hcv
    simp [execOp, ha.ev hx, hcv]) rfl hlt rfl hk
/- Pointers beside nil; truth values compared. -/
theorem run_equalP {P : Program} {t E : TypeId} {a : Addr} [HU P t (.pointer E)] (w : World) (d : Nat) : (Op.equalIn (d + 1) t (.pointer (some a)) (.pointer none)).run P w = .ok false w := by
  simp [Op.equalIn, run_under (d := .pointer E)]
theorem run_equalP0 {P : Program} {t E : TypeId} [HU P t (.pointer E)] (w : World) (d : Nat) : (Op.equalIn (d + 1) t (.pointer none) (.pointer none)).run P w = .ok true w := by
  simp [Op.equalIn, run_under (d := .pointer E)]
theorem T.eqlP {x : Operand} {d : Tmp} {t u E : TypeId} {a : Addr} [HU c.P t (.pointer E)] (hx : ev e x = some (.pointer (some a))) (hlt : Nat.blt d c.fn.ntmps = true) (hk : Sr q c ds H ops l κ ((d, .bool false) :: e)) : Sr q c ds H ops (⟨some d, .binOp .eql t x (.const (.pointer none)) u, ty, pos, aft, none⟩ :: l) κ e :=
  Sr.p (fun w ac _ ha => by
    have h := run_equalP (P := c.P) (t := t) (E := E) (a := a) w 9999
    have h2 : ac.eval (.const (.pointer none)) = .pointer none := rfl
    simp only [execOp, ha.ev hx, h2, eqGuard, binOp, Op.equal, Op.maxDepth]
    simp [h]) rfl hlt rfl hk
theorem T.eqlP0 {x : Operand} {d : Tmp} {t u E : TypeId} [HU c.P t (.pointer E)] (hx : ev e x = some (.pointer none)) (hlt : Nat.blt d c.fn.ntmps = true) (hk : Sr q c ds H ops l κ ((d, .bool true) :: e)) : Sr q c ds H ops (⟨some d, .binOp .eql t x (.const (.pointer none)) u, ty, pos, aft, none⟩ :: l) κ e :=
  Sr.p (fun w ac _ ha => by
    have h := run_equalP0 (P := c.P) (t := t) (E := E) w 9999
    have h2 : ac.eval (.const (.pointer none)) = .pointer none := rfl
    simp only [execOp, ha.ev hx, h2, eqGuard, binOp, Op.equal, Op.maxDepth]
    simp [h]) rfl hlt rfl hk
theorem T.eqlB {x y : Operand} {d : Tmp} {m n : Bool} {t u : TypeId} [HU c.P t .bool] (hx : ev e x = some (.bool m)) (hy : ev e y = some (.bool n)) (hlt : Nat.blt d c.fn.ntmps = true) (hk : Sr q c ds H ops l κ ((d, .bool (m == n)) :: e)) : Sr q c ds H ops (⟨some d, .binOp .eql t x y u, ty, pos, aft, none⟩ :: l) κ e := Sr.p (Pu.eqlB hx hy) rfl hlt rfl hk
end
/- Rising names. -/
end Sg
/- More rules on texts: a text's bytes as a new row, a part of a text; an append that leaves the row that it began with. -/
namespace Sg
open Go Go.RowKit
theorem St.appendK {c : Ctx} {H : List Res} {w : World} {ad : Option Addr} {n cp sz m t E : Nat} {xs us : List Value} {z : Value} {by_ : Nat} {src : Addr} {scp : Nat} {ty : TypeId} (hw : St c.F c.M w (.row ad cp E sz n xs :: H))
    [HU c.P t (.slice E)] [HI c.P E z sz by_] (hus : us.length = m * sz) (hnews : ∀ j u, us[j]? = some u → w.cell? (src.add j) = some u) (hone : us.all (·.oneCell') = true) (hzs : z.cells.size = sz) (hsz : 0 < sz)
    (hroom : (n + m) * by_ ≤ 140737488355328 ∧ n + m ≤ 140737488355328) :
    ∃ ad' cp' w' X, (Builtin.append_ #[t, t] ty #[.slice ad n cp, .slice (some src) m scp]).run c.P w = .ok (.slice ad' (n + m) cp') w' ∧ (ad' = ad ∧ X = [] ∨ X = [.row ad cp E sz n xs]) ∧ St c.F c.M w' (.row ad' cp' E sz (n + m) (xs ++ us) :: (X ++ H)) := by
  obtain ⟨i, hi1, hi2, hi3, hi4⟩ := HI.h (P := c.P) (t := E) (z := z) (sz := sz) (by_ := by_)
  have hrow : w.ownsRow 0 E sz (.slice ad n cp) n xs := hw.res _ (List.mem_cons_self ..)
  have hmax : n + m ≤ maxLen := by unfold maxLen; omega
  have hone' : ∀ u ∈ us, u.oneCell' = true := fun u hu => by simpa using List.all_eq_true.1 hone u hu
  obtain ⟨ad', cp', w', hrun, hst⟩ := St.append (c := c) (t := t) (z := z) (sz := sz) (by_ := by_) (us := us) (src := src) (scp := scp) (ty := ty) hw hus hnews hone hzs hsz hroom
  have hnew : w'.ownsRow 0 E sz (.slice ad' (n + m) cp') (n + m) (xs ++ us) := hst.res _ (List.mem_cons_self ..)
  rcases hrow.2 with ⟨hv, h0⟩ | ⟨g, cap, cur, hv, hbg, hg, hnc, hcm, hcs, htake⟩
  · simp only [Value.slice.injEq] at hv
    obtain ⟨rfl, rfl, rfl⟩ := hv
    obtain rfl : xs = [] := List.eq_nil_of_length_eq_zero (by have := hrow.1; simpa using this)
    exact ⟨ad', cp', w', [.row none 0 E sz 0 []], hrun, .inr rfl, (hst.nilrow E sz).perm (List.Perm.swap _ _ _)⟩
  · simp only [Value.slice.injEq] at hv
    obtain ⟨rfl, -, rfl⟩ := hv
    subst hi3
    by_cases hrm : n + m ≤ cp
    · have hfit : n * i.size + us.length ≤ cur.size := by rw [hus, hcs, ← Nat.add_mul]; exact Nat.mul_le_mul_right _ hrm
      have hr := run_append_room (P := c.P) w t ty E i (HU.h (P := c.P) (t := t)) hi1 g n cp cur hg src m scp us hus hnews hone' hrm hfit
      rw [hrun] at hr
      simp only [Result.ok.injEq, Value.slice.injEq] at hr
      obtain ⟨⟨rfl, -, -⟩, -⟩ := hr
      exact ⟨_, cp', w', [], hrun, .inl ⟨rfl, rfl⟩, hst⟩
    · have holds : ∀ j u, xs[j]? = some u → w.cell? ((⟨g, 0, none⟩ : Addr).add j) = some u := hrow.cells (g := g) rfl
      subst hi4
      have hr := run_append_grow (P := c.P) w t ty E i z (HU.h (P := c.P) (t := t)) hi1 hi2 ⟨g, 0, none⟩ n cp xs hrow.1 holds src m scp us hus hnews (by omega) (by omega) (growslice_fits (by omega) hroom.1)
      rw [hrun] at hr
      simp only [Result.ok.injEq, Value.slice.injEq] at hr
      obtain ⟨⟨rfl, -, rfl⟩, rfl⟩ := hr
      refine ⟨_, _, _, [.row (some ⟨g, 0, none⟩) cp E i.size n xs], hrun, .inr rfl, St.fresh hw rfl rfl rfl (by simp) (fun j hj => ?_) hnew (fun q hq => ?_) (by simp [Res.foot])⟩
      · show (w.drew.heap.push _)[j]? = _
        have hj' : j < w.drew.heap.size := by simpa using hj
        rw [Array.getElem?_push_lt hj', ← Array.getElem?_eq_getElem hj']
        rfl
      · simp only [Res.foot, List.mem_singleton] at hq
        omega
section
variable {q : Mode} {c : Ctx} {ds : List Deferred} {H : List Res} {ops : Array Oper} {l : List Oper} {κ : List Res → Env → Prop} {dr : Bool} {e : Env} {ty : TypeId} {pos : String} {aft : Array Edge}
/-- One value appended to the first row behind a literal: what the row was stays. -/
theorem T.appendK1 {d : Tmp} {x y : Operand} {ad : Option Addr} {n cp b t E Eb : Nat} {v : Value} [HU c.P t (.slice E)] {z : Value} {by_ : Nat} [HI c.P E z 1 by_] {xs : List Value} (hx : ev e x = some (.slice ad n cp)) (hy : ev e y = some (.slice (some ⟨b, 0, none⟩) 1 1))
    (hv : v.oneCell' = true) (hzs : z.cells.size = 1) (hroom : (n + 1) * by_ ≤ 140737488355328 ∧ n + 1 ≤ 140737488355328) (hlt : Nat.blt d c.fn.ntmps = true)
    (hk : ∀ ad' cp' X, (ad' = ad ∧ X = [] ∨ X = [.row ad cp E 1 n xs]) → Sr (.eff dr) c ds (.row ad' cp' E 1 (n + 1) (xs ++ [v]) :: (X ++ H)) ops l κ ((d, .slice ad' (n + 1) cp') :: e)) :
    Sr (.eff dr) c ds (.blk b [v] Eb :: .row ad cp E 1 n xs :: H) ops (⟨some d, .call ⟨.builtin .append, #[x, y], #[t, t]⟩, ty, pos, aft, none⟩ :: l) κ e :=
  Sr.eff (K := fun u H' => ∃ ad' cp' X, u = .slice ad' (n + 1) cp' ∧ (ad' = ad ∧ X = [] ∨ X = [.row ad cp E 1 n xs]) ∧ H' = .row ad' cp' E 1 (n + 1) (xs ++ [v]) :: (X ++ H)) (fun w a hw ha => by
    obtain ⟨ad', cp', w', X, hrun, hX, hst⟩ := St.appendK (c := c) (t := t) (z := z) (sz := 1) (by_ := by_) (us := [v]) (m := 1) (src := ⟨b, 0, none⟩) (scp := 1) (ty := ty) hw.tail rfl (fun j u hj => by
      rw [addr_add, Nat.zero_add, hw.cell (List.mem_cons_self ..)]
      exact hj) (by simp [hv]) hzs (by decide) hroom
    exact ⟨_, w', _, .inl (by simp [execOp, ha.ev hx, ha.ev hy, resolve, invoke, builtin, hrun]), hst, _, _, _, rfl, hX, rfl⟩) hlt rfl
    (fun u H' ⟨ad', cp', X, hu, hX, hH⟩ => by subst hu hH; exact hk ad' cp' X hX)
/-- A part of a text. -/
theorem T.sslice {d : Tmp} {x lo hi : Operand} {kd kd' : IntKind} {i j : Nat} {t : TypeId} {bs : List UInt8} [HU c.P t .string] (hx : ev e x = some (sV bs)) (hl : ev e lo = some (.int kd (i : Int))) (hh : ev e hi = some (.int kd' (j : Int))) (h0 : i ≤ j ∧ j ≤ bs.length) (hlt : Nat.blt d c.fn.ntmps = true)
    (hk : Sr q c ds H ops l κ ((d, sV ((bs.drop i).take (j - i))) :: e)) : Sr q c ds H ops (⟨some d, .slice t x (some lo) (some hi) none, ty, pos, aft, none⟩ :: l) κ e :=
  Sr.p (fun w a _ ha => by
    have hr := run_slice_string (P := c.P) (w := w) t (ByteArray.mk bs.toArray) kd kd' (i : Int) (j : Int) (HU.h (P := c.P) (t := t)) (by omega) (by omega) (by show (j : Int) ≤ (bs.length : Nat); omega)
    have hex : (ByteArray.mk bs.toArray).extract (i : Int).toNat (j : Int).toNat = ByteArray.mk ((bs.drop i).take (j - i)).toArray := by
      rw [Int.toNat_natCast, Int.toNat_natCast]
      apply ByteArray.ext
      rw [ByteArray.data_extract]
      apply Array.ext'
      simp [List.extract]
    rw [hex] at hr
    simp [execOp, ha.ev hx, ha.ev hl, ha.ev hh, Instr.sliceAt, run_under (d := .string), hr]) rfl hlt rfl hk
theorem T.sneqR {x y : Operand} {d : Tmp} {a : List UInt8} {t u : TypeId} (hx : ev e x = some (sV a)) (hy : ev e y = some (sV a)) (hlt : Nat.blt d c.fn.ntmps = true) (hk : Sr q c ds H ops l κ ((d, .bool false) :: e)) : Sr q c ds H ops (⟨some d, .binOp .neq t x y u, ty, pos, aft, none⟩ :: l) κ e :=
  T.sneq hx hy hlt (by simpa using hk)
theorem T.neqR {x y : Operand} {d : Tmp} {kd : IntKind} {a : Int} {t u : TypeId} (hx : ev e x = some (.int kd a)) (hy : ev e y = some (.int kd a)) (hlt : Nat.blt d c.fn.ntmps = true) (hk : Sr q c ds H ops l κ ((d, .bool false) :: e)) : Sr q c ds H ops (⟨some d, .binOp .neq t x y u, ty, pos, aft, none⟩ :: l) κ e :=
  T.neq hx hy hlt (by simpa using hk)
end
end Sg
/- JSON in plain Lean: words of a text, each with its end or its fault; values by going down; and a machine with a stack; both say the same. -/
namespace Sg
/-- A node. -/
structure Nd where
  kind : Int
  key : List UInt8
  text : List UInt8
  whole : Bool
  int : Int
  kids : Int
/-- What has been read: the end and what it says, or the fault and its place. -/
inductive Gt (α : Type)
  | ok (at_ : Nat) (v : α)
  | bad (code : Int) (at_ : Nat)
def digitB (c : UInt8) : Bool := decide (48 ≤ c) && decide (c ≤ 57)
def digsE (t : List UInt8) (p : Nat) : Nat := p + ((t.drop p).takeWhile digitB).length
/-- Of a sequence that begins with a byte: how many follow, and between which bounds the first of these may be. -/
def seqB (c : Nat) : Option (Nat × Nat × Nat) :=
  if c < 194 ∨ 244 < c then none else if c < 224 then some (1, 128, 191) else if c = 224 then some (2, 160, 191) else if c = 237 then some (2, 128, 159) else
  if c < 240 then some (2, 128, 191) else if c = 240 then some (3, 144, 191) else if c = 244 then some (3, 128, 143) else some (3, 128, 191)
/-- The bytes that follow, so many still to come. -/
def seqX (t : List UInt8) (fr : Nat) : Nat → Nat → Nat → Nat → Gt Unit
  | 0, p, _, _ => .ok p ()
  | k + 1, p, lo, hi => match t[p]? with
    | none => .bad 31 p
    | some c => if c.toNat < lo ∨ hi < c.toNat then .bad 32 fr else seqX t fr k (p + 1) 128 191
def sequX (t : List UInt8) (p : Nat) (c : UInt8) : Gt Unit := match seqB c.toNat with
  | none => .bad 32 p
  | some (n, lo, hi) => seqX t p n (p + 1) lo hi
/-- Whole numbers: handed in, whatever they are. -/
structure Wh where
  f : List UInt8 → Int × Bool
def nd (k : Int) : Nd := ⟨k, [], [], false, 0, 0⟩
def sl (t : List UInt8) (a b : Nat) : List UInt8 := (t.drop a).take (b - a)
end Sg
/- UTF-8, in plain Lean: what the library's decoder says of a sequence, and what the document's reading says. -/
namespace Sg
open Go.Lib
/-- Is a sequence's beginning whole (or none)? Of a text of n bytes that begins so. -/
def fullN (n b0 b1 b2 : Nat) : Bool := decide (firstT b0 % 8 ≤ n) || ((decide (1 < n) && (decide (b1 < accLo (firstT b0 / 16)) || decide (accHi (firstT b0 / 16) < b1))) || (decide (2 < n) && (decide (b2 < 128) || decide (191 < b2))))
theorem seqB_none {b : Nat} (h : 128 ≤ b) (hs : seqB b = none) : firstT b = 241 := by
  unfold seqB at hs
  split at hs
  · unfold firstT
    repeat' split
    all_goals omega
  · repeat' split at hs
    all_goals cases hs
theorem seqB_some {b k lo hi : Nat} (hs : seqB b = some (k, lo, hi)) : firstT b < 240 ∧ firstT b % 8 = k + 1 ∧ accLo (firstT b / 16) = lo ∧ accHi (firstT b / 16) = hi ∧ 1 ≤ k ∧ k ≤ 3 ∧ lo ≤ hi := by
  have key : ∀ {f : Nat}, firstT b = f → f < 240 → f % 8 = k + 1 → accLo (f / 16) = lo → accHi (f / 16) = hi → 1 ≤ k → k ≤ 3 → lo ≤ hi → firstT b < 240 ∧ firstT b % 8 = k + 1 ∧ accLo (firstT b / 16) = lo ∧ accHi (firstT b / 16) = hi ∧ 1 ≤ k ∧ k ≤ 3 ∧ lo ≤ hi := by
    intro f h1 h2 h3 h4 h5 h6 h7 h8
    rw [h1]
    exact ⟨h2, h3, h4, h5, h6, h7, h8⟩
  unfold seqB at hs
  repeat' split at hs
  all_goals first | cases hs | (simp only [Option.some.injEq, Prod.mk.injEq] at hs; obtain ⟨rfl, rfl, rfl⟩ := hs)
  · exact key (firstT_C2 (by omega)) (by decide) rfl rfl rfl (by decide) (by decide) (by decide)
  · exact key (firstT_E0 (by omega)) (by decide) rfl rfl rfl (by decide) (by decide) (by decide)
  · exact key (firstT_ED (by omega)) (by decide) rfl rfl rfl (by decide) (by decide) (by decide)
  · exact key (firstT_E1 (by omega)) (by decide) rfl rfl rfl (by decide) (by decide) (by decide)
  · exact key (firstT_F0 (by omega)) (by decide) rfl rfl rfl (by decide) (by decide) (by decide)
  · exact key (firstT_F4 (by omega)) (by decide) rfl rfl rfl (by decide) (by decide) (by decide)
  · exact key (firstT_F1 (by omega)) (by decide) rfl rfl rfl (by decide) (by decide) (by decide)
def bAt (t : List UInt8) (j : Nat) : Nat := (t.getD j 0).toNat
theorem bAt_lt (t : List UInt8) (j : Nat) : bAt t j < 256 := (t.getD j 0).toNat_lt
theorem bAt_some {t : List UInt8} {j : Nat} {c : UInt8} (h : t[j]? = some c) : bAt t j = c.toNat ∧ j < t.length := ⟨by simp [bAt, List.getD, h], (List.getElem?_eq_some_iff.1 h).1⟩
/-- What the library's decoder says where the document's reading says this. -/
def SeqSays (t : List UInt8) (p : Nat) (n b0 b1 b2 b3 : Nat) : Gt Unit → Prop
  | .ok a _ => (decodeN n b0 b1 b2 b3).2 = a - p ∧ p + 2 ≤ a ∧ a ≤ t.length
  | .bad e q => decodeN n b0 b1 b2 b3 = (65533, 1) ∧ (e = 31 ∧ q = t.length ∧ fullN n b0 b1 b2 = false ∨ e = 32 ∧ q = p ∧ fullN n b0 b1 b2 = true)
theorem seq_says {t : List UInt8} {p : Nat} {c : UInt8} (hc : t[p]? = some c) (h : 128 ≤ c.toNat) : SeqSays t p (t.length - p) c.toNat (bAt t (p + 1)) (bAt t (p + 2)) (bAt t (p + 3)) (sequX t p c) := by
  have hp := (List.getElem?_eq_some_iff.1 hc).1
  have l1 := bAt_lt t (p + 1)
  have l2 := bAt_lt t (p + 2)
  have l3 := bAt_lt t (p + 3)
  unfold sequX
  cases hs : seqB c.toNat with
  | none =>
    have h1 := seqB_none h hs
    refine ⟨bad_eq _ _ _ _ _ c.toNat_lt h1, .inr ⟨rfl, rfl, ?_⟩⟩
    unfold fullN
    rw [h1, decide_eq_true (show 241 % 8 ≤ t.length - p by omega), Bool.true_or]
  | some v =>
    obtain ⟨k, lo, hi⟩ := v
    obtain ⟨h1, h2, h3, h4, h5, h6, h7⟩ := seqB_some hs
    have hd := slow_eq (t.length - p) c.toNat _ _ _ (by omega) l1 l2 l3 h1
    rw [h2, h3, h4] at hd
    have hf : fullN (t.length - p) c.toNat (bAt t (p + 1)) (bAt t (p + 2)) = (decide (k + 1 ≤ t.length - p) || ((decide (1 < t.length - p) && (decide (bAt t (p + 1) < lo) || decide (hi < bAt t (p + 1)))) || (decide (2 < t.length - p) && (decide (bAt t (p + 2) < 128) || decide (191 < bAt t (p + 2)))))) := by
      unfold fullN
      rw [h2, h3, h4]
    show SeqSays _ _ _ _ _ _ _ (seqX t p k (p + 1) lo hi)
    have stop31 : ∀ q, q = t.length → t.length - p ≤ k → ((1 < t.length - p → ¬ (bAt t (p + 1) < lo ∨ hi < bAt t (p + 1))) ∧ (2 < t.length - p → ¬ (bAt t (p + 2) < 128 ∨ 191 < bAt t (p + 2)))) → SeqSays t p (t.length - p) c.toNat (bAt t (p + 1)) (bAt t (p + 2)) (bAt t (p + 3)) (.bad 31 q) := by
      intro q hq hn hb
      refine ⟨?_, .inl ⟨rfl, hq, ?_⟩⟩
      · rw [← hd]
        unfold slowN
        rw [if_pos (by omega)]
      · rw [hf, decide_eq_false (by omega), Bool.false_or, Bool.or_eq_false_iff]
        refine ⟨?_, ?_⟩
        · by_cases h1n : 1 < t.length - p
          · have := hb.1 h1n
            rw [decide_eq_false (show ¬ bAt t (p + 1) < lo by omega), decide_eq_false (show ¬ hi < bAt t (p + 1) by omega)]
            simp
          · rw [decide_eq_false h1n, Bool.false_and]
        · by_cases h1n : 2 < t.length - p
          · have := hb.2 h1n
            rw [decide_eq_false (show ¬ bAt t (p + 2) < 128 by omega), decide_eq_false (show ¬ 191 < bAt t (p + 2) by omega)]
            simp
          · rw [decide_eq_false h1n, Bool.false_and]
    have stop32 : (1 < t.length - p ∧ (bAt t (p + 1) < lo ∨ hi < bAt t (p + 1)) ∨ 2 < t.length - p ∧ 2 ≤ k ∧ (bAt t (p + 2) < 128 ∨ 191 < bAt t (p + 2)) ∨ 3 < t.length - p ∧ 3 ≤ k ∧ (bAt t (p + 3) < 128 ∨ 191 < bAt t (p + 3))) → SeqSays t p (t.length - p) c.toNat (bAt t (p + 1)) (bAt t (p + 2)) (bAt t (p + 3)) (.bad 32 p) := by
      intro hb
      refine ⟨?_, .inr ⟨rfl, rfl, ?_⟩⟩
      · rw [← hd]
        unfold slowN
        repeat' split
        all_goals first | rfl | omega
      · rw [hf]
        simp only [Bool.or_eq_true, Bool.and_eq_true, decide_eq_true_eq]
        omega
    have good : ∀ a, a = p + k + 1 → k < t.length - p → (lo ≤ bAt t (p + 1) ∧ bAt t (p + 1) ≤ hi) → (2 ≤ k → 128 ≤ bAt t (p + 2) ∧ bAt t (p + 2) ≤ 191) → (3 ≤ k → 128 ≤ bAt t (p + 3) ∧ bAt t (p + 3) ≤ 191) → SeqSays t p (t.length - p) c.toNat (bAt t (p + 1)) (bAt t (p + 2)) (bAt t (p + 3)) (.ok a ()) := by
      intro a ha hn b1 b2 b3
      refine ⟨?_, by omega, by omega⟩
      rw [← hd]
      unfold slowN
      repeat' split
      all_goals first | (exfalso; omega) | (simp only; omega)
    obtain ⟨k, rfl⟩ : ∃ m, k = m + 1 := ⟨k - 1, by omega⟩
    unfold seqX
    cases h8 : t[p + 1]? with
    | none =>
      have := List.getElem?_eq_none_iff.1 h8
      exact stop31 _ (by omega) (by omega) ⟨by omega, by omega⟩
    | some c1 =>
      obtain ⟨e1, q1⟩ := bAt_some h8
      simp only
      split
      · exact stop32 (by omega)
      · rename_i hb1
        cases k with
        | zero =>
          unfold seqX
          exact good _ (by omega) (by omega) (by omega) (by omega) (by omega)
        | succ k =>
          unfold seqX
          cases h9 : t[p + 1 + 1]? with
          | none =>
            have := List.getElem?_eq_none_iff.1 h9
            exact stop31 _ (by omega) (by omega) ⟨by omega, by omega⟩
          | some c2 =>
            obtain ⟨e2, q2⟩ := bAt_some h9
            rw [show p + 1 + 1 = p + 2 from rfl] at e2
            simp only
            split
            · exact stop32 (by omega)
            · rename_i hb2
              cases k with
              | zero =>
                unfold seqX
                exact good _ (by omega) (by omega) (by omega) (by omega) (by omega)
              | succ k =>
                have hk0 : k = 0 := by omega
                subst hk0
                unfold seqX
                cases h10 : t[p + 1 + 1 + 1]? with
                | none =>
                  have := List.getElem?_eq_none_iff.1 h10
                  exact stop31 _ (by omega) (by omega) ⟨by omega, by omega⟩
                | some c3 =>
                  obtain ⟨e3, q3⟩ := bAt_some h10
                  rw [show p + 1 + 1 + 1 = p + 3 from rfl] at e3
                  simp only
                  split
                  · exact stop32 (by omega)
                  · unfold seqX
                    exact good _ (by omega) (by omega) (by omega) (by omega) (by omega)
end Sg
/- JSON, in plain Lean: the machine with a stack says what going down says. -/
namespace Sg
structure Cf where
  p : Nat
  s : Nat
  out : List Nd
  stk : List (Nat × Option (List (List UInt8)))
  key : List UInt8
inductive Nx
  | go (c : Cf)
  | stop (code : Int) (at_ : Nat)
def topObj : List (Nat × Option (List (List UInt8))) → Bool
  | (_, some _) :: _ => true
  | _ => false
/- Ends. -/
theorem takeWhile_le {f : UInt8 → Bool} (l : List UInt8) : (l.takeWhile f).length ≤ l.length := (List.takeWhile_prefix f).length_le
theorem digs_ge (t : List UInt8) (p : Nat) : p ≤ digsE t p := Nat.le_add_right _ _
theorem digs_le {t : List UInt8} {p : Nat} (h : p ≤ t.length) : digsE t p ≤ t.length := by
  have := takeWhile_le (f := digitB) (t.drop p)
  rw [List.length_drop] at this
  unfold digsE
  omega
/-- Where what is read ends. -/
def Gt.fits {α : Type} (g : Gt α) (lo hi : Nat) : Prop := ∀ a v, g = .ok a v → lo ≤ a ∧ a ≤ hi
/- Where the machine is led. -/
section
variable {wh : List UInt8 → Int × Bool} {t : List UInt8} {c c' : Cf} {R : Gt Cf}
end
end Sg
/- JSON's plain words, step by step. -/
namespace Sg
theorem tw_yes {f : UInt8 → Bool} {t : List UInt8} {p : Nat} {c : UInt8} (hc : t[p]? = some c) (h : f c = true) : p + ((t.drop p).takeWhile f).length = p + 1 + ((t.drop (p + 1)).takeWhile f).length := by
  obtain ⟨hp, rfl⟩ := List.getElem?_eq_some_iff.1 hc
  rw [List.drop_eq_getElem_cons hp, List.takeWhile_cons_of_pos h, List.length_cons]
  omega
theorem tw_no {f : UInt8 → Bool} {t : List UInt8} {p : Nat} (h : ∀ c, t[p]? = some c → f c = false) : p + ((t.drop p).takeWhile f).length = p := by
  rcases Nat.lt_or_ge p t.length with hp | hp
  · have := h _ (List.getElem?_eq_getElem hp)
    rw [List.drop_eq_getElem_cons hp, List.takeWhile_cons_of_neg (by rw [this]; simp)]
    rfl
  · rw [List.drop_eq_nil_of_le hp]
    rfl
theorem bAt_of {t : List UInt8} {p : Nat} {c : UInt8} (hc : t[p]? = some c) : bAt t p = c.toNat := (bAt_some hc).1
theorem bAt_lt_of {t : List UInt8} {p : Nat} (h : bAt t p ≠ 0) : p < t.length := by
  rcases Nat.lt_or_ge p t.length with hp | hp
  · exact hp
  · exact absurd (by simp [bAt, List.getD, List.getElem?_eq_none hp]) h
theorem bAt_get {t : List UInt8} {p : Nat} (h : p < t.length) : ∃ c, t[p]? = some c ∧ c.toNat = bAt t p := ⟨t[p], List.getElem?_eq_getElem h, (bAt_of (List.getElem?_eq_getElem h)).symm⟩
theorem bAt_big {t : List UInt8} {p : Nat} (h : t.length ≤ p) : bAt t p = 0 := by simp [bAt, List.getD, List.getElem?_eq_none h]
theorem digitB_iff {c : UInt8} : digitB c = true ↔ 48 ≤ c.toNat ∧ c.toNat ≤ 57 := by
  unfold digitB
  rw [Bool.and_eq_true, decide_eq_true_eq, decide_eq_true_eq, UInt8.le_iff_toNat_le, UInt8.le_iff_toNat_le]
  exact Iff.rfl
theorem digsE_yes {t : List UInt8} {p : Nat} (h : 48 ≤ bAt t p ∧ bAt t p ≤ 57) : digsE t p = digsE t (p + 1) := by
  obtain ⟨c, h1, h2⟩ := bAt_get (bAt_lt_of (t := t) (p := p) (by omega))
  exact tw_yes h1 (digitB_iff.2 (by omega))
theorem digsE_no {t : List UInt8} {p : Nat} (h : ¬ (48 ≤ bAt t p ∧ bAt t p ≤ 57)) : digsE t p = p := tw_no fun c hc => by
  rw [← Bool.not_eq_true, digitB_iff, ← bAt_of hc]
  exact h
end Sg
/- The walks of the program's reader of JSON: bytes, blanks, digits, faults. -/
namespace Go.Proofs.YtnimcchalinihaaDoor
open Sg Go.IntWalk
set_option maxRecDepth 100000
set_option maxHeartbeats 1000000
section
variable {F : World} {M : List Nat} {H : List Res} {p : Nat} {t : List UInt8} {o n m : Value} {a s : Nat} {k : List UInt8} {c b : Int}
end
end Go.Proofs.YtnimcchalinihaaDoor
/- Rules of runes (32 bits with a sign) and of single bytes; worlds that have grown alone. -/
namespace Sg
open Go Go.RowKit
section
variable {q : Mode} {c : Ctx} {dr : Bool} {ds : List Deferred} {H : List Res} {e : Env} {ops : Array Oper} {l : List Oper} {κ : List Res → Env → Prop} {ty : TypeId} {pos : String} {aft : Array Edge}
theorem T.band {x y : Operand} {d : Tmp} {t u : TypeId} {a : UInt8} (b : UInt8) (hx : ev e x = some (.int .u8 (a.toNat : Int))) (hy : ev e y = some (.int .u8 (b.toNat : Int))) (hlt : Nat.blt d c.fn.ntmps = true) (hk : Sr q c ds H ops l κ ((d, .int .u8 ((a &&& b).toNat : Int)) :: e)) :
    Sr q c ds H ops (⟨some d, .binOp .and t x y u, ty, pos, aft, none⟩ :: l) κ e := Sr.p (Pu.and hx hy (by rw [and_u8 a.toNat_lt b.toNat_lt, UInt8.toNat_and])) rfl hlt rfl hk
theorem T.bor {x y : Operand} {d : Tmp} {t u : TypeId} (a : UInt8) {b : UInt8} (hx : ev e x = some (.int .u8 (a.toNat : Int))) (hy : ev e y = some (.int .u8 (b.toNat : Int))) (hlt : Nat.blt d c.fn.ntmps = true) (hk : Sr q c ds H ops l κ ((d, .int .u8 ((a ||| b).toNat : Int)) :: e)) :
    Sr q c ds H ops (⟨some d, .binOp .or t x y u, ty, pos, aft, none⟩ :: l) κ e := Sr.p (Pu.or hx hy (by rw [or_u8 a.toNat_lt b.toNat_lt, UInt8.toNat_or])) rfl hlt rfl hk
/-- Words of 64 bits: a quotient, the opposite, and back to a number with a sign. -/
theorem T.quoU64 {x y : Operand} {d : Tmp} {t u : TypeId} {m : Nat} (n : Nat) (hx : ev e x = some (.int .u64 (m : Int))) (hy : ev e y = some (.int .u64 (n : Int))) (h0 : 0 < n ∧ m < 18446744073709551616) (hlt : Nat.blt d c.fn.ntmps = true) (hk : Sr q c ds H ops l κ ((d, .int .u64 ((m / n : Nat) : Int)) :: e)) :
    Sr q c ds H ops (⟨some d, .binOp .quo t x y u, ty, pos, aft, none⟩ :: l) κ e := Sr.p (Pu.quo hx hy (by omega) (by
      have := Nat.div_le_self m n
      rw [← Int.ofNat_tdiv]
      generalize m / n = k at *
      exact IntWalk.u64_in _ (by omega))) rfl hlt rfl hk
theorem T.negU64 {x : Operand} {d : Tmp} {t : TypeId} {m : Nat} (hx : ev e x = some (.int .u64 (m : Int))) (hlt : Nat.blt d c.fn.ntmps = true) (hk : Sr q c ds H ops l κ ((d, .int .u64 ((0 - (m : Int)) % 18446744073709551616)) :: e)) :
    Sr q c ds H ops (⟨some d, .unOp .neg t x, ty, pos, aft, none⟩ :: l) κ e := Sr.p (Pu.neg hx (wrap_u64 _)) rfl hlt rfl hk
theorem T.convNeg {x : Operand} {d : Tmp} {s t : TypeId} {m : Nat} {dd : TypeDesc} [HU c.P s dd] [HU c.P t (.int .i64)] (hx : ev e x = some (.int .u64 ((0 - (m : Int)) % 18446744073709551616))) (hm : m ≤ 9223372036854775808) (hlt : Nat.blt d c.fn.ntmps = true) (hk : Sr q c ds H ops l κ ((d, .int .i64 (-(m : Int))) :: e)) :
    Sr q c ds H ops (⟨some d, .convert s t x, ty, pos, aft, none⟩ :: l) κ e := Sr.p (Pu.conv (d := dd) hx (by rw [IntKind.wrap_i64]; omega)) rfl hlt rfl hk
/-- A text's end, a text's beginning. -/
theorem T.ssliceL {d : Tmp} {x lo : Operand} {kd : IntKind} {i : Nat} {t : TypeId} {bs : List UInt8} [HU c.P t .string] (hx : ev e x = some (sV bs)) (hl : ev e lo = some (.int kd (i : Int))) (h0 : i ≤ bs.length) (hlt : Nat.blt d c.fn.ntmps = true)
    (hk : Sr q c ds H ops l κ ((d, sV (bs.drop i)) :: e)) : Sr q c ds H ops (⟨some d, .slice t x (some lo) none none, ty, pos, aft, none⟩ :: l) κ e :=
  Sr.p (fun w a _ ha => by
    have hr := run_slice_string_l (P := c.P) (w := w) (t := t) (s := ByteArray.mk bs.toArray) (HU.h (P := c.P) (t := t)) kd (i : Int) (by omega) (by show (i : Int) ≤ (bs.length : Nat); omega)
    have hex : (ByteArray.mk bs.toArray).extract (i : Int).toNat (ByteArray.mk bs.toArray).size = ByteArray.mk (bs.drop i).toArray := by
      rw [Int.toNat_natCast]
      apply ByteArray.ext
      rw [ByteArray.data_extract]
      apply Array.ext'
      have : (ByteArray.mk bs.toArray).size = bs.length := rfl
      simp [List.extract, this]
      exact List.take_of_length_le (by rw [List.length_drop]; omega)
    rw [hex] at hr
    simp [execOp, ha.ev hx, ha.ev hl, Instr.sliceAt, run_under (d := .string), hr]) rfl hlt rfl hk
theorem T.ssliceH {d : Tmp} {x hi : Operand} {kd : IntKind} {j : Nat} {t : TypeId} {bs : List UInt8} [HU c.P t .string] (hx : ev e x = some (sV bs)) (hh : ev e hi = some (.int kd (j : Int))) (h0 : j ≤ bs.length) (hlt : Nat.blt d c.fn.ntmps = true)
    (hk : Sr q c ds H ops l κ ((d, sV (bs.take j)) :: e)) : Sr q c ds H ops (⟨some d, .slice t x none (some hi) none, ty, pos, aft, none⟩ :: l) κ e :=
  Sr.p (fun w a _ ha => by
    have hr := run_slice_string_h (P := c.P) (w := w) (t := t) (s := ByteArray.mk bs.toArray) (HU.h (P := c.P) (t := t)) kd (j : Int) (by omega) (by show (j : Int) ≤ (bs.length : Nat); omega)
    have hex : (ByteArray.mk bs.toArray).extract 0 (j : Int).toNat = ByteArray.mk (bs.take j).toArray := by
      rw [Int.toNat_natCast]
      apply ByteArray.ext
      rw [ByteArray.data_extract]
      apply Array.ext'
      simp [List.extract]
    rw [hex] at hr
    simp [execOp, ha.ev hx, ha.ev hh, Instr.sliceAt, run_under (d := .string), hr]) rfl hlt rfl hk
end
/-- A world that has grown above, and is else as it was. -/
theorem St.below {F : World} {M : List Nat} {w w' : World} {H : List Res} (h : St F M w H) (hb : Below w.heap.size w w') : St F M w' H := by
  have hlt : ∀ q ∈ H, ∀ b ∈ q.foot, b < w.heap.size := fun q hq => Res.foot_lt (h.res q hq)
  exact ⟨hb.os.trans h.os, hb.tape.trans h.tape, hb.output.trans h.output, Nat.le_trans h.size hb.size, fun j hj hm => by rw [hb.block j (Nat.lt_of_lt_of_le hj h.size), h.keep j hj hm], h.own, h.nd, fun r hr => Res.holds_of_heap (h.res r hr) fun b hb' => hb.block b (hlt r hr b hb')⟩
end Sg
/- The walks of the program's reader of JSON: escapes, sequences, runes appended. -/
namespace Go.Proofs.YtnimcchalinihaaDoor
open Sg Go.IntWalk
set_option maxRecDepth 100000
set_option maxHeartbeats 2000000
section
variable {F : World} {M : List Nat} {H : List Res} {p : Nat} {t : List UInt8} {o n m : Value} {a s : Nat} {k : List UInt8} {c b : Int}
end
end Go.Proofs.YtnimcchalinihaaDoor
/- What escapes say, in plain Lean: always a code point. -/
namespace Sg
end Sg
/- The walks of the program's reader of JSON: whole escapes. -/
namespace Go.Proofs.YtnimcchalinihaaDoor
open Sg Go.IntWalk
set_option maxRecDepth 100000
set_option maxHeartbeats 2000000
section
variable {F : World} {M : List Nat} {H : List Res} {p : Nat} {t : List UInt8} {o n m : Value} {a s : Nat} {k : List UInt8} {c b : Int}
end
end Go.Proofs.YtnimcchalinihaaDoor
/- The walks of the program's reader of JSON: escapes. -/
namespace Go.Proofs.YtnimcchalinihaaDoor
open Sg Go.IntWalk
set_option maxRecDepth 100000
set_option maxHeartbeats 4000000
section
variable {F : World} {M : List Nat} {H : List Res} {p : Nat} {t : List UInt8} {o n m : Value} {s : Nat} {k : List UInt8} {c b : Int}
end
end Go.Proofs.YtnimcchalinihaaDoor
/- The library's contracts, laid at this program (printed by the kit's tools lay-shelf and lay-plain, cut out by a program). -/
namespace Go.Proofs
open Go.Shelf
end Go.Proofs
/- The walks of the program's reader of JSON: sequences of UTF-8. -/
namespace Go.Proofs.YtnimcchalinihaaDoor
open Sg Go.IntWalk Go.Lib
set_option maxRecDepth 100000
set_option maxHeartbeats 2000000
/-- The library's two tables. -/
def firstL : List Value := (List.range 256).map fun c => .int .u8 (firstT c : Nat)
def accL : List Value := (List.range 16).flatMap fun i => [.int .u8 (accLo i : Nat), .int .u8 (accHi i : Nat)]
structure Tabs (F : World) (M : List Nat) : Prop where
  fst : ∀ H, Rd F M H (some ⟨0, 0, none⟩) firstL
  acc : ∀ H, Rd F M H (some ⟨1, 0, none⟩) accL
theorem first_at {c : Nat} (h : c < 256) : firstL[c]? = some (.int .u8 (firstT c : Nat)) := by simp [firstL, h]
theorem acc_two : ∀ i : Fin 16, (accL.drop (i.val * 2)).take 2 = [.int .u8 (accLo i.val : Nat), .int .u8 (accHi i.val : Nat)] := by
  intro i
  have h1 := flat_at (g := fun i => [Value.int .u8 (accLo i : Nat), .int .u8 (accHi i : Nat)]) (sz := 2) (xs := List.range 16) (i := i.val) (fun _ => rfl) (by simp)
  unfold accL
  rw [h1]
  have h2 : (List.range 16).getD i.val default = i.val := by simp [List.getD, i.isLt]
  rw [h2]
  rfl
theorem Tabs.met {F : World} {M : List Nat} (h : Tabs F M) {w : World} {H : List Res} (hw : St F M w H) : Utf8Tabs 0 1 w := by
  have h1 := (h.fst H).h w hw
  have h2 := (h.acc H).h w hw
  have hlen : accL.length = 32 := by decide
  refine ⟨fun c hc => ?_, fun i hi => ?_⟩
  · obtain ⟨ad, e1, e2⟩ := h1 c _ (first_at hc)
    simp only [Option.some.injEq] at e1
    subst e1
    simpa [addr_add] using e2
  · have h3 := acc_two ⟨i, hi⟩
    simp only at h3
    have g0 : accL[2 * i]? = some (.int .u8 (accLo i : Nat)) := by
      have := congrArg (fun l => l[0]?) h3
      simpa [List.getElem?_take, List.getElem?_drop, Nat.mul_comm] using this
    have g1 : accL[2 * i + 1]? = some (.int .u8 (accHi i : Nat)) := by
      have := congrArg (fun l => l[1]?) h3
      simpa [List.getElem?_take, List.getElem?_drop, Nat.mul_comm] using this
    obtain ⟨ad, e1, e2⟩ := h2 _ _ g0
    obtain ⟨ad', e1', e2'⟩ := h2 _ _ g1
    simp only [Option.some.injEq] at e1 e1'
    subst e1 e1'
    refine ⟨?_, ?_⟩
    · simpa [addr_add] using e2
    · simpa [addr_add] using e2'
section
variable {F : World} {M : List Nat} {H : List Res} {p : Nat} {t : List UInt8} {o n m : Value} {a s : Nat} {k : List UInt8} {c b : Int}
end
end Go.Proofs.YtnimcchalinihaaDoor
/- The walks of the program's reader of JSON: strings. -/
namespace Go.Proofs.YtnimcchalinihaaDoor
open Sg Go.IntWalk
set_option maxRecDepth 100000
set_option maxHeartbeats 4000000
section
variable {F : World} {M : List Nat} {H : List Res} {p : Nat} {t : List UInt8} {o n m : Value} {a s : Nat} {k : List UInt8} {c b : Int}
end
end Go.Proofs.YtnimcchalinihaaDoor
/- Numbers of JSON texts, in plain Lean: their parts; the whole number that is spelled as one. -/
namespace Sg
/-- A text without its first sign, if it is this one; was it? -/
def cutP (c : UInt8) (s : List UInt8) : List UInt8 × Bool := match s with
  | x :: r => if x = c then (r, true) else (x :: r, false)
  | [] => ([], false)
def runD (s : List UInt8) : Nat := (s.takeWhile digitB).length
def fracP (s : List UInt8) : Option (List UInt8 × Bool) := if (cutP 46 s).2 = true then (if runD (cutP 46 s).1 = 0 then none else some ((cutP 46 s).1.drop (runD (cutP 46 s).1), false)) else some (s, true)
def signP (s : List UInt8) : List UInt8 := match s with
  | x :: r => if x = 43 ∨ x = 45 then r else x :: r
  | [] => []
def expP (s : List UInt8) : Option (List UInt8 × Bool) := match s with
  | x :: r => if x = 101 ∨ x = 69 then (if signP r = [] ∨ runD (signP r) ≠ (signP r).length then none else some ([], false)) else some (x :: r, true)
  | [] => some ([], true)
def intBad (s : List UInt8) : Bool := decide (runD s = 0) || (decide (1 < runD s) && decide (bAt s 0 = 48))
/-- A number: has it a minus, its digits ahead of the dot, is it plain. -/
def numP (t : List UInt8) : Option (Bool × List UInt8 × Bool) :=
  if intBad (cutP 45 t).1 = true then none else
  match fracP ((cutP 45 t).1.drop (runD (cutP 45 t).1)) with
  | none => none
  | some (s3, p1) => match expP s3 with
    | none => none
    | some (s6, p2) => if s6 = [] then some ((cutP 45 t).2, (cutP 45 t).1.take (runD (cutP 45 t).1), p1 && p2) else none
def decV (l : List UInt8) : Nat := l.foldl (fun n c => 10 * n + (c.toNat - 48)) 0
def whole64 (mi : Bool) (v : Nat) : Int × Bool := if mi = true then (if v ≤ 9223372036854775808 then (-(v : Int), true) else (0, false)) else if v < 9223372036854775808 then ((v : Int), true) else (0, false)
/-- The whole number of a text. -/
def wholeX (t : List UInt8) : Int × Bool := match numP t with
  | some (mi, w, true) => whole64 mi (decV w)
  | _ => (0, false)
theorem mem_tw {f : UInt8 → Bool} {x : UInt8} : ∀ {l : List UInt8}, x ∈ l.takeWhile f → f x = true
  | [], h => by cases h
  | a :: r, h => by
    by_cases ha : f a = true
    · rw [List.takeWhile_cons_of_pos ha, List.mem_cons] at h
      rcases h with rfl | h
      · exact ha
      · exact mem_tw h
    · rw [List.takeWhile_cons_of_neg ha] at h
      cases h
theorem runD_le (s : List UInt8) : runD s ≤ s.length := takeWhile_le s
theorem runD_digit {s : List UInt8} {j : Nat} (h : j < runD s) : 48 ≤ bAt s j ∧ bAt s j ≤ 57 := by
  have h1 : j < s.length := Nat.lt_of_lt_of_le h (runD_le s)
  have h2 : (s.takeWhile digitB)[j]? = s[j]? := by
    have := (List.takeWhile_prefix digitB (l := s))
    obtain ⟨r, hr⟩ := this
    conv => rhs; rw [← hr]
    rw [List.getElem?_append_left h]
  have h3 : s[j] ∈ s.takeWhile digitB := by
    rw [List.getElem?_eq_getElem h1] at h2
    exact List.mem_of_getElem? h2
  have h4 := mem_tw h3
  have h5 := digitB_iff.1 h4
  rw [← bAt_of (List.getElem?_eq_getElem h1)] at h5
  exact h5
theorem decV_snoc (l : List UInt8) (c : UInt8) : decV (l ++ [c]) = 10 * decV l + (c.toNat - 48) := by simp [decV]
theorem decV_mono {l : List UInt8} {i : Nat} (h : i ≤ l.length) : decV (l.take i) ≤ decV l := by
  induction hn : l.length - i generalizing i with
  | zero => rw [List.take_of_length_le (by omega)]; exact Nat.le_refl _
  | succ n ih =>
    have h1 : i < l.length := by omega
    have h2 := ih (i := i + 1) (by omega) (by omega)
    rw [List.take_succ_eq_append_getElem h1, decV_snoc] at h2
    omega
theorem cutP_len (c : UInt8) (s : List UInt8) : (cutP c s).1.length ≤ s.length := by
  unfold cutP
  split
  · split
    · simp
    · simp
  · simp
set_option maxRecDepth 100000 in
theorem or32 : ∀ x : Fin 256, (UInt8.ofNat x.val ||| 32 = 101) = (UInt8.ofNat x.val = 101 ∨ UInt8.ofNat x.val = 69) := by decide
theorem or32_iff (x : UInt8) : x ||| 32 = 101 ↔ (x = 101 ∨ x = 69) := by
  have := or32 ⟨x.toNat, x.toNat_lt⟩
  simp only [UInt8.ofNat_toNat] at this
  rw [this]
end Sg
/- The walks of the program's numbers: their parts, whole ones. -/
namespace Go.Proofs.YtnimcchalinihaaDoor
open Sg Go.IntWalk
set_option maxRecDepth 100000
set_option maxHeartbeats 2000000
section
variable {F : World} {M : List Nat} {H : List Res}
theorem hasPrefix1_spec {s pr : List UInt8} {c : UInt8} (hp : pr = [c]) (hl : s.length ≤ 1000000000) : Meets Tryd.prog 145 [sV s, sV pr] F M H (fun e H' => e = .returned (.bool (cutP c s).2) ∧ H' = H) := by
  refine Meets.enter Tryd.func145 rfl rfl ?_
  have h1 : pr.length = 1 := by rw [hp]; rfl
  have e2 : s.length ≠ 0 → decide (s.take pr.length = pr) = (cutP c s).2 := by
    intro h0
    cases s with
    | nil => exact absurd rfl h0
    | cons x r =>
      rw [hp]
      unfold cutP
      by_cases h : x = c
      · simp [h]
      · simp [h]
  have e3 : s.length = 0 → (cutP c s).2 = false := by
    intro h0
    rw [List.length_eq_zero_iff.1 h0]
    rfl
  by_cases h0 : s.length = 0
  · rw [e3 h0]
    repeat' (first | (apply T.slen; apply rfl; apply rfl) | (apply T.mv; apply rfl; apply rfl) | (apply T.asn; apply rfl; apply rfl) | (apply T.geq; apply rfl; apply rfl; apply rfl) | (apply T.pickF; apply rfl; apply rfl; apply rfl) | with_reducible refine Sr.nil ?_ | with_reducible refine S.seq ?_ | with_reducible refine S.reg ?_ | (apply T.skip; apply rfl; (first | with_reducible rfl | decide); apply rfl) | (apply T.gcase; apply rfl; apply rfl; all_goals (intro _; try (exfalso; first | omega | with_reducible contradiction))) | (apply T.retW; apply rfl) | fail)
    exact ⟨_, PSub.refl _, rfl, rfl⟩
  · rw [← e2 h0]
    repeat' (first | (refine T.ssliceH (j := pr.length) rfl rfl (by omega) rfl ?_) | (apply T.seql; apply rfl; apply rfl; apply rfl) | (apply T.slen; apply rfl; apply rfl) | (apply T.mv; apply rfl; apply rfl) | (apply T.asn; apply rfl; apply rfl) | (apply T.geq; apply rfl; apply rfl; apply rfl) | (apply T.pickT; apply rfl; apply rfl; apply rfl) | with_reducible refine Sr.nil ?_ | with_reducible refine S.seq ?_ | with_reducible refine S.reg ?_ | (apply T.ungV; apply rfl; (first | with_reducible rfl | decide)) | (apply T.gcase; apply rfl; apply rfl; all_goals (intro _; try (exfalso; first | omega | with_reducible contradiction))) | (apply T.retW; apply rfl) | fail)
    all_goals exact ⟨_, PSub.refl _, rfl, rfl⟩
theorem cutPrefix1_spec {s pr : List UInt8} {c : UInt8} (hp : pr = [c]) (hl : s.length ≤ 1000000000) : Meets Tryd.prog 124 [sV s, sV pr] F M H (fun e H' => e = .returned (.tuple ⟨[sV (cutP c s).1, .bool (cutP c s).2]⟩) ∧ H' = H) := by
  have h1 : pr.length = 1 := by rw [hp]; rfl
  have inner : Meets Tryd.prog 133 [sV s, sV pr] F M H (fun e H' => e = .returned (.tuple ⟨[sV (cutP c s).1, .bool (cutP c s).2]⟩) ∧ H' = H) := by
    refine Meets.enter Tryd.func133 rfl rfl ?_
    have c1 := hasPrefix1_spec (F := F) (M := M) (H := H) hp hl
    cases hc : (cutP c s).2 with
    | false =>
      have h2 : (cutP c s).1 = s := by
        unfold cutP at hc ⊢
        split at hc
        · split at hc
          · cases hc
          · rename_i h
            rw [if_neg h]
        · rfl
      rw [hc] at c1
      rw [h2]
      repeat' (first | (apply T.mv; apply rfl; apply rfl) | (apply T.asn; apply rfl; apply rfl) | with_reducible refine Sr.nil ?_ | with_reducible refine S.seq ?_ | with_reducible refine S.reg ?_ | fail)
      refine T.call rfl rfl c1 ?_
      rintro _ _ ⟨rfl, hH⟩
      have hH2 := hH.symm
      subst hH2
      repeat' (first | (apply T.mv; apply rfl; apply rfl) | (apply T.asn; apply rfl; apply rfl) | (apply T.notB; apply rfl; apply rfl) | with_reducible refine Sr.nil ?_ | with_reducible refine S.seq ?_ | with_reducible refine S.reg ?_ | (apply S.condTV; apply rfl; (first | with_reducible rfl | decide)) | (apply T.retW; apply rfl) | (with_reducible apply T.ofRet) | fail)
      exact ⟨_, PSub.refl _, rfl, rfl⟩
    | true =>
      have h2 : (cutP c s).1 = s.drop pr.length ∧ pr.length ≤ s.length := by
        rw [h1]
        unfold cutP at hc ⊢
        split at hc
        · split at hc
          · rename_i h
            rw [if_pos h]
            exact ⟨rfl, by simp⟩
          · cases hc
        · cases hc
      rw [hc] at c1
      rw [h2.1]
      have h3 := h2.2
      repeat' (first | (apply T.mv; apply rfl; apply rfl) | (apply T.asn; apply rfl; apply rfl) | with_reducible refine Sr.nil ?_ | with_reducible refine S.seq ?_ | with_reducible refine S.reg ?_ | fail)
      refine T.call rfl rfl c1 ?_
      rintro _ _ ⟨rfl, hH⟩
      have hH2 := hH.symm
      subst hH2
      repeat' (first | (refine T.ssliceL (i := pr.length) rfl rfl h3 rfl ?_) | (apply T.slen; apply rfl; apply rfl) | (apply T.mv; apply rfl; apply rfl) | (apply T.asn; apply rfl; apply rfl) | (apply T.notB; apply rfl; apply rfl) | with_reducible refine Sr.nil ?_ | with_reducible refine S.seq ?_ | with_reducible refine S.reg ?_ | with_reducible refine S.skip ?_ | (apply S.condFV; apply rfl; (first | with_reducible rfl | decide)) | (apply T.retW; apply rfl) | (with_reducible apply T.ofRet) | fail)
      exact ⟨_, PSub.refl _, rfl, rfl⟩
  refine Meets.enter Tryd.func124 rfl rfl ?_
  repeat' (first | (apply T.mv; apply rfl; apply rfl) | (apply T.asn; apply rfl; apply rfl) | with_reducible refine Sr.nil ?_ | with_reducible refine S.seq ?_ | with_reducible refine S.reg ?_ | fail)
  refine T.call rfl rfl inner ?_
  rintro _ _ ⟨rfl, hH⟩
  have hH2 := hH.symm
  subst hH2
  repeat' (first | (apply T.asn; apply rfl; apply rfl) | (apply T.extract; apply rfl; apply rfl; apply rfl) | with_reducible refine Sr.nil ?_ | (apply T.retW; apply rfl) | (with_reducible apply T.ofRet) | fail)
  exact ⟨_, PSub.refl _, rfl, rfl⟩
theorem trimLeftByte_spec {s : List UInt8} {c : UInt8} (_hl : s.length ≤ 1000000000) : Meets Tryd.prog 134 [sV s, .int .u8 (c.toNat : Nat)] F M H (fun e H' => ∃ r, e = .returned (sV r) ∧ H' = H ∧ r.length ≤ s.length) := by
  refine Meets.enter Tryd.func134 rfl rfl ?_
  repeat' (first | (apply T.asn; apply rfl; apply rfl) | with_reducible refine Sr.nil ?_ | with_reducible refine S.seq ?_ | with_reducible refine S.block ?_ | with_reducible refine S.reg ?_ | fail)
  refine S.loopE 0 [1] (fun R b' μ H' e => ∃ r : List UInt8, H' = R ∧ e = (0, sV r) :: b' ∧ r.length ≤ s.length ∧ μ = r.length) rfl rfl ?_ _ _ ⟨s, rfl, rfl, Nat.le_refl _, rfl⟩ (by repeat' first | exact trivial | refine And.intro rfl ?_)
  rintro _ _ _ ⟨r, rfl, rfl, h1, rfl⟩ ih
  by_cases h0 : r.length = 0
  · repeat' (first | (apply T.slen; apply rfl; apply rfl) | (apply T.mv; apply rfl; apply rfl) | (apply T.asn; apply rfl; apply rfl) | (apply T.gtr; apply rfl; apply rfl; apply rfl) | (apply T.pickF; apply rfl; apply rfl; apply rfl) | with_reducible refine Sr.nil ?_ | with_reducible refine S.seq ?_ | with_reducible refine S.reg ?_ | (apply S.exit; apply rfl) | (apply T.skip; apply rfl; (first | with_reducible rfl | decide); apply rfl) | (apply S.condFV; apply rfl; (first | with_reducible rfl | decide)) | (apply T.gcase; apply rfl; apply rfl; all_goals (intro _; try (exfalso; first | omega | with_reducible contradiction))) | (apply T.retW; apply rfl) | fail)
    exact ⟨_, PSub.refl _, r, rfl, rfl, h1⟩
  · repeat' (first | (refine T.sidx (i := 0) rfl rfl (by omega) rfl ?_) | (refine T.ssliceL (i := 1) rfl rfl (by omega) rfl ?_) | (apply T.slen; apply rfl; apply rfl) | (apply T.mv; apply rfl; apply rfl) | (apply T.asn; apply rfl; apply rfl) | (apply T.gtr; apply rfl; apply rfl; apply rfl) | (apply T.eql; apply rfl; apply rfl; apply rfl) | (apply T.pickT; apply rfl; apply rfl; apply rfl) | with_reducible refine Sr.nil ?_ | with_reducible refine S.seq ?_ | with_reducible refine S.block ?_ | with_reducible refine S.reg ?_ | with_reducible refine S.skip ?_ | with_reducible refine S.inBlock ?_ | (apply S.exit; apply rfl) | (apply T.ungV; apply rfl; (first | with_reducible rfl | decide)) | (apply S.condQ; apply rfl; all_goals (intro _; try (exfalso; first | omega | with_reducible contradiction))) | (apply T.gcase; apply rfl; apply rfl; all_goals (intro _; try (exfalso; first | omega | with_reducible contradiction))) | (apply T.retW; apply rfl) | fail)
    all_goals first
      | exact ⟨_, PSub.refl _, r, rfl, rfl, h1⟩
      | exact ih _ _ _ _ ⟨r.drop 1, rfl, rfl, by rw [List.length_drop]; omega, rfl⟩ (by rw [List.length_drop]; omega) (by repeat' first | exact trivial | refine And.intro rfl ?_)
theorem trimRightByte_spec {s : List UInt8} {c : UInt8} (hl : s.length ≤ 1000000000) : Meets Tryd.prog 138 [sV s, .int .u8 (c.toNat : Nat)] F M H (fun e H' => ∃ r, e = .returned (sV r) ∧ H' = H ∧ r.length ≤ s.length) := by
  refine Meets.enter Tryd.func138 rfl rfl ?_
  repeat' (first | (apply T.asn; apply rfl; apply rfl) | with_reducible refine Sr.nil ?_ | with_reducible refine S.seq ?_ | with_reducible refine S.block ?_ | with_reducible refine S.reg ?_ | fail)
  refine S.loopE 0 [1] (fun R b' μ H' e => ∃ r : List UInt8, H' = R ∧ e = (0, sV r) :: b' ∧ r.length ≤ s.length ∧ μ = r.length) rfl rfl ?_ _ _ ⟨s, rfl, rfl, Nat.le_refl _, rfl⟩ (by repeat' first | exact trivial | refine And.intro rfl ?_)
  rintro _ _ _ ⟨r, rfl, rfl, h1, rfl⟩ ih
  by_cases h0 : r.length = 0
  · repeat' (first | (apply T.slen; apply rfl; apply rfl) | (apply T.mv; apply rfl; apply rfl) | (apply T.asn; apply rfl; apply rfl) | (apply T.gtr; apply rfl; apply rfl; apply rfl) | (apply T.pickF; apply rfl; apply rfl; apply rfl) | with_reducible refine Sr.nil ?_ | with_reducible refine S.seq ?_ | with_reducible refine S.reg ?_ | (apply S.exit; apply rfl) | (apply T.skip; apply rfl; (first | with_reducible rfl | decide); apply rfl) | (apply S.condFV; apply rfl; (first | with_reducible rfl | decide)) | (apply T.gcase; apply rfl; apply rfl; all_goals (intro _; try (exfalso; first | omega | with_reducible contradiction))) | (apply T.retW; apply rfl) | fail)
    exact ⟨_, PSub.refl _, r, rfl, rfl, h1⟩
  · have e1 : (r.length : Int) - 1 = ((r.length - 1 : Nat) : Int) := by omega
    repeat' (first | (apply T.subI; apply rfl; apply rfl; omega; apply rfl; rw [e1]) | (refine T.ssliceH (j := r.length - 1) rfl rfl (by omega) rfl ?_) | (apply T.slen; apply rfl; apply rfl) | (apply T.sidx; apply rfl; apply rfl; omega; apply rfl) | (apply T.mv; apply rfl; apply rfl) | (apply T.asn; apply rfl; apply rfl) | (apply T.gtr; apply rfl; apply rfl; apply rfl) | (apply T.eql; apply rfl; apply rfl; apply rfl) | (apply T.pickT; apply rfl; apply rfl; apply rfl) | with_reducible refine Sr.nil ?_ | with_reducible refine S.seq ?_ | with_reducible refine S.block ?_ | with_reducible refine S.reg ?_ | with_reducible refine S.skip ?_ | with_reducible refine S.inBlock ?_ | (apply S.exit; apply rfl) | (apply T.ungV; apply rfl; (first | with_reducible rfl | decide)) | (apply S.condQ; apply rfl; all_goals (intro _; try (exfalso; first | omega | with_reducible contradiction))) | (apply T.gcase; apply rfl; apply rfl; all_goals (intro _; try (exfalso; first | omega | with_reducible contradiction))) | (apply T.retW; apply rfl) | fail)
    all_goals first
      | exact ⟨_, PSub.refl _, r, rfl, rfl, h1⟩
      | exact ih _ _ _ _ ⟨r.take (r.length - 1), rfl, rfl, by rw [List.length_take]; omega, rfl⟩ (by rw [List.length_take]; omega) (by repeat' first | exact trivial | refine And.intro rfl ?_)
theorem trimLeft1_spec {s pr : List UInt8} {c : UInt8} (hp : pr = [c]) (hc : c.toNat < 128) (hl : s.length ≤ 1000000000) : Meets Tryd.prog 126 [sV s, sV pr] F M H (fun e H' => ∃ r, e = .returned (sV r) ∧ H' = H ∧ r.length ≤ s.length) := by
  refine Meets.enter Tryd.func126 rfl rfl ?_
  have h1 : pr.length = 1 := by rw [hp]; rfl
  have h2 : ¬ pr = [] := by rw [hp]; simp
  have h3 : pr.getD 0 0 = c := by rw [hp]; rfl
  by_cases h0 : s = []
  · repeat' (first | (apply T.seql; apply rfl; apply rfl; apply rfl) | (apply T.mv; apply rfl; apply rfl) | (apply T.asn; apply rfl; apply rfl) | (apply T.pickT; apply rfl; apply rfl; apply rfl) | with_reducible refine Sr.nil ?_ | with_reducible refine S.seq ?_ | with_reducible refine S.reg ?_ | (apply T.skip; apply rfl; (first | with_reducible rfl | decide); apply rfl) | (apply S.condTV; apply rfl; (first | with_reducible rfl | decide)) | (apply T.gcase; apply rfl; apply rfl; all_goals (intro _; try (exfalso; first | omega | with_reducible contradiction))) | (apply T.retW; apply rfl) | fail)
    exact ⟨_, PSub.refl _, s, rfl, rfl, Nat.le_refl _⟩
  · repeat' (first | (refine T.sidx (i := 0) rfl rfl (by omega) rfl ?_; rw [h3]) | (apply T.seql; apply rfl; apply rfl; apply rfl) | (apply T.slen; apply rfl; apply rfl) | (apply T.mv; apply rfl; apply rfl) | (apply T.asn; apply rfl; apply rfl) | (apply T.lss; apply rfl; apply rfl; apply rfl) | (apply T.eql; apply rfl; apply rfl; apply rfl) | (apply T.pickT; apply rfl; apply rfl; apply rfl) | (apply T.pickF; apply rfl; apply rfl; apply rfl) | with_reducible refine Sr.nil ?_ | with_reducible refine S.seq ?_ | with_reducible refine S.reg ?_ | with_reducible refine S.skip ?_ | (apply T.ungV; apply rfl; (first | with_reducible rfl | decide)) | (apply S.condQ; apply rfl; all_goals (intro _; try (exfalso; first | omega | with_reducible contradiction))) | (apply T.gcase; apply rfl; apply rfl; all_goals (intro _; try (exfalso; first | omega | with_reducible contradiction))) | fail)
    all_goals
      refine T.call rfl rfl (trimLeftByte_spec hl) ?_
      rintro _ _ ⟨r, rfl, hH, hr⟩
      have hH2 := hH.symm
      subst hH2
      repeat' (first | (apply T.asn; apply rfl; apply rfl) | with_reducible refine Sr.nil ?_ | (apply T.retW; apply rfl) | (with_reducible apply T.ofRet) | fail)
      exact ⟨_, PSub.refl _, r, rfl, rfl, hr⟩
theorem trimRight1_spec {s pr : List UInt8} {c : UInt8} (hp : pr = [c]) (hc : c.toNat < 128) (hl : s.length ≤ 1000000000) : Meets Tryd.prog 127 [sV s, sV pr] F M H (fun e H' => ∃ r, e = .returned (sV r) ∧ H' = H ∧ r.length ≤ s.length) := by
  refine Meets.enter Tryd.func127 rfl rfl ?_
  have h1 : pr.length = 1 := by rw [hp]; rfl
  have h2 : ¬ pr = [] := by rw [hp]; simp
  have h3 : pr.getD 0 0 = c := by rw [hp]; rfl
  by_cases h0 : s = []
  · repeat' (first | (apply T.seql; apply rfl; apply rfl; apply rfl) | (apply T.mv; apply rfl; apply rfl) | (apply T.asn; apply rfl; apply rfl) | (apply T.pickT; apply rfl; apply rfl; apply rfl) | with_reducible refine Sr.nil ?_ | with_reducible refine S.seq ?_ | with_reducible refine S.reg ?_ | (apply T.skip; apply rfl; (first | with_reducible rfl | decide); apply rfl) | (apply S.condTV; apply rfl; (first | with_reducible rfl | decide)) | (apply T.gcase; apply rfl; apply rfl; all_goals (intro _; try (exfalso; first | omega | with_reducible contradiction))) | (apply T.retW; apply rfl) | fail)
    exact ⟨_, PSub.refl _, s, rfl, rfl, Nat.le_refl _⟩
  · repeat' (first | (refine T.sidx (i := 0) rfl rfl (by omega) rfl ?_; rw [h3]) | (apply T.seql; apply rfl; apply rfl; apply rfl) | (apply T.slen; apply rfl; apply rfl) | (apply T.mv; apply rfl; apply rfl) | (apply T.asn; apply rfl; apply rfl) | (apply T.lss; apply rfl; apply rfl; apply rfl) | (apply T.eql; apply rfl; apply rfl; apply rfl) | (apply T.pickT; apply rfl; apply rfl; apply rfl) | (apply T.pickF; apply rfl; apply rfl; apply rfl) | with_reducible refine Sr.nil ?_ | with_reducible refine S.seq ?_ | with_reducible refine S.reg ?_ | with_reducible refine S.skip ?_ | (apply T.ungV; apply rfl; (first | with_reducible rfl | decide)) | (apply S.condQ; apply rfl; all_goals (intro _; try (exfalso; first | omega | with_reducible contradiction))) | (apply T.gcase; apply rfl; apply rfl; all_goals (intro _; try (exfalso; first | omega | with_reducible contradiction))) | fail)
    all_goals
      refine T.call rfl rfl (trimRightByte_spec hl) ?_
      rintro _ _ ⟨r, rfl, hH, hr⟩
      have hH2 := hH.symm
      subst hH2
      repeat' (first | (apply T.asn; apply rfl; apply rfl) | with_reducible refine Sr.nil ?_ | (apply T.retW; apply rfl) | (with_reducible apply T.ofRet) | fail)
      exact ⟨_, PSub.refl _, r, rfl, rfl, hr⟩
theorem run_spec {s : List UInt8} (hl : s.length ≤ 1000000000) : Meets Tryd.prog 125 [sV s] F M H (fun e H' => e = .returned (.int .i64 (runD s : Nat)) ∧ H' = H) := by
  refine Meets.enter Tryd.func125 rfl rfl ?_
  have hr : runD s = digsE s 0 := by unfold runD digsE; simp
  rw [hr]
  repeat' (first | (apply T.asn; apply rfl; apply rfl) | with_reducible refine Sr.nil ?_ | with_reducible refine S.seq ?_ | with_reducible refine S.block ?_ | with_reducible refine S.reg ?_ | fail)
  refine S.loopE 0 [0] (fun R b' μ H' e => ∃ q : Nat, H' = R ∧ e = (3, .int .i64 q) :: b' ∧ (q ≤ s.length ∧ digsE s 0 = digsE s q) ∧ μ = s.length - q) rfl rfl ?_ _ _ ⟨0, rfl, rfl, ⟨Nat.zero_le _, rfl⟩, rfl⟩ (by repeat' first | exact trivial | refine And.intro rfl ?_)
  rintro _ _ _ ⟨q, rfl, rfl, ⟨h1, h2⟩, rfl⟩ ih
  have hb : bAt s q = (s.getD q 0).toNat := rfl
  by_cases h3 : q < s.length
  · by_cases h4 : 48 ≤ bAt s q ∧ bAt s q ≤ 57
    · have h5 := digsE_yes h4
      repeat' (first | (apply T.slen; apply rfl; apply rfl) | (apply T.sidx; apply rfl; apply rfl; omega; apply rfl) | (apply T.mv; apply rfl; apply rfl) | (apply T.asn; apply rfl; apply rfl) | (apply T.lss; apply rfl; apply rfl; apply rfl) | (apply T.leq; apply rfl; apply rfl; apply rfl) | (apply T.geq; apply rfl; apply rfl; apply rfl) | (apply T.addI; apply rfl; apply rfl; omega; apply rfl) | (apply T.pickT; apply rfl; apply rfl; apply rfl) | with_reducible refine Sr.nil ?_ | with_reducible refine S.seq ?_ | with_reducible refine S.block ?_ | with_reducible refine S.reg ?_ | with_reducible refine S.skip ?_ | with_reducible refine S.inBlock ?_ | (apply T.ungV; apply rfl; (first | with_reducible rfl | decide)) | (apply S.condQ; apply rfl; all_goals (intro _; try (exfalso; first | omega | with_reducible contradiction))) | (apply T.gcase; apply rfl; apply rfl; all_goals (intro _; try (exfalso; first | omega | with_reducible contradiction))) | fail)
      exact ih _ _ _ _ ⟨q + 1, rfl, rfl, ⟨by omega, h2.trans h5⟩, rfl⟩ (by omega) (by repeat' first | exact trivial | refine And.intro rfl ?_)
    · rw [h2, digsE_no h4]
      repeat' (first | (apply T.slen; apply rfl; apply rfl) | (apply T.sidx; apply rfl; apply rfl; omega; apply rfl) | (apply T.mv; apply rfl; apply rfl) | (apply T.asn; apply rfl; apply rfl) | (apply T.lss; apply rfl; apply rfl; apply rfl) | (apply T.leq; apply rfl; apply rfl; apply rfl) | (apply T.geq; apply rfl; apply rfl; apply rfl) | (apply T.pickT; apply rfl; apply rfl; apply rfl) | (apply T.pickF; apply rfl; apply rfl; apply rfl) | with_reducible refine Sr.nil ?_ | with_reducible refine S.seq ?_ | with_reducible refine S.reg ?_ | (apply S.exit; apply rfl) | (apply T.ungV; apply rfl; (first | with_reducible rfl | decide)) | (apply T.skip; apply rfl; (first | with_reducible rfl | decide); apply rfl) | (apply S.condFV; apply rfl; (first | with_reducible rfl | decide)) | (apply S.condQ; apply rfl; all_goals (intro _; try (exfalso; first | omega | with_reducible contradiction))) | (apply T.gcase; apply rfl; apply rfl; all_goals (intro _; try (exfalso; first | omega | with_reducible contradiction))) | (apply T.retW; apply rfl) | fail)
      all_goals exact ⟨_, PSub.refl _, rfl, rfl⟩
  · rw [h2, digsE_no (by rw [bAt_big (by omega)]; omega)]
    repeat' (first | (apply T.slen; apply rfl; apply rfl) | (apply T.mv; apply rfl; apply rfl) | (apply T.asn; apply rfl; apply rfl) | (apply T.lss; apply rfl; apply rfl; apply rfl) | (apply T.pickF; apply rfl; apply rfl; apply rfl) | with_reducible refine Sr.nil ?_ | with_reducible refine S.seq ?_ | with_reducible refine S.reg ?_ | (apply S.exit; apply rfl) | (apply T.skip; apply rfl; (first | with_reducible rfl | decide); apply rfl) | (apply S.condFV; apply rfl; (first | with_reducible rfl | decide)) | (apply T.gcase; apply rfl; apply rfl; all_goals (intro _; try (exfalso; first | omega | with_reducible contradiction))) | (apply T.retW; apply rfl) | fail)
    exact ⟨_, PSub.refl _, rfl, rfl⟩
end
end Go.Proofs.YtnimcchalinihaaDoor
