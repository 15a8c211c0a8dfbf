/- Texts put together by a program: Mark MoreB MoreC Str Map MapT ShaP Word MapU StrB JsnP JsnU JsnM JsnQ. -/
import Derived.Test.YtnimcchalinihaaDoorRecs
import Derived.Laws.Strings
import Derived.Laws.Strings2
import Derived.Laws.Slices
import Derived.Laws.BytesString
import Derived.Maps.OwnSet
import Derived.Maps.Range
import Derived.Laws.CopyRow
import Derived.Lib.AppendStr
import Derived.Sort.KeysCollected
import Derived.Sort.Walk0
import Derived.Lib.ConvBytes
import Derived.Test.YtnimcchalinihaaDoorCore
import Derived.Lib.DecodeNEq
/- A byte slice of a literal turned into its own type: its block is marked behind its last cell, and only read from then on. -/
namespace Sg
open Go Go.RowKit
instance Rd.mrk {F : World} {M : List Nat} {H : List Res} {b : Nat} {vs : List Value} {E : TypeId} {fr : Nat × Nat} : Rd F M (.obj b (.cells ⟨vs⟩ E fr) :: H) (some ⟨b, 0, none⟩) vs := ⟨fun w hw j u hu => ⟨⟨b, 0, none⟩, rfl, by
  have hb : w.heap[b]? = some (.cells ⟨vs⟩ E fr) := hw.res _ (List.mem_cons_self ..)
  rw [addr_add, Nat.zero_add]
  simp [World.cell?, hb, hu]⟩⟩
section
variable {c : Ctx} {H : List Res} {e : Env} {dst : Option Tmp} {ty : TypeId} {pos : String} {aft : Array Edge} {g : Option (Nat × Bool)}
theorem Ef.convM {x : Operand} {b n cp : Nat} {vs : List Value} {t E E' : TypeId} (hx : ev e x = some (.slice (some ⟨b, 0, none⟩) n cp)) [HU c.P t (.slice E')] [HU c.P E' (.int .u8)] :
    Ef c (.blk b vs E :: H) e ⟨dst, .convert t t x, ty, pos, aft, g⟩ fun v H' => v = .slice (some ⟨b, 0, none⟩) n cp ∧ H' = .obj b (.cells ⟨vs⟩ E (vs.length, vs.length + 1)) :: H := fun w a hw ha => by
  have hb : w.heap[b]? = some (.cells ⟨vs⟩ E (0, 0)) := hw.res _ (List.mem_cons_self ..)
  have hsh : w.shape? b = some (E, vs.length) := by
    unfold World.shape?
    rw [hb]
    rfl
  have h1 : ∀ j, b ≠ j → (w.freeze ⟨b, vs.length, none⟩ 1).heap[j]? = w.heap[j]? := fun j hj => by
    unfold World.freeze
    rw [if_neg (by decide)]
    show (w.heap.modify b _)[j]? = _
    rw [Array.getElem?_modify, if_neg hj]
  have h2 : (w.freeze ⟨b, vs.length, none⟩ 1).heap[b]? = some (.cells ⟨vs⟩ E (vs.length, vs.length + 1)) := by
    unfold World.freeze
    rw [if_neg (by decide)]
    show (w.heap.modify b _)[b]? = _
    rw [Array.getElem?_modify, if_pos rfl, hb]
    rfl
  have h3 : (w.freeze ⟨b, vs.length, none⟩ 1).heap.size = w.heap.size := by
    unfold World.freeze
    rw [if_neg (by decide)]
    simp
  refine ⟨_, w.freeze ⟨b, vs.length, none⟩ 1, _, .inl ?_, ?_, rfl, rfl⟩
  · simp [execOp, ha.ev hx, convert, run_under (d := .slice E'), run_under (d := .int .u8), markStringish, hsh]
  · refine hw.turn ?_ ?_ ?_ (Nat.le_of_eq h3.symm) (fun j _ hj => h1 j (by simpa [Res.foot, eq_comm] using hj)) h2 (fun c hc => .inl hc) (by simp [Res.foot])
    all_goals (unfold World.freeze; rw [if_neg (by decide)])
end
theorem T.convM {c : Ctx} {dr : Bool} {ds : List Deferred} {H : List Res} {e : Env} {ops : Array Oper} {l : List Oper} {κ : List Res → Env → Prop} {ty : TypeId} {pos : String} {aft : Array Edge} {d : Tmp} {x : Operand} {b n cp : Nat} {vs : List Value} {t E E' : TypeId} (hx : ev e x = some (.slice (some ⟨b, 0, none⟩) n cp)) [HU c.P t (.slice E')] [HU c.P E' (.int .u8)] (hlt : Nat.blt d c.fn.ntmps = true)
    (hk : Sr (.eff dr) c ds (.obj b (.cells ⟨vs⟩ E (vs.length, vs.length + 1)) :: H) ops l κ ((d, .slice (some ⟨b, 0, none⟩) n cp) :: e)) : Sr (.eff dr) c ds (.blk b vs E :: H) ops (⟨some d, .convert t t x, ty, pos, aft, none⟩ :: l) κ e :=
  Sr.eff (Ef.convM (E' := E') hx) hlt rfl fun v H' ⟨hv, hH⟩ => by
    subst hv hH
    exact hk
end Sg
/- More rules: the complement of a number, shifts of negative ones, a literal as a slice that may grow. -/
namespace Sg
open Go Go.RowKit
theorem St.weakB {F : World} {M : List Nat} {w : World} {H H' : List Res} (h : St F M w H) (hf : ∀ b ∈ feet H', b ∈ feet H) (hn : (feet H').Nodup) (hr : ∀ r ∈ H', r.holds w) : St F M w H' :=
  ⟨h.os, h.tape, h.output, h.size, h.keep, fun b hb => h.own b (hf b hb), hn, hr⟩
theorem St.blkRow {F : World} {M : List Nat} {w : World} {H : List Res} {b n : Nat} {vs : List Value} {E : TypeId} (h : St F M w (.blk b vs E :: H)) (hn : vs.length = n) (hm : n ≤ maxLen) : St F M w (.row (some ⟨b, 0, none⟩) n E 1 n vs :: H) := by
  refine h.weakB (fun _ h => h) h.nd (fun r hr => ?_)
  rcases List.mem_cons.1 hr with rfl | hr
  · have hb : w.heap[b]? = some (.cells ⟨vs⟩ E (0, 0)) := h.res _ (List.mem_cons_self ..)
    subst hn
    exact ⟨(Nat.mul_one _).symm, .inr ⟨b, vs.length, ⟨vs⟩, rfl, Nat.zero_le _, hb, Nat.le_refl _, hm, by simp, by simp⟩⟩
  · exact h.res r (List.mem_cons_of_mem _ hr)
section
variable {c : Ctx} {dr : Bool} {ds : List Deferred} {H : List Res} {e : Env} {ops : Array Oper} {l : List Oper} {κ : List Res → Env → Prop} {ty : TypeId} {pos : String} {aft : Array Edge} {q : Mode}
theorem Sr.rowOf {b n : Nat} {vs : List Value} {E : TypeId} (hn : vs.length = n) (hm : n ≤ maxLen) (h : Sr (.eff dr) c ds (.row (some ⟨b, 0, none⟩) n E 1 n vs :: H) ops l κ e) : Sr (.eff dr) c ds (.blk b vs E :: H) ops l κ e := h.weaken fun _ hw => hw.blkRow hn hm
theorem T.appendL {α : Type} {g : α → Value} {d : Tmp} {x y : Operand} {ad : Option Addr} {n cp b m t E Eb : Nat} [HU c.P t (.slice E)] {z : Value} {by_ : Nat} [HI c.P E z 1 by_] {xs us : List α} {f : Res → List Res} (hx : ev e x = some (.slice ad n cp)) (hy : ev e y = some (.slice (some ⟨b, 0, none⟩) m m))
    (hr : AtR H ad cp E 1 n (xs.map g) f) (hm : us.length = m) (hg : ∀ u, (g u).oneCell' = true) (hzs : z.cells.size = 1) (hroom : (n + m) * by_ ≤ 140737488355328 ∧ n + m ≤ 140737488355328) (hlt : Nat.blt d c.fn.ntmps = true)
    (hk : ∀ ad' cp', Sr (.eff dr) c ds (f (.row ad' cp' E 1 (n + m) ((xs ++ us).map g))) ops l κ ((d, .slice ad' (n + m) cp') :: e)) :
    Sr (.eff dr) c ds (.blk b (us.map g) Eb :: H) ops (⟨some d, .call ⟨.builtin .append, #[x, y], #[t, t]⟩, ty, pos, aft, none⟩ :: l) κ e := Sr.append (z := z) (by_ := by_) hx hy (by simpa using hm) (by simpa using fun u _ => hg u) hzs (by omega) hroom hlt (fun ad' cp' => by
    have := hk ad' cp'
    rw [List.map_append] at this
    exact this)
end
end Sg
/- More rules: a whole slice of records appended. -/
namespace Sg
open Go Go.RowKit
section
variable {c : Ctx} {dr : Bool} {ds : List Deferred} {H : List Res} {e : Env} {ops : Array Oper} {l : List Oper} {κ : List Res → Env → Prop} {ty : TypeId} {pos : String} {aft : Array Edge}
end
end Sg
/- Rules on texts: a text is the list of its bytes. -/
namespace Sg
open Go Go.RowKit
abbrev sV (l : List UInt8) : Value := .string (ByteArray.mk l.toArray)
theorem beq_dec (a b : List UInt8) : (a == b) = decide (a = b) := by by_cases h : a = b <;> simp [h]
section
variable {c : Ctx} {dr : Bool} {ds : List Deferred} {H : List Res} {e : Env} {ops : Array Oper} {l : List Oper} {κ : List Res → Env → Prop} {dst : Option Tmp} {ty : TypeId} {pos : String} {aft : Array Edge} {g : Option (Nat × Bool)} {q : Mode}
theorem Pu.sop {x y : Operand} {a b : List UInt8} {op : BinOp} {t u : TypeId} {v : Value} (hop : op = .eql ∨ op = .neq ∨ op = .lss ∨ op = .leq ∨ op = .gtr ∨ op = .geq ∨ op = .add) (hx : ev e x = some (sV a)) (hy : ev e y = some (sV b))
    (hv : ∀ w, (Op.stringOp op (ByteArray.mk a.toArray) (ByteArray.mk b.toArray)).run c.P w = .ok v w) : Pu c H e ⟨dst, .binOp op t x y u, ty, pos, aft, g⟩ v := fun w ac _ ha => by
  rcases hop with rfl | rfl | rfl | rfl | rfl | rfl | rfl <;> simp [execOp, ha.ev hx, ha.ev hy, eqGuard, binOp, hv]
theorem T.sop {x y : Operand} {d : Tmp} {a b : List UInt8} {op : BinOp} {t u : TypeId} {v : Value} (hop : op = .eql ∨ op = .neq ∨ op = .lss ∨ op = .leq ∨ op = .gtr ∨ op = .geq ∨ op = .add) (hx : ev e x = some (sV a)) (hy : ev e y = some (sV b))
    (hv : ∀ w, (Op.stringOp op (ByteArray.mk a.toArray) (ByteArray.mk b.toArray)).run c.P w = .ok v w) (hlt : Nat.blt d c.fn.ntmps = true) (hk : Sr q c ds H ops l κ ((d, v) :: e)) : Sr q c ds H ops (⟨some d, .binOp op t x y u, ty, pos, aft, none⟩ :: l) κ e :=
  Sr.p (Pu.sop hop hx hy hv) rfl hlt rfl hk
theorem T.seql {x y : Operand} {d : Tmp} {a b : List UInt8} {t u : TypeId} (hx : ev e x = some (sV a)) (hy : ev e y = some (sV b)) (hlt : Nat.blt d c.fn.ntmps = true) (hk : Sr q c ds H ops l κ ((d, .bool (decide (a = b))) :: e)) : Sr q c ds H ops (⟨some d, .binOp .eql t x y u, ty, pos, aft, none⟩ :: l) κ e :=
  T.sop (by simp) hx hy (fun w => by
    simp [Op.stringOp, Sem.run_pure]
    rw [beq_dec]) hlt hk
theorem T.sneq {x y : Operand} {d : Tmp} {a b : List UInt8} {t u : TypeId} (hx : ev e x = some (sV a)) (hy : ev e y = some (sV b)) (hlt : Nat.blt d c.fn.ntmps = true) (hk : Sr q c ds H ops l κ ((d, .bool (decide (¬ a = b))) :: e)) : Sr q c ds H ops (⟨some d, .binOp .neq t x y u, ty, pos, aft, none⟩ :: l) κ e :=
  T.sop (by simp) hx hy (fun w => by
    simp [Op.stringOp, Sem.run_pure]
    rw [beq_dec]) hlt hk
theorem T.sadd {x y : Operand} {d : Tmp} {a b : List UInt8} {t u : TypeId} (hx : ev e x = some (sV a)) (hy : ev e y = some (sV b)) (hm : a.length + b.length ≤ 9223372036854775807) (hlt : Nat.blt d c.fn.ntmps = true) (hk : Sr q c ds H ops l κ ((d, sV (a ++ b)) :: e)) : Sr q c ds H ops (⟨some d, .binOp .add t x y u, ty, pos, aft, none⟩ :: l) κ e :=
  T.sop (by simp) hx hy (fun w => by
    have h : ¬ (((a.length + b.length : Nat) : Int) > IntKind.i64.max) := by
      show ¬ (((a.length + b.length : Nat) : Int) > 9223372036854775807)
      omega
    have h2 : ByteArray.mk a.toArray ++ ByteArray.mk b.toArray = ByteArray.mk (a ++ b).toArray := by
      apply ByteArray.ext
      simp
    have h3 : (ByteArray.mk a.toArray).size + (ByteArray.mk b.toArray).size = a.length + b.length := rfl
    simp only [Op.stringOp, h3, if_neg h, h2, Sem.run_pure]) hlt hk
theorem T.slen {x : Operand} {d : Tmp} {a : List UInt8} {t : TypeId} [HU c.P t .string] (hx : ev e x = some (sV a)) (hlt : Nat.blt d c.fn.ntmps = true) (hk : Sr q c ds H ops l κ ((d, .int .i64 (a.length : Int)) :: e)) : Sr q c ds H ops (⟨some d, .call ⟨.builtin .len, #[x], #[t]⟩, ty, pos, aft, none⟩ :: l) κ e := T.lenS hx hlt hk
theorem Pu.sidx {x y : Operand} {a : List UInt8} {i : Nat} {kd : IntKind} {t : TypeId} [HU c.P t .string] (hx : ev e x = some (sV a)) (hy : ev e y = some (.int kd (i : Int))) (h : i < a.length) : Pu c H e ⟨dst, .index t x y, ty, pos, aft, g⟩ (.int .u8 ((a.getD i 0).toNat : Int)) := fun w ac _ ha => by
  have hr := run_index_string (P := c.P) w t (ByteArray.mk a.toArray) kd (i : Int) (HU.h (P := c.P) (t := t))
  have hs : (0 : Int) ≤ (i : Int) ∧ ((i : Nat) : Int) < ((ByteArray.mk a.toArray).size : Nat) := ⟨by omega, by show (i : Int) < (a.length : Nat); omega⟩
  rw [dif_pos hs] at hr
  have hg : (ByteArray.mk a.toArray)[(i : Int).toNat]'(by show _ < a.length; omega) = a.getD i 0 := by
    show a.toArray[(i : Int).toNat]'_ = _
    simp [List.getD, h]
  rw [hg] at hr
  simp [execOp, ha.ev hx, ha.ev hy, hr]
theorem T.sidx {x y : Operand} {d : Tmp} {a : List UInt8} {i : Nat} {kd : IntKind} {t : TypeId} [HU c.P t .string] (hx : ev e x = some (sV a)) (hy : ev e y = some (.int kd (i : Int))) (h : i < a.length) (hlt : Nat.blt d c.fn.ntmps = true) (hk : Sr q c ds H ops l κ ((d, .int .u8 ((a.getD i 0).toNat : Int)) :: e)) :
    Sr q c ds H ops (⟨some d, .index t x y, ty, pos, aft, none⟩ :: l) κ e := Sr.p (Pu.sidx hx hy h) rfl hlt rfl hk
end
end Sg
/- Maps from texts to numbers that the call owns: a list of entries by rising names. -/
namespace Sg
open Go Go.RowKit Go.ChangeMaps Go.MapKept
open Go.WideElems (Fit rd rg)
open Go.Maps (Keyed)
abbrev D0 := DataW Unit
/- Plain: entries. -/
abbrev Ents := List (List UInt8 × Int)
def entD (p : List UInt8 × Int) : Lit × D0 := (.string p.1, .lit (.int .i64 p.2))
def mapD (m : Ents) : D0 := .map (m.map entD)
def eget (m : Ents) (k : List UInt8) : Option Int := (m.find? fun p => p.1 == k).map (·.2)
def edel (m : Ents) (k : List UInt8) : Ents := m.filter fun p => !(p.1 == k)
def eins (x : List UInt8 × Int) : Ents → Ents
  | [] => [x]
  | y :: r => if (Lit.string x.1).before (.string y.1) then x :: y :: r else y :: eins x r
def eput (m : Ents) (k : List UInt8) (v : Int) : Ents := eins (k, v) (edel m k)
theorem mapD_at (m : Ents) (k : List UInt8) : (mapD m).atKey (.string k) (.lit (.int .i64 0)) = .lit (.int .i64 ((eget m k).getD 0)) := by
  unfold mapD DataW.atKey eget
  simp only
  induction m with
  | nil => rfl
  | cons p m ih =>
    simp only [List.map_cons, List.find?_cons, entD, Lit.sameKey]
    cases p.1 == k with
    | true => rfl
    | false => exact ih
theorem mapD_size (m : Ents) : Maps.size (mapD m) = m.length := by
  unfold mapD
  rw [Maps.size_eq, List.length_map]
theorem mapD_del (m : Ents) (k : List UInt8) : (mapD m).del (.string k) = mapD (edel m k) := by
  unfold mapD DataW.del edel
  simp only [List.filter_map, DataW.map.injEq]
  rfl
theorem mapD_ins (x : List UInt8 × Int) : ∀ m : Ents, DataW.insert (entD x) (m.map entD) = (eins x m).map entD
  | [] => rfl
  | y :: r => by
    rw [List.map_cons, DataW.insert, eins]
    show (if (Lit.string x.1).before (.string y.1) then _ else _) = _
    by_cases h : (Lit.string x.1).before (.string y.1) = true
    · rw [if_pos h, if_pos h]; rfl
    · rw [if_neg h, if_neg h, mapD_ins x r]; rfl
theorem mapD_put (m : Ents) (k : List UInt8) (v : Int) : (mapD m).put (.string k) (.lit (.int .i64 v)) = mapD (eput m k v) := by
  have h := mapD_del m k
  unfold mapD DataW.del at h
  unfold mapD DataW.put eput
  simp only [DataW.map.injEq] at h ⊢
  rw [h]
  exact mapD_ins (k, v) (edel m k)
/- The resource. -/
def mapQ (P : Program) (k e : TypeId) (n : Nat) (D : D0) (o : Obj) : Prop :=
  ∃ es clock, o = .map es clock ∧ Fit P k (plainElem (H := Unit) P e) es clock ∧ es.size ≤ n ∧ D = .map ((es.toList.map (rg P k (plainElem (H := Unit) P e))).foldr DataW.insert [])
theorem mapQ_iff {P : Program} {w : World} {k e : TypeId} {b n : Nat} {D : D0} : (Res.ex b (mapQ P k e n D)).holds w ↔ w.ownsMap P k (plainElem P e) b n D :=
  ⟨fun ⟨_, h1, es, clock, h2, h3⟩ => by subst h2; exact ⟨es, clock, h1, h3⟩, fun ⟨es, clock, h1, h3⟩ => ⟨_, h1, es, clock, rfl, h3⟩⟩
class InE (H : List Res) (b : Nat) (Q : outParam (Obj → Prop)) : Prop where
  h : Res.ex b Q ∈ H
instance InE.hd {H : List Res} {b : Nat} {Q : Obj → Prop} : InE (.ex b Q :: H) b Q := ⟨List.mem_cons_self ..⟩
instance InE.tl {H : List Res} {b : Nat} {Q : Obj → Prop} {r : Res} [h : InE H b Q] : InE (r :: H) b Q := ⟨List.mem_cons_of_mem _ h.h⟩
instance Fr.hdE {H : List Res} {b : Nat} {Q : Obj → Prop} : Fr (.ex b Q :: H) b (.ex b Q :: H) := ⟨.refl _⟩
section
variable {c : Ctx} {dr : Bool} {ds : List Deferred} {H : List Res} {e : Env} {ops : Array Oper} {l : List Oper} {κ : List Res → Env → Prop} {dst : Option Tmp} {ty : TypeId} {pos : String} {aft : Array Edge} {g : Option (Nat × Bool)} {q : Mode}
theorem sV_key {P : Program} {k : TypeId} (hk : P.underlying k = some .string) {kk : List UInt8} (hl : kk.length ≤ maxLen) : keyOf P k (sV kk) = some (.string kk) := WideMaps.keyOf_string_mk hk (s := ByteArray.mk kk.toArray) hl
theorem Pu.mapLook {x y : Operand} {b n : Nat} {m : Ents} {kk : List UInt8} {t k E : TypeId} [HU c.P t (.map k E)] [HU c.P k .string] [HU c.P E (.int .i64)] {sz by_ : Nat} [HI c.P E (.int .i64 0) sz by_] (hx : ev e x = some (.map (some b))) (hy : ev e y = some (sV kk)) (hl : kk.length ≤ maxLen) (hm : InE H b (mapQ c.P k E n (mapD m))) :
    Pu c H e ⟨dst, .lookup t x y false, ty, pos, aft, g⟩ (.int .i64 ((eget m kk).getD 0)) := fun w a hw ha => by
  have hown := mapQ_iff.1 (hw.res _ hm.h)
  obtain ⟨v, hrun, hat, _⟩ := hown.lookup_int (Maps.string_keyed HU.h) (HU.h (P := c.P) (t := t)) (HU.h (P := c.P) (t := E)) (run_zero w) (sV_key (P := c.P) (k := k) HU.h hl)
  rw [mapD_at] at hat
  simp only [DataW.lit.injEq, Lit.int.injEq, true_and] at hat
  subst hat
  simp [execOp, ha.ev hx, ha.ev hy, hrun]
theorem St.turnMap {F : World} {M : List Nat} {w w' : World} {H : List Res} {b : Nat} {Q Q' : Obj → Prop} (h : St F M w (.ex b Q :: H)) (hg : w.grownBy w' (some b)) (hr : (Res.ex b Q').holds w') : St F M w' (.ex b Q' :: H) :=
  h.turn hg.os hg.tape hg.output hg.size (fun j hj hn => hg.block j hj (by simpa [Res.foot] using hn)) hr (fun c hc => .inl hc) (by simp [Res.foot])
theorem Ef.mapMake {t k E : TypeId} [HU c.P t (.map k E)] : Ef c H e ⟨dst, .makeMap t none, ty, pos, aft, g⟩ fun v H' => ∃ b, v = .map (some b) ∧ H' = .ex b (mapQ c.P k E 0 (mapD [])) :: H := fun w a hw ha => by
  refine ⟨.map (some w.heap.size), w.alloc (.map #[] 0), _, .inl ?_, ?_, w.heap.size, rfl, rfl⟩
  · simp [execOp, run_makeMap]
  · exact hw.fresh rfl rfl rfl (by simp) (fun j hj => Below.heap_alloc _ _ _ hj) (mapQ_iff.2 (World.ownsMap_made w c.P k (plainElem c.P E))) (by simp [Res.foot]) (by simp [Res.foot])
theorem Ef.mapPut {x y u : Operand} {b n : Nat} {m : Ents} {kk : List UInt8} {z : Int} {t k E : TypeId} [HU c.P t (.map k E)] [HU c.P k .string] [HU c.P E (.int .i64)] (hx : ev e x = some (.map (some b))) (hy : ev e y = some (sV kk)) (hu : ev e u = some (.int .i64 z)) (hl : kk.length ≤ maxLen) (hn : n < maxLen) (hz : (Lit.int .i64 z).wf = true) :
    Ef c (.ex b (mapQ c.P k E n (mapD m)) :: H) e ⟨dst, .mapUpdate t x y u, ty, pos, aft, g⟩ fun v H' => v = undef ∧ H' = .ex b (mapQ c.P k E (n + 1) (mapD (eput m kk z))) :: H := fun w a hw ha => by
  have hown := mapQ_iff.1 (hw.res _ (List.mem_cons_self ..))
  obtain ⟨w', hrun, hown', hg⟩ := hown.update (Maps.string_keyed HU.h) (HU.h (P := c.P) (t := t)) hn (sV_key (P := c.P) (k := k) HU.h hl) (plainElem_int (q := .i64) (a := z) (HU.h (P := c.P) (t := E)) hz)
  rw [mapD_put] at hown'
  refine ⟨undef, w', _, .inr ⟨?_, rfl⟩, St.turnMap hw hg (mapQ_iff.2 hown'), rfl, rfl⟩
  simp [execOp, ha.ev hx, ha.ev hy, ha.ev hu, hrun]
/- A range over a map. -/
end
end Sg
/- Rules on maps, in the form that walks apply. -/
namespace Sg
open Go Go.RowKit
section
variable {c : Ctx} {dr : Bool} {ds : List Deferred} {H : List Res} {e : Env} {ops : Array Oper} {l : List Oper} {κ : List Res → Env → Prop} {ty : TypeId} {pos : String} {aft : Array Edge} {q : Mode}
theorem T.mapLook {x y : Operand} {d : Tmp} {b n : Nat} {m : Ents} {kk : List UInt8} {t k E : TypeId} [HU c.P t (.map k E)] [HU c.P k .string] [HU c.P E (.int .i64)] {sz by_ : Nat} [HI c.P E (.int .i64 0) sz by_] (hx : ev e x = some (.map (some b))) (hy : ev e y = some (sV kk)) (hm : InE H b (mapQ c.P k E n (mapD m))) (hl : kk.length ≤ maxLen) (hlt : Nat.blt d c.fn.ntmps = true)
    (hk : Sr q c ds H ops l κ ((d, .int .i64 ((eget m kk).getD 0)) :: e)) : Sr q c ds H ops (⟨some d, .lookup t x y false, ty, pos, aft, none⟩ :: l) κ e := Sr.p (Pu.mapLook (k := k) (E := E) (sz := sz) (by_ := by_) hx hy hl hm) rfl hlt rfl hk
theorem T.mapMake {d : Tmp} {t k E : TypeId} [HU c.P t (.map k E)] (hlt : Nat.blt d c.fn.ntmps = true) (hk : ∀ b, Sr (.eff dr) c ds (.ex b (mapQ c.P k E 0 (mapD [])) :: H) ops l κ ((d, .map (some b)) :: e)) : Sr (.eff dr) c ds H ops (⟨some d, .makeMap t none, ty, pos, aft, none⟩ :: l) κ e :=
  Sr.eff (Ef.mapMake (k := k) (E := E)) hlt rfl fun v H' ⟨b, hv, hH⟩ => by
    subst hv hH
    exact hk b
theorem T.mapPut {x y u : Operand} {b n : Nat} {m : Ents} {kk : List UInt8} {z : Int} {t k E : TypeId} [HU c.P t (.map k E)] [HU c.P k .string] [HU c.P E (.int .i64)] (hx : ev e x = some (.map (some b))) (hy : ev e y = some (sV kk)) (hu : ev e u = some (.int .i64 z)) (hl : kk.length ≤ maxLen) (hn : n < maxLen) (hz : (Lit.int .i64 z).wf = true)
    (hk : Sr (.eff dr) c ds (.ex b (mapQ c.P k E (n + 1) (mapD (eput m kk z))) :: H) ops l κ e) : Sr (.eff dr) c ds (.ex b (mapQ c.P k E n (mapD m)) :: H) ops (⟨none, .mapUpdate t x y u, ty, pos, aft, none⟩ :: l) κ e :=
  Sr.eff (Ef.mapPut (k := k) (E := E) hx hy hu hl hn hz) rfl rfl fun v H' ⟨hv, hH⟩ => by
    subst hv hH
    exact hk
theorem mapQ_tight {P : Program} {k E : TypeId} {n : Nat} {m : Ents} {o : Obj} (h : mapQ P k E n (mapD m) o) : mapQ P k E m.length (mapD m) o := by
  obtain ⟨es, clock, h1, h2, h3, h4⟩ := h
  refine ⟨es, clock, h1, h2, ?_, h4⟩
  have h5 := congrArg Maps.size h4
  rw [mapD_size] at h5
  rw [h5, Maps.size_eq, length_sorted, List.length_map, Array.length_toList]
  exact Nat.le_refl _
theorem St.tight {F : World} {M : List Nat} {w : World} {P : Program} {b n : Nat} {m : Ents} {k E : TypeId} (hw : St F M w (.ex b (mapQ P k E n (mapD m)) :: H)) : St F M w (.ex b (mapQ P k E m.length (mapD m)) :: H) :=
  hw.weakB (fun _ h => h) hw.nd fun q hq => by
    rcases List.mem_cons.1 hq with rfl | hq
    · obtain ⟨o, h1, h2⟩ := hw.res _ (List.mem_cons_self ..)
      exact ⟨o, h1, mapQ_tight h2⟩
    · exact hw.res q (List.mem_cons_of_mem _ hq)
theorem Sr.tight {b n : Nat} {m : Ents} {k E : TypeId} (h : Sr (.eff dr) c ds (.ex b (mapQ c.P k E m.length (mapD m)) :: H) ops l κ e) : Sr (.eff dr) c ds (.ex b (mapQ c.P k E n (mapD m)) :: H) ops l κ e := h.weaken fun _ hw => hw.tight
theorem T.mapPutT {x y u : Operand} {b n : Nat} {m : Ents} {kk : List UInt8} {z : Int} {t k E : TypeId} [HU c.P t (.map k E)] [HU c.P k .string] [HU c.P E (.int .i64)] (hx : ev e x = some (.map (some b))) (hy : ev e y = some (sV kk)) (hu : ev e u = some (.int .i64 z)) (hl : kk.length ≤ maxLen) (hn : n < maxLen) (hz : (Lit.int .i64 z).wf = true)
    (hk : Sr (.eff dr) c ds (.ex b (mapQ c.P k E (eput m kk z).length (mapD (eput m kk z))) :: H) ops l κ e) : Sr (.eff dr) c ds (.ex b (mapQ c.P k E n (mapD m)) :: H) ops (⟨none, .mapUpdate t x y u, ty, pos, aft, none⟩ :: l) κ e :=
  T.mapPut (k := k) (E := E) hx hy hu hl hn hz hk.tight
end
end Sg
/- The sum of a text by words of 32 bits, in plain Lean: schedule, rounds, blocks, filling; and that both ways to spell a round are one. -/
namespace Sg
structure V8 where
  a : UInt32
  b : UInt32
  c : UInt32
  d : UInt32
  e : UInt32
  f : UInt32
  g : UInt32
  h : UInt32
end Sg
/- Words of 32 bits as values: their operations, rows of them, whole arrays, an index into an array's value, copies into an array. -/
namespace Sg
open Go Go.RowKit
section
variable {q : Mode} {c : Ctx} {ds : List Deferred} {H : List Res} {ops : Array Oper} {l : List Oper} {κ : List Res → Env → Prop} {dr : Bool} {e : Env} {ty : TypeId} {pos : String} {aft : Array Edge}
/-- Four bytes appended. -/
theorem T.append4 {d : Tmp} {x y : Operand} {ad : Option Addr} {n cp b t E Eb : Nat} {m₀ m₁ m₂ m₃ : UInt8} [HU c.P t (.slice E)] {z : Value} {by_ : Nat} [HI c.P E z 1 by_] {xs : List UInt8} {f : Res → List Res} (hx : ev e x = some (.slice ad n cp)) (hy : ev e y = some (.slice (some ⟨b, 0, none⟩) 4 4))
    (hr : AtR H ad cp E 1 n (xs.map bV) f) (hzs : z.cells.size = 1) (hroom : (n + 4) * by_ ≤ 140737488355328 ∧ n + 4 ≤ 140737488355328) (hlt : Nat.blt d c.fn.ntmps = true)
    (hk : ∀ ad' cp', Sr (.eff dr) c ds (f (.row ad' cp' E 1 (n + 4) ((xs ++ [m₀, m₁, m₂, m₃]).map bV))) ops l κ ((d, .slice ad' (n + 4) cp') :: e)) :
    Sr (.eff dr) c ds (.blk b [.int .u8 (m₀.toNat : Int), .int .u8 (m₁.toNat : Int), .int .u8 (m₂.toNat : Int), .int .u8 (m₃.toNat : Int)] Eb :: H) ops (⟨some d, .call ⟨.builtin .append, #[x, y], #[t, t]⟩, ty, pos, aft, none⟩ :: l) κ e := Sr.append (z := z) (by_ := by_) hx hy rfl rfl hzs (by omega) hroom hlt (fun ad' cp' => by
    have := hk ad' cp'
    rw [List.map_append] at this
    exact this)
/-- Three bytes appended. -/
theorem T.append3 {d : Tmp} {x y : Operand} {ad : Option Addr} {n cp b t E Eb : Nat} {m₀ m₁ m₂ : UInt8} [HU c.P t (.slice E)] {z : Value} {by_ : Nat} [HI c.P E z 1 by_] {xs : List UInt8} {f : Res → List Res} (hx : ev e x = some (.slice ad n cp)) (hy : ev e y = some (.slice (some ⟨b, 0, none⟩) 3 3))
    (hr : AtR H ad cp E 1 n (xs.map bV) f) (hzs : z.cells.size = 1) (hroom : (n + 3) * by_ ≤ 140737488355328 ∧ n + 3 ≤ 140737488355328) (hlt : Nat.blt d c.fn.ntmps = true)
    (hk : ∀ ad' cp', Sr (.eff dr) c ds (f (.row ad' cp' E 1 (n + 3) ((xs ++ [m₀, m₁, m₂]).map bV))) ops l κ ((d, .slice ad' (n + 3) cp') :: e)) :
    Sr (.eff dr) c ds (.blk b [.int .u8 (m₀.toNat : Int), .int .u8 (m₁.toNat : Int), .int .u8 (m₂.toNat : Int)] Eb :: H) ops (⟨some d, .call ⟨.builtin .append, #[x, y], #[t, t]⟩, ty, pos, aft, none⟩ :: l) κ e := Sr.append (z := z) (by_ := by_) hx hy rfl rfl hzs (by omega) hroom hlt (fun ad' cp' => by
    have := hk ad' cp'
    rw [List.map_append] at this
    exact this)
/-- Two bytes appended. -/
theorem T.append2 {d : Tmp} {x y : Operand} {ad : Option Addr} {n cp b t E Eb : Nat} {m₀ m₁ : UInt8} [HU c.P t (.slice E)] {z : Value} {by_ : Nat} [HI c.P E z 1 by_] {xs : List UInt8} {f : Res → List Res} (hx : ev e x = some (.slice ad n cp)) (hy : ev e y = some (.slice (some ⟨b, 0, none⟩) 2 2))
    (hr : AtR H ad cp E 1 n (xs.map bV) f) (hzs : z.cells.size = 1) (hroom : (n + 2) * by_ ≤ 140737488355328 ∧ n + 2 ≤ 140737488355328) (hlt : Nat.blt d c.fn.ntmps = true)
    (hk : ∀ ad' cp', Sr (.eff dr) c ds (f (.row ad' cp' E 1 (n + 2) ((xs ++ [m₀, m₁]).map bV))) ops l κ ((d, .slice ad' (n + 2) cp') :: e)) :
    Sr (.eff dr) c ds (.blk b [.int .u8 (m₀.toNat : Int), .int .u8 (m₁.toNat : Int)] Eb :: H) ops (⟨some d, .call ⟨.builtin .append, #[x, y], #[t, t]⟩, ty, pos, aft, none⟩ :: l) κ e := Sr.append (z := z) (by_ := by_) hx hy rfl rfl hzs (by omega) hroom hlt (fun ad' cp' => by
    have := hk ad' cp'
    rw [List.map_append] at this
    exact this)
end
end Sg
/- More rules on texts and maps: texts as elements, texts behind bytes, texts of bytes; the names of a map rise. -/
namespace Sg
open Go Go.RowKit Go.ChangeMaps Go.MapKept
section
variable {c : Ctx} {dr : Bool} {ds : List Deferred} {H : List Res} {e : Env} {ops : Array Oper} {l : List Oper} {κ : List Res → Env → Prop} {dst : Option Tmp} {ty : TypeId} {pos : String} {aft : Array Edge} {g : Option (Nat × Bool)} {q : Mode}
/- A text behind bytes. -/
theorem appendS_where {P : Program} (w : World) (t u ty e : TypeId) (i : TypeInfo) (ht : P.underlying t = some (.slice e)) (hu : P.underlying u = some .string) (hi : P.info? e = some i) (hz : i.zero = some (.int .u8 0))
    (hsize : i.size = 1) (hby : i.bytes = 1) (v : Value) (n : Nat) (xs : List Value) (hown : w.ownsRow 0 e 1 v n xs) (s : ByteArray) (h63 : n + s.size ≤ maxLen) (hbytes : n + s.size ≤ 140737488355328) {v' : Value} {w' : World}
    (hrun : (Builtin.append_ #[t, u] ty #[v, .string s]).run P w = .ok v' w') : v'.ownBlock = v.ownBlock ∨ v'.ownBlock = some w.heap.size := by
  have hsmall : n + s.size ≤ 9223372036854775807 := by simp only [maxLen] at h63; omega
  have hxl : xs.length = n := by simpa using hown.1
  rcases hown.2 with ⟨rfl, rfl⟩ | ⟨g, cap, cur, rfl, hbg, hg, hnc, hcm, hcs, htake⟩
  · by_cases hm : s.size = 0
    · have hf := Lib.run_firstCells_string (P := P) w 1 s
      rw [hm] at hf
      have hr : (Builtin.append_ #[t, u] ty #[.slice none 0 0, .string s]).run P w = .ok (.slice none 0 0) w := by
        simp [Builtin.append_, run_underlying ht, run_underlying hu, Go.sizeOf, typeInfo, hi, hsize, Builtin.lenOf, hm, hf]
      rw [hr] at hrun
      simp only [Result.ok.injEq] at hrun
      left
      rw [← hrun.1]
    · have hr := run_append_nil_string (P := P) w t u ty e i (.int .u8 0) ht hu hi hz s (by omega) (by omega) (by rw [hby]; omega)
      rw [hr] at hrun
      simp only [Result.ok.injEq] at hrun
      right
      rw [← hrun.1]
      rfl
  · by_cases hroom : n + s.size ≤ cap
    · have hcs' : cur.size = cap := by simpa using hcs
      have hr := Lib.run_append_room_string (P := P) w t u ty e i ht hu hi hsize g n cap cur hg s hroom (by omega)
      rw [hr] at hrun
      simp only [Result.ok.injEq] at hrun
      left
      rw [← hrun.1]
      rfl
    · have holds : ∀ j u, xs[j]? = some u → w.cell? ((⟨g, 0, none⟩ : Addr).add j) = some u := hown.cells (g := g) rfl
      have hr := Lib.run_append_grow_string (P := P) w t u ty e i (.int .u8 0) ht hu hi hz ⟨g, 0, none⟩ n cap xs (by rw [hsize]; simpa using hxl) holds s (by omega) (by omega) (by rw [hby]; exact growslice_fits (by omega) (by omega))
      rw [hr] at hrun
      simp only [Result.ok.injEq] at hrun
      right
      rw [← hrun.1]
      rfl
theorem strCells_sV (s : List UInt8) : Lib.strCells (ByteArray.mk s.toArray) = s.map bV := by simp [Lib.strCells]
theorem T.appendS {d : Tmp} {x y : Operand} {ad : Option Addr} {n cp t u E : Nat} [HU c.P t (.slice E)] [HU c.P u .string] [HI c.P E (.int .u8 0) 1 1] {xs s : List UInt8} {f : Res → List Res} (hx : ev e x = some (.slice ad n cp)) (hy : ev e y = some (sV s))
    (hr : AtR H ad cp E 1 n (xs.map bV) f) (hroom : n + s.length ≤ 140737488355328) (hlt : Nat.blt d c.fn.ntmps = true)
    (hk : ∀ ad' cp', Sr (.eff dr) c ds (f (.row ad' cp' E 1 (n + s.length) ((xs ++ s).map bV))) ops l κ ((d, .slice ad' (n + s.length : Nat) cp') :: e)) :
    Sr (.eff dr) c ds H ops (⟨some d, .call ⟨.builtin .append, #[x, y], #[t, u]⟩, ty, pos, aft, none⟩ :: l) κ e :=
  Sr.eff (K := fun v H' => ∃ ad' cp', v = .slice ad' (n + s.length) cp' ∧ H' = f (.row ad' cp' E 1 (n + s.length) ((xs ++ s).map bV))) (fun w a hw ha => by
    obtain ⟨rest, h1, h2⟩ := hr.h
    have hw1 := hw.perm h1
    obtain ⟨i, hi1, hi2, hi3, hi4⟩ := HI.h (P := c.P) (t := E) (z := .int .u8 0) (sz := 1) (by_ := 1)
    have hrow : w.ownsRow 0 E 1 (.slice ad n cp) n (xs.map bV) := hw1.res _ (List.mem_cons_self ..)
    have hsz : (ByteArray.mk s.toArray).size = s.length := rfl
    have hmax : n + (ByteArray.mk s.toArray).size ≤ maxLen := by rw [hsz]; unfold maxLen; omega
    obtain ⟨v', w', hrun, hown, hg, -⟩ := Lib.run_append_own_string (P := c.P) w 0 t u ty E i (HU.h (P := c.P) (t := t)) (HU.h (P := c.P) (t := u)) hi1 hi2 hi3 hi4 _ n _ hrow (ByteArray.mk s.toArray) hmax (by rw [hsz]; exact hroom) (Nat.zero_le _)
    have hwhere := appendS_where (P := c.P) w t u ty E i (HU.h (P := c.P) (t := t)) (HU.h (P := c.P) (t := u)) hi1 hi2 hi3 hi4 _ n _ hrow (ByteArray.mk s.toArray) hmax (by rw [hsz]; exact hroom) hrun
    rw [strCells_sV, ← List.map_append, hsz] at hown
    obtain ⟨ad', cp', hv'⟩ : ∃ ad' cp', v' = .slice ad' (n + s.length) cp' := by
      rcases hown.2 with ⟨hv, h0⟩ | ⟨g, cap, cur, hv, _⟩
      · exact ⟨none, 0, by rw [hv, h0]⟩
      · exact ⟨_, _, hv⟩
    subst hv'
    refine ⟨_, w', _, .inl (by simp [execOp, ha.ev hx, ha.ev hy, resolve, invoke, builtin, hrun]), (hw1.turn (r' := .row ad' cp' E 1 (n + s.length) ((xs ++ s).map bV)) hg.os hg.tape hg.output hg.size (fun j hj hjr => hg.block j hj fun hjo => hjr ?_) hown (fun q hq => ?_) (by cases ad' <;> simp [Res.foot])).perm (h2 _), ad', cp', rfl, rfl⟩
    · cases ad with
      | none => simp [Value.ownBlock] at hjo
      | some q => simp only [Value.ownBlock, Option.some.injEq] at hjo; simp [Res.foot, hjo]
    · cases ad' with
      | none => simp [Res.foot] at hq
      | some p =>
        simp only [Res.foot, List.mem_singleton] at hq
        subst hq
        rcases hwhere with hwh | hwh
        · left
          cases ad with
          | none => simp [Value.ownBlock] at hwh
          | some q => simp only [Value.ownBlock, Option.some.injEq] at hwh; simp [Res.foot, hwh]
        · right
          simp only [Value.ownBlock, Option.some.injEq] at hwh
          omega) hlt rfl (fun v H' ⟨ad', cp', hv, hH⟩ => by subst hv hH; exact hk ad' cp')
/- A text of bytes. -/
theorem push_bytes : ∀ (xs acc : List UInt8), ((xs.map fun b => (b.toNat : Int)).foldl (fun r n => r.push (UInt8.ofNat n.toNat)) (ByteArray.mk acc.toArray)) = ByteArray.mk (acc ++ xs).toArray
  | [], acc => by simp
  | x :: xs, acc => by
    rw [List.map_cons, List.foldl_cons]
    have : (ByteArray.mk acc.toArray).push (UInt8.ofNat (x.toNat : Int).toNat) = ByteArray.mk (acc ++ [x]).toArray := by
      apply ByteArray.ext
      simp [ByteArray.push]
    rw [this, push_bytes xs (acc ++ [x]), List.append_assoc]
    rfl
theorem T.convS {x : Operand} {d : Tmp} {ad : Option Addr} {n cp : Nat} {xs : List UInt8} {t t' E : TypeId} [HU c.P t (.slice E)] [HU c.P E (.int .u8)] [HU c.P t' .string] (hx : ev e x = some (.slice ad n cp)) (hr : Rd c.F c.M H ad (xs.map bV)) (hn : xs.length = n) (hlt : Nat.blt d c.fn.ntmps = true)
    (hk : Sr q c ds H ops l κ ((d, sV xs) :: e)) : Sr q c ds H ops (⟨some d, .convert t t' x, ty, pos, aft, none⟩ :: l) κ e :=
  Sr.p (fun w a hw ha => by
    have hcv := run_convert_bytes_string (P := c.P) w t t' E ad n cp (HU.h (P := c.P) (t := t)) (HU.h (P := c.P) (t := E)) (HU.h (P := c.P) (t := t'))
    have hb : (Conv.bytesToString (.slice ad n cp)).run c.P w = .ok (sV xs) w := by
      cases ad with
      | none =>
        cases xs with
        | nil => rfl
        | cons b xs =>
          obtain ⟨q, h, -⟩ := hr.h w hw 0 _ (by rfl)
          cases h
      | some q =>
        have hl := run_loadCells_list (P := c.P) (w := w) q (xs.map bV) (fun j v hj => by
          obtain ⟨q', h, h'⟩ := hr.h w hw j v hj
          simp only [Option.some.injEq] at h
          subst h
          exact h')
        rw [List.length_map, hn] at hl
        have hm : xs.map bV = (xs.map fun b => (b.toNat : Int)).map (Value.int .u8) := by rw [List.map_map]; rfl
        rw [hm] at hl
        rw [run_bytesToString w q n cp _ hl]
        have := push_bytes xs []
        rw [List.nil_append] at this
        exact congrArg (fun b => Result.ok (Value.string b) w) this
    rw [hb] at hcv
    simp [execOp, ha.ev hx, hcv]) rfl hlt rfl hk
/- Pointers beside nil; truth values compared. -/
theorem run_equalP {P : Program} {t E : TypeId} {a : Addr} [HU P t (.pointer E)] (w : World) (d : Nat) : (Op.equalIn (d + 1) t (.pointer (some a)) (.pointer none)).run P w = .ok false w := by
  simp [Op.equalIn, run_under (d := .pointer E)]
theorem T.eqlP {x : Operand} {d : Tmp} {t u E : TypeId} {a : Addr} [HU c.P t (.pointer E)] (hx : ev e x = some (.pointer (some a))) (hlt : Nat.blt d c.fn.ntmps = true) (hk : Sr q c ds H ops l κ ((d, .bool false) :: e)) : Sr q c ds H ops (⟨some d, .binOp .eql t x (.const (.pointer none)) u, ty, pos, aft, none⟩ :: l) κ e :=
  Sr.p (fun w ac _ ha => by
    have h := run_equalP (P := c.P) (t := t) (E := E) (a := a) w 9999
    have h2 : ac.eval (.const (.pointer none)) = .pointer none := rfl
    simp only [execOp, ha.ev hx, h2, eqGuard, binOp, Op.equal, Op.maxDepth]
    simp [h]) rfl hlt rfl hk
end
/- Rising names. -/
end Sg
/- More rules on texts: a text's bytes as a new row, a part of a text; an append that leaves the row that it began with. -/
namespace Sg
open Go Go.RowKit
section
variable {q : Mode} {c : Ctx} {ds : List Deferred} {H : List Res} {ops : Array Oper} {l : List Oper} {κ : List Res → Env → Prop} {dr : Bool} {e : Env} {ty : TypeId} {pos : String} {aft : Array Edge}
/-- A part of a text. -/
theorem T.sslice {d : Tmp} {x lo hi : Operand} {kd kd' : IntKind} {i j : Nat} {t : TypeId} {bs : List UInt8} [HU c.P t .string] (hx : ev e x = some (sV bs)) (hl : ev e lo = some (.int kd (i : Int))) (hh : ev e hi = some (.int kd' (j : Int))) (h0 : i ≤ j ∧ j ≤ bs.length) (hlt : Nat.blt d c.fn.ntmps = true)
    (hk : Sr q c ds H ops l κ ((d, sV ((bs.drop i).take (j - i))) :: e)) : Sr q c ds H ops (⟨some d, .slice t x (some lo) (some hi) none, ty, pos, aft, none⟩ :: l) κ e :=
  Sr.p (fun w a _ ha => by
    have hr := run_slice_string (P := c.P) (w := w) t (ByteArray.mk bs.toArray) kd kd' (i : Int) (j : Int) (HU.h (P := c.P) (t := t)) (by omega) (by omega) (by show (j : Int) ≤ (bs.length : Nat); omega)
    have hex : (ByteArray.mk bs.toArray).extract (i : Int).toNat (j : Int).toNat = ByteArray.mk ((bs.drop i).take (j - i)).toArray := by
      rw [Int.toNat_natCast, Int.toNat_natCast]
      apply ByteArray.ext
      rw [ByteArray.data_extract]
      apply Array.ext'
      simp [List.extract]
    rw [hex] at hr
    simp [execOp, ha.ev hx, ha.ev hl, ha.ev hh, Instr.sliceAt, run_under (d := .string), hr]) rfl hlt rfl hk
end
end Sg
/- JSON in plain Lean: words of a text, each with its end or its fault; values by going down; and a machine with a stack; both say the same. -/
namespace Sg
/-- A node. -/
structure Nd where
  kind : Int
  key : List UInt8
  text : List UInt8
  whole : Bool
  int : Int
  kids : Int
/-- What has been read: the end and what it says, or the fault and its place. -/
inductive Gt (α : Type)
  | ok (at_ : Nat) (v : α)
  | bad (code : Int) (at_ : Nat)
def Gt.bind {α β : Type} (g : Gt α) (f : Nat → α → Gt β) : Gt β := match g with
  | .ok a v => f a v
  | .bad c a => .bad c a
def blankB (c : UInt8) : Bool := c == 32 || c == 9 || c == 10 || c == 13
def digitB (c : UInt8) : Bool := decide (48 ≤ c) && decide (c ≤ 57)
def skipB (t : List UInt8) (p : Nat) : Nat := p + ((t.drop p).takeWhile blankB).length
def digsE (t : List UInt8) (p : Nat) : Nat := p + ((t.drop p).takeWhile digitB).length
/-- One digit or more. -/
def digsX (t : List UInt8) (p : Nat) : Gt Unit := if digsE t p = p then .bad 31 p else .ok (digsE t p) ()
def atB (t : List UInt8) (p : Nat) (c : UInt8) : Bool := t[p]? == some c
def numInt (t : List UInt8) (p : Nat) : Gt Unit := if atB t p 48 then .ok (p + 1) () else digsX t p
def numFrac (t : List UInt8) (p : Nat) : Gt Unit := if atB t p 46 then digsX t (p + 1) else .ok p ()
def numSign (t : List UInt8) (p : Nat) : Nat := if atB t p 43 || atB t p 45 then p + 1 else p
def numExp (t : List UInt8) (p : Nat) : Gt Unit := if atB t p 101 || atB t p 69 then digsX t (numSign t (p + 1)) else .ok p ()
def numX (t : List UInt8) (p : Nat) : Gt Unit :=
  (numInt t (if atB t p 45 then p + 1 else p)).bind fun a _ => (numFrac t a).bind fun b _ => numExp t b
def wordX (t : List UInt8) (p : Nat) : List UInt8 → Gt Unit
  | [] => .ok p ()
  | w :: ws => if atB t p w then wordX t (p + 1) ws else .bad 31 p
def hexN (c : UInt8) : Option Nat :=
  if 48 ≤ c ∧ c ≤ 57 then some (c.toNat - 48) else if 97 ≤ c ∧ c ≤ 102 then some (c.toNat - 87) else if 65 ≤ c ∧ c ≤ 70 then some (c.toNat - 55) else none
/-- Is the digit one that cannot stand there? (low: it is the second half's) -/
def badHex (low : Bool) (i u d : Nat) : Bool := (low && ((i == 0 && d != 13) || (i == 1 && decide (d < 12)))) || (!low && i == 1 && u == 13 && decide (12 ≤ d))
/-- Four digits, so many of them still to come. -/
def fourX (t : List UInt8) (low : Bool) (fr : Nat) : Nat → Nat → Nat → Gt Nat
  | 0, p, u => .ok p u
  | k + 1, p, u => match t[p]? with
    | none => .bad 31 p
    | some c => match hexN c with
      | none => .bad 33 fr
      | some d => if badHex low (3 - k) u d then .bad 33 fr else fourX t low fr k (p + 1) (16 * u + d)
/-- A code point as UTF-8. -/
def utfL (u : Nat) : List UInt8 :=
  if u < 128 then [.ofNat u] else if u < 2048 then [.ofNat (192 + u / 64), .ofNat (128 + u % 64)] else
  if u < 65536 then [.ofNat (224 + u / 4096), .ofNat (128 + u / 64 % 64), .ofNat (128 + u % 64)] else
  [.ofNat (240 + u / 262144), .ofNat (128 + u / 4096 % 64), .ofNat (128 + u / 64 % 64), .ofNat (128 + u % 64)]
def signX (t : List UInt8) (fr p : Nat) (c : UInt8) : Gt Unit := match t[p]? with
  | none => .bad 31 p
  | some d => if d = c then .ok (p + 1) () else .bad 33 fr
/-- What an escape of digits says; p: the place behind its u. -/
def pointX (t : List UInt8) (fr p : Nat) : Gt Nat :=
  (fourX t false fr 4 p 0).bind fun a hi => if hi < 55296 ∨ 57343 < hi then .ok a hi else
    (signX t fr a 92).bind fun b _ => (signX t fr b 117).bind fun d _ => (fourX t true fr 4 d 0).bind fun e lo => .ok e (65536 + 1024 * (hi - 55296) + lo - 56320)
def escS (c : UInt8) : Option Nat :=
  if c = 34 then some 34 else if c = 92 then some 92 else if c = 47 then some 47 else if c = 98 then some 8 else if c = 102 then some 12 else if c = 110 then some 10 else if c = 114 then some 13 else if c = 116 then some 9 else none
/-- What stands behind a backslash at a place: the code point. -/
def escX (t : List UInt8) (fr : Nat) : Gt Nat := match t[fr + 1]? with
  | none => .bad 31 (fr + 1)
  | some c => if c = 117 then pointX t fr (fr + 2) else match escS c with
    | some u => .ok (fr + 2) u
    | none => .bad 33 fr
/-- Of a sequence that begins with a byte: how many follow, and between which bounds the first of these may be. -/
def seqB (c : Nat) : Option (Nat × Nat × Nat) :=
  if c < 194 ∨ 244 < c then none else if c < 224 then some (1, 128, 191) else if c = 224 then some (2, 160, 191) else if c = 237 then some (2, 128, 159) else
  if c < 240 then some (2, 128, 191) else if c = 240 then some (3, 144, 191) else if c = 244 then some (3, 128, 143) else some (3, 128, 191)
/-- The bytes that follow, so many still to come. -/
def seqX (t : List UInt8) (fr : Nat) : Nat → Nat → Nat → Nat → Gt Unit
  | 0, p, _, _ => .ok p ()
  | k + 1, p, lo, hi => match t[p]? with
    | none => .bad 31 p
    | some c => if c.toNat < lo ∨ hi < c.toNat then .bad 32 fr else seqX t fr k (p + 1) 128 191
def sequX (t : List UInt8) (p : Nat) (c : UInt8) : Gt Unit := match seqB c.toNat with
  | none => .bad 32 p
  | some (n, lo, hi) => seqX t p n (p + 1) lo hi
/-- A string behind its quote. -/
def quotX (t : List UInt8) : Nat → Nat → List UInt8 → Gt (List UInt8)
  | 0, p, _ => .bad 0 p
  | f + 1, p, acc => match t[p]? with
    | none => .bad 31 p
    | some c =>
      if c < 32 then .bad 31 p else if c = 34 then .ok (p + 1) acc else
      if c = 92 then (escX t p).bind fun a u => quotX t f a (acc ++ utfL u) else
      if c < 128 then quotX t f (p + 1) (acc ++ [c]) else
      (sequX t p c).bind fun a _ => quotX t f a (acc ++ (t.drop p).take (a - p))
def quotedX (t : List UInt8) (p : Nat) : Gt (List UInt8) := quotX t (t.length + 1 - p) p []
/-- Whole numbers: handed in, whatever they are. -/
structure Wh where
  f : List UInt8 → Int × Bool
def nd (k : Int) : Nd := ⟨k, [], [], false, 0, 0⟩
def Nd.named (n : Nd) (k : List UInt8) : Nd := { n with key := k }
def Nd.more (n : Nd) : Nd := { n with kids := n.kids + 1 }
def nameL (l : List Nd) (k : List UInt8) : List Nd := match l with
  | [] => []
  | n :: r => n.named k :: r
def sl (t : List UInt8) (a b : Nat) : List UInt8 := (t.drop a).take (b - a)
/-- A value that is no list and no object. -/
def flatX (wh : List UInt8 → Int × Bool) (t : List UInt8) (p : Nat) (c : UInt8) : Gt (List Nd) :=
  if c = 34 then (quotedX t (p + 1)).bind fun a s => .ok a [{ nd 5 with text := s }] else
  if c = 45 ∨ digitB c = true then (numX t p).bind fun a _ => .ok a [{ nd 4 with text := sl t p a, int := (wh (sl t p a)).1, whole := (wh (sl t p a)).2 }] else
  if c = 110 then (wordX t p [110, 117, 108, 108]).bind fun a _ => .ok a [nd 1] else
  if c = 102 then (wordX t p [102, 97, 108, 115, 101]).bind fun a _ => .ok a [nd 2] else
  if c = 116 then (wordX t p [116, 114, 117, 101]).bind fun a _ => .ok a [nd 3] else .bad 31 p
def closeB (obj : Bool) : UInt8 := if obj then 125 else 93
/-- Behind an item: the end, or a comma and what follows. -/
def rowE (t : List UInt8) (obj : Bool) (again : Nat → Gt (List Nd)) (a : Nat) (l : List Nd) : Gt (List Nd) :=
  if atB t (skipB t a) (closeB obj) then .ok (skipB t a + 1) l else if atB t (skipB t a) 44 then again (skipB t (skipB t a + 1)) else .bad 31 (skipB t a)
/-- An item: its nodes, its name. -/
def itemX (val : Nat → Gt (List Nd)) (t : List UInt8) (obj : Bool) (p : Nat) (names : List (List UInt8)) : Gt (List Nd × List UInt8) :=
  if obj then
    if atB t p 34 then (quotedX t (p + 1)).bind fun a s => if s ∈ names then .bad 34 p else
      if atB t (skipB t a) 58 then (val (skipB t (skipB t a + 1))).bind fun b l => .ok b (nameL l s, s) else .bad 31 (skipB t a)
    else .bad 31 p
  else (val p).bind fun a l => .ok a (l, [])
/-- What stands in brackets, from an item on: the nodes so far, the names so far. -/
def rowX (val : Nat → Gt (List Nd)) (t : List UInt8) (obj : Bool) : Nat → Nat → List (List UInt8) → Nd → List Nd → Gt (List Nd)
  | 0, p, _, _, _ => .bad 0 p
  | f + 1, p, names, hd, out => (itemX val t obj p names).bind fun a g => rowE t obj (fun p' => rowX val t obj f p' (names ++ [g.2]) hd.more (out ++ g.1)) a (hd.more :: (out ++ g.1))
/-- A value at a place; so many more may be opened. -/
def valX (wh : List UInt8 → Int × Bool) (t : List UInt8) : Nat → Nat → Gt (List Nd)
  | d, p => match t[p]? with
    | none => .bad 31 p
    | some c => if c = 91 ∨ c = 123 then (match d with
        | 0 => .bad 11 p
        | d + 1 => if atB t (skipB t (p + 1)) (closeB (c = 123)) then .ok (skipB t (p + 1) + 1) [nd (if c = 123 then 7 else 6)] else
            rowX (valX wh t d) t (c = 123) (t.length + 1) (skipB t (p + 1)) [] (nd (if c = 123 then 7 else 6)) [])
      else flatX wh t p c
/-- A text's value. -/
def parseX (wh : List UInt8 → Int × Bool) (t : List UInt8) : Gt (List Nd) :=
  if 262144 < t.length then .bad 10 0 else
  (valX wh t 32 (skipB t 0)).bind fun a l => if skipB t a < t.length then .bad 31 (skipB t a) else .ok (skipB t a) l
end Sg
/- UTF-8, in plain Lean: what the library's decoder says of a sequence, and what the document's reading says. -/
namespace Sg
open Go.Lib
/-- Is a sequence's beginning whole (or none)? Of a text of n bytes that begins so. -/
def fullN (n b0 b1 b2 : Nat) : Bool := decide (firstT b0 % 8 ≤ n) || ((decide (1 < n) && (decide (b1 < accLo (firstT b0 / 16)) || decide (accHi (firstT b0 / 16) < b1))) || (decide (2 < n) && (decide (b2 < 128) || decide (191 < b2))))
theorem seqB_none {b : Nat} (h : 128 ≤ b) (hs : seqB b = none) : firstT b = 241 := by
  unfold seqB at hs
  split at hs
  · unfold firstT
    repeat' split
    all_goals omega
  · repeat' split at hs
    all_goals cases hs
theorem seqB_some {b k lo hi : Nat} (hs : seqB b = some (k, lo, hi)) : firstT b < 240 ∧ firstT b % 8 = k + 1 ∧ accLo (firstT b / 16) = lo ∧ accHi (firstT b / 16) = hi ∧ 1 ≤ k ∧ k ≤ 3 ∧ lo ≤ hi := by
  have key : ∀ {f : Nat}, firstT b = f → f < 240 → f % 8 = k + 1 → accLo (f / 16) = lo → accHi (f / 16) = hi → 1 ≤ k → k ≤ 3 → lo ≤ hi → firstT b < 240 ∧ firstT b % 8 = k + 1 ∧ accLo (firstT b / 16) = lo ∧ accHi (firstT b / 16) = hi ∧ 1 ≤ k ∧ k ≤ 3 ∧ lo ≤ hi := by
    intro f h1 h2 h3 h4 h5 h6 h7 h8
    rw [h1]
    exact ⟨h2, h3, h4, h5, h6, h7, h8⟩
  unfold seqB at hs
  repeat' split at hs
  all_goals first | cases hs | (simp only [Option.some.injEq, Prod.mk.injEq] at hs; obtain ⟨rfl, rfl, rfl⟩ := hs)
  · exact key (firstT_C2 (by omega)) (by decide) rfl rfl rfl (by decide) (by decide) (by decide)
  · exact key (firstT_E0 (by omega)) (by decide) rfl rfl rfl (by decide) (by decide) (by decide)
  · exact key (firstT_ED (by omega)) (by decide) rfl rfl rfl (by decide) (by decide) (by decide)
  · exact key (firstT_E1 (by omega)) (by decide) rfl rfl rfl (by decide) (by decide) (by decide)
  · exact key (firstT_F0 (by omega)) (by decide) rfl rfl rfl (by decide) (by decide) (by decide)
  · exact key (firstT_F4 (by omega)) (by decide) rfl rfl rfl (by decide) (by decide) (by decide)
  · exact key (firstT_F1 (by omega)) (by decide) rfl rfl rfl (by decide) (by decide) (by decide)
def bAt (t : List UInt8) (j : Nat) : Nat := (t.getD j 0).toNat
theorem bAt_lt (t : List UInt8) (j : Nat) : bAt t j < 256 := (t.getD j 0).toNat_lt
theorem bAt_some {t : List UInt8} {j : Nat} {c : UInt8} (h : t[j]? = some c) : bAt t j = c.toNat ∧ j < t.length := ⟨by simp [bAt, List.getD, h], (List.getElem?_eq_some_iff.1 h).1⟩
/-- What the library's decoder says where the document's reading says this. -/
def SeqSays (t : List UInt8) (p : Nat) (n b0 b1 b2 b3 : Nat) : Gt Unit → Prop
  | .ok a _ => (decodeN n b0 b1 b2 b3).2 = a - p ∧ p + 2 ≤ a ∧ a ≤ t.length
  | .bad e q => decodeN n b0 b1 b2 b3 = (65533, 1) ∧ (e = 31 ∧ q = t.length ∧ fullN n b0 b1 b2 = false ∨ e = 32 ∧ q = p ∧ fullN n b0 b1 b2 = true)
theorem seq_says {t : List UInt8} {p : Nat} {c : UInt8} (hc : t[p]? = some c) (h : 128 ≤ c.toNat) : SeqSays t p (t.length - p) c.toNat (bAt t (p + 1)) (bAt t (p + 2)) (bAt t (p + 3)) (sequX t p c) := by
  have hp := (List.getElem?_eq_some_iff.1 hc).1
  have l1 := bAt_lt t (p + 1)
  have l2 := bAt_lt t (p + 2)
  have l3 := bAt_lt t (p + 3)
  unfold sequX
  cases hs : seqB c.toNat with
  | none =>
    have h1 := seqB_none h hs
    refine ⟨bad_eq _ _ _ _ _ c.toNat_lt h1, .inr ⟨rfl, rfl, ?_⟩⟩
    unfold fullN
    rw [h1, decide_eq_true (show 241 % 8 ≤ t.length - p by omega), Bool.true_or]
  | some v =>
    obtain ⟨k, lo, hi⟩ := v
    obtain ⟨h1, h2, h3, h4, h5, h6, h7⟩ := seqB_some hs
    have hd := slow_eq (t.length - p) c.toNat _ _ _ (by omega) l1 l2 l3 h1
    rw [h2, h3, h4] at hd
    have hf : fullN (t.length - p) c.toNat (bAt t (p + 1)) (bAt t (p + 2)) = (decide (k + 1 ≤ t.length - p) || ((decide (1 < t.length - p) && (decide (bAt t (p + 1) < lo) || decide (hi < bAt t (p + 1)))) || (decide (2 < t.length - p) && (decide (bAt t (p + 2) < 128) || decide (191 < bAt t (p + 2)))))) := by
      unfold fullN
      rw [h2, h3, h4]
    show SeqSays _ _ _ _ _ _ _ (seqX t p k (p + 1) lo hi)
    have stop31 : ∀ q, q = t.length → t.length - p ≤ k → ((1 < t.length - p → ¬ (bAt t (p + 1) < lo ∨ hi < bAt t (p + 1))) ∧ (2 < t.length - p → ¬ (bAt t (p + 2) < 128 ∨ 191 < bAt t (p + 2)))) → SeqSays t p (t.length - p) c.toNat (bAt t (p + 1)) (bAt t (p + 2)) (bAt t (p + 3)) (.bad 31 q) := by
      intro q hq hn hb
      refine ⟨?_, .inl ⟨rfl, hq, ?_⟩⟩
      · rw [← hd]
        unfold slowN
        rw [if_pos (by omega)]
      · rw [hf, decide_eq_false (by omega), Bool.false_or, Bool.or_eq_false_iff]
        refine ⟨?_, ?_⟩
        · by_cases h1n : 1 < t.length - p
          · have := hb.1 h1n
            rw [decide_eq_false (show ¬ bAt t (p + 1) < lo by omega), decide_eq_false (show ¬ hi < bAt t (p + 1) by omega)]
            simp
          · rw [decide_eq_false h1n, Bool.false_and]
        · by_cases h1n : 2 < t.length - p
          · have := hb.2 h1n
            rw [decide_eq_false (show ¬ bAt t (p + 2) < 128 by omega), decide_eq_false (show ¬ 191 < bAt t (p + 2) by omega)]
            simp
          · rw [decide_eq_false h1n, Bool.false_and]
    have stop32 : (1 < t.length - p ∧ (bAt t (p + 1) < lo ∨ hi < bAt t (p + 1)) ∨ 2 < t.length - p ∧ 2 ≤ k ∧ (bAt t (p + 2) < 128 ∨ 191 < bAt t (p + 2)) ∨ 3 < t.length - p ∧ 3 ≤ k ∧ (bAt t (p + 3) < 128 ∨ 191 < bAt t (p + 3))) → SeqSays t p (t.length - p) c.toNat (bAt t (p + 1)) (bAt t (p + 2)) (bAt t (p + 3)) (.bad 32 p) := by
      intro hb
      refine ⟨?_, .inr ⟨rfl, rfl, ?_⟩⟩
      · rw [← hd]
        unfold slowN
        repeat' split
        all_goals first | rfl | omega
      · rw [hf]
        simp only [Bool.or_eq_true, Bool.and_eq_true, decide_eq_true_eq]
        omega
    have good : ∀ a, a = p + k + 1 → k < t.length - p → (lo ≤ bAt t (p + 1) ∧ bAt t (p + 1) ≤ hi) → (2 ≤ k → 128 ≤ bAt t (p + 2) ∧ bAt t (p + 2) ≤ 191) → (3 ≤ k → 128 ≤ bAt t (p + 3) ∧ bAt t (p + 3) ≤ 191) → SeqSays t p (t.length - p) c.toNat (bAt t (p + 1)) (bAt t (p + 2)) (bAt t (p + 3)) (.ok a ()) := by
      intro a ha hn b1 b2 b3
      refine ⟨?_, by omega, by omega⟩
      rw [← hd]
      unfold slowN
      repeat' split
      all_goals first | (exfalso; omega) | (simp only; omega)
    obtain ⟨k, rfl⟩ : ∃ m, k = m + 1 := ⟨k - 1, by omega⟩
    unfold seqX
    cases h8 : t[p + 1]? with
    | none =>
      have := List.getElem?_eq_none_iff.1 h8
      exact stop31 _ (by omega) (by omega) ⟨by omega, by omega⟩
    | some c1 =>
      obtain ⟨e1, q1⟩ := bAt_some h8
      simp only
      split
      · exact stop32 (by omega)
      · rename_i hb1
        cases k with
        | zero =>
          unfold seqX
          exact good _ (by omega) (by omega) (by omega) (by omega) (by omega)
        | succ k =>
          unfold seqX
          cases h9 : t[p + 1 + 1]? with
          | none =>
            have := List.getElem?_eq_none_iff.1 h9
            exact stop31 _ (by omega) (by omega) ⟨by omega, by omega⟩
          | some c2 =>
            obtain ⟨e2, q2⟩ := bAt_some h9
            rw [show p + 1 + 1 = p + 2 from rfl] at e2
            simp only
            split
            · exact stop32 (by omega)
            · rename_i hb2
              cases k with
              | zero =>
                unfold seqX
                exact good _ (by omega) (by omega) (by omega) (by omega) (by omega)
              | succ k =>
                have hk0 : k = 0 := by omega
                subst hk0
                unfold seqX
                cases h10 : t[p + 1 + 1 + 1]? with
                | none =>
                  have := List.getElem?_eq_none_iff.1 h10
                  exact stop31 _ (by omega) (by omega) ⟨by omega, by omega⟩
                | some c3 =>
                  obtain ⟨e3, q3⟩ := bAt_some h10
                  rw [show p + 1 + 1 + 1 = p + 3 from rfl] at e3
                  simp only
                  split
                  · exact stop32 (by omega)
                  · unfold seqX
                    exact good _ (by omega) (by omega) (by omega) (by omega) (by omega)
end Sg
/- JSON, in plain Lean: the machine with a stack says what going down says. -/
namespace Sg
structure Cf where
  p : Nat
  s : Nat
  out : List Nd
  stk : List (Nat × Option (List (List UInt8)))
  key : List UInt8
inductive Nx
  | go (c : Cf)
  | stop (code : Int) (at_ : Nat)
def bump (out : List Nd) : List (Nat × Option (List (List UInt8))) → List Nd
  | [] => out
  | (i, _) :: _ => out.modify i Nd.more
def Cf.lay (c : Cf) (n : Nd) : Cf := { c with key := [], out := bump c.out c.stk ++ [n.named c.key] }
def behS : List (Nat × Option (List (List UInt8))) → Nat
  | [] => 6
  | _ :: _ => 5
def Cf.behind (c : Cf) : Cf := { c with s := behS c.stk }
def endC (c : Cf) : Cf := Cf.behind { c with p := c.p + 1, stk := c.stk.tail }
def begC (c : Cf) (ch : UInt8) : Nx :=
  if c.stk.length = 32 then .stop 11 c.p else
  .go { p := c.p + 1, s := if ch = 123 then 3 else 1, out := bump c.out c.stk ++ [(nd (if ch = 123 then 7 else 6)).named c.key], stk := ((bump c.out c.stk).length, if ch = 123 then some [] else none) :: c.stk, key := [] }
def valC (wh : List UInt8 → Int × Bool) (t : List UInt8) (c : Cf) (ch : UInt8) : Nx := if ch = 91 ∨ ch = 123 then begC c ch else
  match flatX wh t c.p ch with
  | .bad e a => .stop e a
  | .ok a l => .go (Cf.behind (Cf.lay { c with p := a } (l.headD (nd 0))))
def namC (t : List UInt8) (c : Cf) (ch : UInt8) : Nx := if ch = 34 then
    match quotedX t (c.p + 1) with
    | .bad e a => .stop e a
    | .ok a s => match c.stk with
      | (i, some ns) :: r => if s ∈ ns then .stop 34 c.p else .go { c with p := a, s := 4, key := s, stk := (i, some (s :: ns)) :: r }
      | _ => .stop 0 0
  else .stop 31 c.p
def topObj : List (Nat × Option (List (List UInt8))) → Bool
  | (_, some _) :: _ => true
  | _ => false
def morC (c : Cf) (ch : UInt8) : Nx :=
  if ch = 44 then .go { c with p := c.p + 1, s := if topObj c.stk then 2 else 0 } else
  if ch = (if topObj c.stk then 125 else 93) then .go (endC c) else .stop 31 c.p
def stepC (wh : List UInt8 → Int × Bool) (t : List UInt8) (c : Cf) (ch : UInt8) : Nx := match c.s with
  | 0 => valC wh t c ch
  | 1 => if ch = 93 then .go (endC c) else valC wh t c ch
  | 2 => namC t c ch
  | 3 => if ch = 125 then .go (endC c) else namC t c ch
  | 4 => if ch = 58 then .go { c with p := c.p + 1, s := 0 } else .stop 31 c.p
  | 5 => morC c ch
  | _ => .stop 31 c.p
def mach (wh : List UInt8 → Int × Bool) (t : List UInt8) : Nat → Cf → Gt (List Nd)
  | 0, _ => .bad 0 0
  | f + 1, c => match t[skipB t c.p]? with
    | some ch => match stepC wh t { c with p := skipB t c.p } ch with
      | .go c' => mach wh t f c'
      | .stop e a => .bad e a
    | none => if c.s = 6 then .ok (skipB t c.p) c.out else .bad 31 t.length
/- Ends. -/
theorem takeWhile_rest {f : UInt8 → Bool} : ∀ l : List UInt8, (l.drop (l.takeWhile f).length).takeWhile f = []
  | [] => rfl
  | a :: r => by
    by_cases h : f a = true
    · rw [List.takeWhile_cons_of_pos h]
      exact takeWhile_rest r
    · rw [List.takeWhile_cons_of_neg h]
      exact List.takeWhile_cons_of_neg h
theorem skip_ge (t : List UInt8) (p : Nat) : p ≤ skipB t p := Nat.le_add_right _ _
theorem takeWhile_le {f : UInt8 → Bool} (l : List UInt8) : (l.takeWhile f).length ≤ l.length := (List.takeWhile_prefix f).length_le
theorem skip_le {t : List UInt8} {p : Nat} (h : p ≤ t.length) : skipB t p ≤ t.length := by
  have := takeWhile_le (f := blankB) (t.drop p)
  rw [List.length_drop] at this
  unfold skipB
  omega
theorem skip_skip (t : List UInt8) (p : Nat) : skipB t (skipB t p) = skipB t p := by
  have := takeWhile_rest (f := blankB) (t.drop p)
  rw [List.drop_drop] at this
  unfold skipB
  rw [this]
  rfl
theorem digs_ge (t : List UInt8) (p : Nat) : p ≤ digsE t p := Nat.le_add_right _ _
theorem digs_le {t : List UInt8} {p : Nat} (h : p ≤ t.length) : digsE t p ≤ t.length := by
  have := takeWhile_le (f := digitB) (t.drop p)
  rw [List.length_drop] at this
  unfold digsE
  omega
theorem atB_lt {t : List UInt8} {p : Nat} {c : UInt8} (h : atB t p c = true) : p < t.length := by
  unfold atB at h
  rcases Nat.lt_or_ge p t.length with h1 | h1
  · exact h1
  · rw [List.getElem?_eq_none h1] at h; simp at h
theorem atB_iff {t : List UInt8} {p : Nat} {c ch : UInt8} (h : t[p]? = some ch) : atB t p c = true ↔ ch = c := by
  unfold atB
  rw [h]
  simp
theorem atB_none {t : List UInt8} {p : Nat} {c : UInt8} (h : t[p]? = none) : atB t p c = false := by
  unfold atB
  rw [h]
  rfl
/-- Where what is read ends. -/
def Gt.fits {α : Type} (g : Gt α) (lo hi : Nat) : Prop := ∀ a v, g = .ok a v → lo ≤ a ∧ a ≤ hi
theorem Gt.fits_bad {α : Type} {c : Int} {p lo hi : Nat} : (Gt.bad c p : Gt α).fits lo hi := fun _ _ h => by cases h
theorem Gt.fits_ok {α : Type} {p lo hi : Nat} {v : α} (h : lo ≤ p ∧ p ≤ hi) : (Gt.ok p v).fits lo hi := fun _ _ e => by cases e; exact h
theorem Gt.fits_bind {α β : Type} {g : Gt α} {f : Nat → α → Gt β} {lo hi lo' : Nat} (h : g.fits lo hi) (hf : ∀ a v, lo ≤ a → a ≤ hi → (f a v).fits lo' hi) : (g.bind f).fits lo' hi := fun a v e => by
  cases g with
  | bad c p => cases e
  | ok b u => exact hf b u (h b u rfl).1 (h b u rfl).2 a v e
theorem digsX_fits {t : List UInt8} {p : Nat} (h : p ≤ t.length) : (digsX t p).fits (p + 1) t.length := by
  unfold digsX
  split
  · exact Gt.fits_bad
  · have := digs_ge t p
    exact Gt.fits_ok ⟨by omega, digs_le h⟩
theorem numX_fits {t : List UInt8} {p : Nat} (h : p ≤ t.length) : (numX t p).fits (p + 1) t.length := by
  have mono : ∀ {α : Type} {g : Gt α} {lo lo' hi : Nat}, g.fits lo hi → lo' ≤ lo → g.fits lo' hi := fun h hl a v e => ⟨Nat.le_trans hl (h a v e).1, (h a v e).2⟩
  unfold numX
  have h1 : (numInt t (if atB t p 45 then p + 1 else p)).fits (p + 1) t.length := by
    unfold numInt
    by_cases hm : atB t p 45 = true
    · have := atB_lt hm
      rw [if_pos hm]
      split
      · rename_i h0
        have := atB_lt h0
        exact Gt.fits_ok ⟨by omega, by omega⟩
      · exact mono (digsX_fits (by omega)) (by omega)
    · rw [if_neg hm]
      split
      · rename_i h0
        have := atB_lt h0
        exact Gt.fits_ok ⟨by omega, by omega⟩
      · exact digsX_fits h
  refine Gt.fits_bind h1 fun a _ ha1 ha2 => ?_
  have h2 : (numFrac t a).fits (p + 1) t.length := by
    unfold numFrac
    split
    · rename_i h0
      have := atB_lt h0
      exact mono (digsX_fits (by omega)) (by omega)
    · exact Gt.fits_ok ⟨ha1, ha2⟩
  refine Gt.fits_bind h2 fun b _ hb1 hb2 => ?_
  unfold numExp
  split
  · rename_i h0
    have hlt : b < t.length := by
      rw [Bool.or_eq_true] at h0
      rcases h0 with h0 | h0 <;> exact atB_lt h0
    have hs : b + 1 ≤ numSign t (b + 1) ∧ numSign t (b + 1) ≤ t.length := by
      unfold numSign
      split
      · rename_i h3
        rw [Bool.or_eq_true] at h3
        have h4 : b + 1 < t.length := by rcases h3 with h3 | h3 <;> exact atB_lt h3
        omega
      · omega
    exact mono (digsX_fits hs.2) (by omega)
  · exact Gt.fits_ok ⟨hb1, hb2⟩
theorem wordX_fits {t : List UInt8} : ∀ {ws : List UInt8} {p : Nat}, p ≤ t.length → (wordX t p ws).fits (p + ws.length) t.length
  | [], p, h => by unfold wordX; exact Gt.fits_ok ⟨Nat.le_refl _, h⟩
  | w :: ws, p, h => by
    unfold wordX
    split
    · rename_i h0
      have := atB_lt h0
      have h1 := wordX_fits (t := t) (ws := ws) (p := p + 1) (by omega)
      intro a v e
      have := h1 a v e
      simp only [List.length_cons]
      omega
    · exact Gt.fits_bad
theorem fourX_fits {t : List UInt8} {low : Bool} {fr : Nat} : ∀ {k p u : Nat}, p ≤ t.length → (fourX t low fr k p u).fits (p + k) t.length
  | 0, p, u, h => by unfold fourX; exact Gt.fits_ok ⟨Nat.le_refl _, h⟩
  | k + 1, p, u, h => by
    unfold fourX
    split
    · exact Gt.fits_bad
    · rename_i c hc
      have hlt := (List.getElem?_eq_some_iff.1 hc).1
      split
      · exact Gt.fits_bad
      · split
        · exact Gt.fits_bad
        · intro a v e
          have := fourX_fits (t := t) (low := low) (fr := fr) (k := k) (p := p + 1) (by omega) a v e
          omega
theorem signX_fits {t : List UInt8} {fr p : Nat} {c : UInt8} : (signX t fr p c).fits (p + 1) t.length := by
  unfold signX
  split
  · exact Gt.fits_bad
  · rename_i d hd
    have hlt := (List.getElem?_eq_some_iff.1 hd).1
    split
    · exact Gt.fits_ok ⟨Nat.le_refl _, by omega⟩
    · exact Gt.fits_bad
theorem escX_fits {t : List UInt8} {fr : Nat} : (escX t fr).fits (fr + 2) t.length := by
  have mono : ∀ {α : Type} {g : Gt α} {lo lo' hi : Nat}, g.fits lo hi → lo' ≤ lo → g.fits lo' hi := fun h hl a v e => ⟨Nat.le_trans hl (h a v e).1, (h a v e).2⟩
  unfold escX
  split
  · exact Gt.fits_bad
  · rename_i c hc
    have hlt := (List.getElem?_eq_some_iff.1 hc).1
    split
    · unfold pointX
      refine Gt.fits_bind (fourX_fits (by omega)) fun a hi ha1 ha2 => ?_
      split
      · exact Gt.fits_ok ⟨by omega, ha2⟩
      · refine Gt.fits_bind signX_fits fun b _ hb1 hb2 => ?_
        refine Gt.fits_bind signX_fits fun d _ hd1 hd2 => ?_
        refine Gt.fits_bind (fourX_fits hd2) fun e lo he1 he2 => ?_
        exact Gt.fits_ok ⟨by omega, he2⟩
    · split
      · exact Gt.fits_ok ⟨Nat.le_refl _, by omega⟩
      · exact Gt.fits_bad
theorem seqX_fits {t : List UInt8} {fr : Nat} : ∀ {k p lo hi : Nat}, p ≤ t.length → (seqX t fr k p lo hi).fits (p + k) t.length
  | 0, p, _, _, h => by unfold seqX; exact Gt.fits_ok ⟨Nat.le_refl _, h⟩
  | k + 1, p, lo, hi, h => by
    unfold seqX
    split
    · exact Gt.fits_bad
    · rename_i c hc
      have hlt := (List.getElem?_eq_some_iff.1 hc).1
      split
      · exact Gt.fits_bad
      · intro a v e
        have := seqX_fits (t := t) (fr := fr) (k := k) (p := p + 1) (by omega) a v e
        omega
theorem sequX_fits {t : List UInt8} {p : Nat} {c : UInt8} (h : p < t.length) : (sequX t p c).fits (p + 1) t.length := by
  unfold sequX
  split
  · exact Gt.fits_bad
  · rename_i n lo hi _
    intro a v e
    have := seqX_fits (t := t) (fr := p) (k := n) (p := p + 1) (lo := lo) (hi := hi) (by omega) a v e
    omega
theorem quotX_fits {t : List UInt8} : ∀ {f p : Nat} {acc : List UInt8}, p ≤ t.length → (quotX t f p acc).fits (p + 1) t.length
  | 0, p, acc, _ => by unfold quotX; exact Gt.fits_bad
  | f + 1, p, acc, h => by
    have mono : ∀ {α : Type} {g : Gt α} {lo lo' hi : Nat}, g.fits lo hi → lo' ≤ lo → g.fits lo' hi := fun h hl a v e => ⟨Nat.le_trans hl (h a v e).1, (h a v e).2⟩
    unfold quotX
    split
    · exact Gt.fits_bad
    · rename_i c hc
      have hlt := (List.getElem?_eq_some_iff.1 hc).1
      split
      · exact Gt.fits_bad
      · split
        · exact Gt.fits_ok ⟨Nat.le_refl _, by omega⟩
        · split
          · exact Gt.fits_bind escX_fits fun a u ha1 ha2 => mono (quotX_fits ha2) (by omega)
          · split
            · exact mono (quotX_fits (by omega)) (by omega)
            · exact Gt.fits_bind (sequX_fits hlt) fun a u ha1 ha2 => mono (quotX_fits ha2) (by omega)
theorem quoted_fits {t : List UInt8} {p : Nat} (h : p ≤ t.length) : (quotedX t p).fits (p + 1) t.length := quotX_fits h
theorem flatX_fits {wh : List UInt8 → Int × Bool} {t : List UInt8} {p : Nat} {c : UInt8} (h : p < t.length) : (flatX wh t p c).fits (p + 1) t.length := by
  have mono : ∀ {α : Type} {g : Gt α} {lo lo' hi : Nat}, g.fits lo hi → lo' ≤ lo → g.fits lo' hi := fun h hl a v e => ⟨Nat.le_trans hl (h a v e).1, (h a v e).2⟩
  unfold flatX
  split
  · exact Gt.fits_bind (quoted_fits (by omega)) fun a _ h1 h2 => Gt.fits_ok ⟨by omega, h2⟩
  · split
    · exact Gt.fits_bind (numX_fits (by omega)) fun a _ h1 h2 => Gt.fits_ok ⟨by omega, h2⟩
    · split
      · exact Gt.fits_bind (wordX_fits (by omega)) fun a _ h1 h2 => Gt.fits_ok ⟨by simp at h1; omega, h2⟩
      · split
        · exact Gt.fits_bind (wordX_fits (by omega)) fun a _ h1 h2 => Gt.fits_ok ⟨by simp at h1; omega, h2⟩
        · split
          · exact Gt.fits_bind (wordX_fits (by omega)) fun a _ h1 h2 => Gt.fits_ok ⟨by simp at h1; omega, h2⟩
          · exact Gt.fits_bad
/-- What is flat is one node, without a name. -/
theorem flatX_one {wh : List UInt8 → Int × Bool} {t : List UInt8} {p a : Nat} {c : UInt8} {l : List Nd} (h : flatX wh t p c = .ok a l) : ∃ n : Nd, l = [n] ∧ n.key = [] := by
  have key : ∀ {α : Type} {g : Gt α} {f : Nat → α → Nd} {a : Nat} {l : List Nd}, (g.bind fun a v => .ok a [f a v]) = .ok a l → ∃ b v, l = [f b v] := fun {α g f a l} h => by
    cases g with
    | bad c p => cases h
    | ok b v => cases h; exact ⟨_, _, rfl⟩
  unfold flatX at h
  split at h
  · obtain ⟨b, v, rfl⟩ := key h; exact ⟨_, rfl, rfl⟩
  · split at h
    · obtain ⟨b, v, rfl⟩ := key h; exact ⟨_, rfl, rfl⟩
    · split at h
      · obtain ⟨b, v, rfl⟩ := key h; exact ⟨_, rfl, rfl⟩
      · split at h
        · obtain ⟨b, v, rfl⟩ := key h; exact ⟨_, rfl, rfl⟩
        · split at h
          · obtain ⟨b, v, rfl⟩ := key h; exact ⟨_, rfl, rfl⟩
          · cases h
/- Where the machine is led. -/
def Leads (wh : List UInt8 → Int × Bool) (t : List UInt8) (c : Cf) (R : Gt Cf) : Prop := ∀ f, t.length < c.p + f → match R with
  | .bad e a => mach wh t f c = .bad e a
  | .ok _ c' => ∃ f', t.length < c'.p + f' ∧ mach wh t f c = mach wh t f' c'
section
variable {wh : List UInt8 → Int × Bool} {t : List UInt8} {c c' : Cf} {R : Gt Cf}
theorem Leads.refl {a : Nat} : Leads wh t c (.ok a c) := fun f hf => ⟨f, hf, rfl⟩
theorem Leads.trans {a : Nat} (h1 : Leads wh t c (.ok a c')) (h2 : Leads wh t c' R) : Leads wh t c R := fun f hf => by
  obtain ⟨f', hf', e⟩ := h1 f hf
  have := h2 f' hf'
  cases R with
  | bad e' a' => exact e.trans this
  | ok a' c'' =>
    obtain ⟨f'', h3, h4⟩ := this
    exact ⟨f'', h3, e.trans h4⟩
theorem Leads.skip (h : Leads wh t { c with p := skipB t c.p } R) : Leads wh t c R := fun f hf => by
  have hg := skip_ge t c.p
  have h1 := h f (show t.length < skipB t c.p + f by omega)
  have e : mach wh t f { c with p := skipB t c.p } = mach wh t f c := by
    cases f with
    | zero => rfl
    | succ f => simp only [mach, skip_skip]
  cases R with
  | bad e' a' => rw [← e]; exact h1
  | ok a' c'' => rw [← e]; exact h1
theorem Leads.step {ch : UInt8} (hp : c.p ≤ t.length) (hs : skipB t c.p = c.p) (hc : t[c.p]? = some ch) (hst : stepC wh t c ch = .go c') (hlt : c.p < c'.p) (h : Leads wh t c' R) : Leads wh t c R := fun f hf => by
  have h1 := h (f - 1) (by omega)
  obtain ⟨g, rfl⟩ : ∃ g, f = g + 1 := ⟨f - 1, by omega⟩
  have e : mach wh t (g + 1) c = mach wh t g c' := by
    simp only [mach, hs, hc, hst]
  cases R with
  | bad e' a' => rw [e]; exact h1
  | ok a' c'' => rw [e]; exact h1
theorem Leads.stop {ch : UInt8} {e : Int} {a : Nat} (hp : c.p ≤ t.length) (hs : skipB t c.p = c.p) (hc : t[c.p]? = some ch) (hst : stepC wh t c ch = .stop e a) : Leads wh t c (.bad e a) := fun f hf => by
  obtain ⟨g, rfl⟩ : ∃ g, f = g + 1 := ⟨f - 1, by omega⟩
  simp only [mach, hs, hc, hst]
theorem Leads.none (hp : c.p ≤ t.length) (hs : skipB t c.p = c.p) (hc : t[c.p]? = none) (h6 : c.s ≠ 6) : Leads wh t c (.bad 31 c.p) := fun f hf => by
  obtain ⟨g, rfl⟩ : ∃ g, f = g + 1 := ⟨f - 1, by omega⟩
  have : c.p = t.length := by
    have := List.getElem?_eq_none_iff.1 hc
    omega
  simp only [mach, hs, hc, if_neg h6]
  rw [this]
end
/-- Behind a value. -/
def upd (c : Cf) : Gt (List Nd) → Gt Cf
  | .bad e a => .bad e a
  | .ok a l => .ok a { p := a, s := behS c.stk, out := bump c.out c.stk ++ nameL l c.key, stk := c.stk, key := [] }
/-- What one value's reading must show. -/
def ValOk (wh : List UInt8 → Int × Bool) (t : List UInt8) (d : Nat) : Prop := ∀ c : Cf, c.stk.length + d = 32 → c.p ≤ t.length → skipB t c.p = c.p → (c.s = 0 ∨ c.s = 1 ∧ t[c.p]? ≠ some 93) →
  Leads wh t c (upd c (valX wh t d c.p)) ∧ ∀ a l, valX wh t d c.p = .ok a l → c.p < a ∧ a ≤ t.length ∧ nameL l [] = l
theorem bump_mid (o : List Nd) (hd : Nd) (items : List Nd) (nm : Option (List (List UInt8))) (stk : List (Nat × Option (List (List UInt8)))) : bump (o ++ hd :: items) ((o.length, nm) :: stk) = o ++ hd.more :: items := by
  show (o ++ hd :: items).modify o.length Nd.more = _
  induction o with
  | nil => rfl
  | cons x o ih =>
    show x :: (o ++ hd :: items).modify o.length Nd.more = _
    rw [ih]
    rfl
def rowC (o : List Nd) (hd : Nd) (items : List Nd) (nm : Option (List (List UInt8))) (stk : List (Nat × Option (List (List UInt8)))) (p s : Nat) (key : List UInt8) : Cf := { p := p, s := s, out := o ++ hd :: items, stk := (o.length, nm) :: stk, key := key }
def updR (o : List Nd) (stk : List (Nat × Option (List (List UInt8)))) : Gt (List Nd) → Gt Cf
  | .bad e a => .bad e a
  | .ok a l => .ok a { p := a, s := behS stk, out := o ++ l, stk := stk, key := [] }
theorem rowE_leads {wh : List UInt8 → Int × Bool} {t : List UInt8} {o : List Nd} {stk : List (Nat × Option (List (List UInt8)))} {obj : Bool} {nm : Option (List (List UInt8))} {hd : Nd} {items : List Nd} {a : Nat} {again : Nat → Gt (List Nd)} (hnm : nm.isSome = obj) (ha : a ≤ t.length)
    (h : skipB t a < t.length → Leads wh t (rowC o hd items nm stk (skipB t (skipB t a + 1)) (if obj then 2 else 0) []) (updR o stk (again (skipB t (skipB t a + 1))))) :
    Leads wh t (rowC o hd items nm stk a 5 []) (updR o stk (rowE t obj again a (hd :: items))) := by
  have hq := skip_le ha
  have hqq := skip_skip t a
  have htop : topObj (((o.length, nm) :: stk)) = obj := by
    cases nm with
    | none => exact hnm
    | some x => exact hnm
  refine Leads.skip ?_
  unfold rowE
  cases hc : t[skipB t a]? with
  | none =>
    rw [atB_none hc, atB_none hc]
    simp only [Bool.false_eq_true, if_false, updR]
    exact Leads.none (c := rowC o hd items nm stk (skipB t a) 5 []) hq hqq hc (show (5 : Nat) ≠ 6 by decide)
  | some ch =>
    have h44 : closeB obj ≠ 44 := by cases obj <;> decide
    by_cases h1 : ch = closeB obj
    · rw [if_pos ((atB_iff hc).2 h1)]
      refine Leads.step (c := rowC o hd items nm stk (skipB t a) 5 []) (c' := { p := skipB t a + 1, s := behS stk, out := o ++ hd :: items, stk := stk, key := [] }) hq hqq hc ?_ (Nat.lt_succ_self _) Leads.refl
      show morC (rowC o hd items nm stk (skipB t a) 5 []) ch = _
      unfold morC
      rw [if_neg (by rw [h1]; exact h44)]
      have : topObj (rowC o hd items nm stk (skipB t a) 5 []).stk = obj := htop
      rw [this, if_pos (by rw [h1]; rfl)]
      rfl
    · rw [if_neg (fun hh => h1 ((atB_iff hc).1 hh))]
      by_cases h2 : ch = 44
      · rw [if_pos ((atB_iff hc).2 h2)]
        refine Leads.step (c := rowC o hd items nm stk (skipB t a) 5 []) (c' := rowC o hd items nm stk (skipB t a + 1) (if obj then 2 else 0) []) hq hqq hc ?_ (Nat.lt_succ_self _) (Leads.skip (h (List.getElem?_eq_some_iff.1 hc).1))
        show morC (rowC o hd items nm stk (skipB t a) 5 []) ch = _
        unfold morC
        rw [if_pos h2]
        have : topObj (rowC o hd items nm stk (skipB t a) 5 []).stk = obj := htop
        rw [this]
        rfl
      · rw [if_neg (fun hh => h2 ((atB_iff hc).1 hh))]
        refine Leads.stop (c := rowC o hd items nm stk (skipB t a) 5 []) hq hqq hc ?_
        show morC (rowC o hd items nm stk (skipB t a) 5 []) ch = _
        unfold morC
        rw [if_neg h2]
        have : topObj (rowC o hd items nm stk (skipB t a) 5 []).stk = obj := htop
        have h1' : ¬ ch = (if obj = true then 125 else 93) := h1
        rw [this, if_neg h1']
        rfl
/-- A row whose head bears a name. -/
theorem rowX_named (val : Nat → Gt (List Nd)) (t : List UInt8) (obj : Bool) (k : List UInt8) : ∀ (f p : Nat) (names : List (List UInt8)) (hd : Nd) (items : List Nd),
    rowX val t obj f p names (hd.named k) items = (rowX val t obj f p names hd items).bind fun a l => .ok a (nameL l k)
  | 0, p, names, hd, items => rfl
  | f + 1, p, names, hd, items => by
    unfold rowX
    cases hi : itemX val t obj p names with
    | bad e a => rfl
    | ok a g =>
      rw [show ∀ F : Nat → (List Nd × List UInt8) → Gt (List Nd), (Gt.ok a g).bind F = F a g from fun _ => rfl, show ∀ F : Nat → (List Nd × List UInt8) → Gt (List Nd), (Gt.ok a g).bind F = F a g from fun _ => rfl]
      unfold rowE
      split
      · rfl
      · split
        · exact rowX_named val t obj k f _ _ hd.more _
        · rfl
theorem row_leads {wh : List UInt8 → Int × Bool} {t : List UInt8} {d : Nat} (hv : ValOk wh t d) {o : List Nd} {stk : List (Nat × Option (List (List UInt8)))} (hl : stk.length + 1 + d = 32) (obj : Bool) : ∀ (f p : Nat) (names ns : List (List UInt8)) (hd : Nd) (items : List Nd) (s : Nat), (∀ x, x ∈ ns ↔ x ∈ names) → t.length < p + f → p ≤ t.length → skipB t p = p →
    (obj = true ∧ (s = 2 ∨ s = 3 ∧ t[p]? ≠ some 125) ∨ obj = false ∧ (s = 0 ∨ s = 1 ∧ t[p]? ≠ some 93)) →
    Leads wh t (rowC o hd items (if obj then some ns else none) stk p s []) (updR o stk (rowX (valX wh t d) t obj f p names hd items)) ∧ ∀ a l, rowX (valX wh t d) t obj f p names hd items = .ok a l → p < a ∧ a ≤ t.length ∧ (hd.key = [] → nameL l [] = l)
  | 0, p, names, ns, hd, items, s, _, hf, hp, _, _ => by omega
  | f + 1, p, names, ns, hd, items, s, hns, hf, hp, hsk, hs => by
    have hend : ∀ (a : Nat) (g : List Nd) (nn : List UInt8), p < a → a ≤ t.length → ∀ a' l', rowE t obj (fun p' => rowX (valX wh t d) t obj f p' (names ++ [nn]) hd.more (items ++ g)) a (hd.more :: (items ++ g)) = .ok a' l' → p < a' ∧ a' ≤ t.length ∧ (hd.key = [] → nameL l' [] = l') := by
      intro a g nn h1 h2 a' l' h3
      have hg := skip_ge t a
      have hq := skip_le h2
      unfold rowE at h3
      split at h3
      · rename_i h4
        have := atB_lt h4
        cases h3
        refine ⟨by omega, by omega, fun hkey => ?_⟩
        show ({ hd.more with key := [] } : Nd) :: (items ++ g) = _
        congr 1
        cases hd
        simp only at hkey
        subst hkey
        rfl
      · split at h3
        · rename_i h4
          have := atB_lt h4
          have hg2 := skip_ge t (skipB t a + 1)
          by_cases ho : obj = true
          · subst ho
            have := (row_leads hv (o := o) hl true f (skipB t (skipB t a + 1)) (names ++ [nn]) (nn :: ns) hd.more (items ++ g) 2 (fun x => by rw [List.mem_cons, List.mem_append, List.mem_singleton, hns]; exact or_comm) (by omega) (skip_le (by omega)) (skip_skip _ _) (.inl ⟨rfl, .inl rfl⟩)).2 a' l' h3
            exact ⟨by omega, this.2⟩
          · have ho' : obj = false := by simpa using ho
            subst ho'
            have := (row_leads hv (o := o) hl false f (skipB t (skipB t a + 1)) (names ++ [nn]) (nn :: ns) hd.more (items ++ g) 0 (fun x => by rw [List.mem_cons, List.mem_append, List.mem_singleton, hns]; exact or_comm) (by omega) (skip_le (by omega)) (skip_skip _ _) (.inr ⟨rfl, .inl rfl⟩)).2 a' l' h3
            exact ⟨by omega, this.2⟩
        · cases h3
    rcases hs with ⟨rfl, hs⟩ | ⟨rfl, hs⟩
    · unfold rowX itemX
      simp only [if_true]
      cases hc : t[p]? with
      | none =>
        rw [atB_none hc]
        simp only [Bool.false_eq_true, if_false]
        exact ⟨Leads.none (c := rowC o hd items (some ns) stk p s []) hp hsk hc (show s ≠ 6 by rcases hs with rfl | ⟨rfl, _⟩ <;> decide), fun a l h => by cases h⟩
      | some ch =>
        have hst : stepC wh t (rowC o hd items (some ns) stk p s []) ch = namC t (rowC o hd items (some ns) stk p s []) ch := by
          rcases hs with rfl | ⟨rfl, h3⟩
          · rfl
          · show (if ch = 125 then _ else namC t _ ch) = _
            rw [if_neg (fun h => h3 (by rw [hc, h]))]
        by_cases h34 : ch = 34
        · rw [if_pos ((atB_iff hc).2 h34)]
          have hfit := quoted_fits (t := t) (p := p + 1) (by have := (List.getElem?_eq_some_iff.1 hc).1; omega)
          cases hqx : quotedX t (p + 1) with
          | bad e a =>
            refine ⟨Leads.stop (c := rowC o hd items (some ns) stk p s []) hp hsk hc ?_, fun a l h => by cases h⟩
            rw [hst]
            show namC t _ ch = _
            unfold namC
            rw [if_pos h34]
            show (match quotedX t (p + 1) with | .bad e a => _ | .ok a s => _) = _
            rw [hqx]
          | ok a nn =>
            obtain ⟨ha1, ha2⟩ := hfit a nn hqx
            show Leads wh t _ (updR o stk (Gt.bind (if nn ∈ names then _ else _) _)) ∧ ∀ a' l', Gt.bind (if nn ∈ names then _ else _) _ = .ok a' l' → _
            have hnam : namC t (rowC o hd items (some ns) stk p s []) ch = if nn ∈ ns then .stop 34 p else .go (rowC o hd items (some (nn :: ns)) stk a 4 nn) := by
              unfold namC
              rw [if_pos h34]
              show (match quotedX t (p + 1) with | .bad e a => _ | .ok a s => _) = _
              rw [hqx]
              rfl
            by_cases hm : nn ∈ names
            · rw [if_pos hm]
              refine ⟨Leads.stop (c := rowC o hd items (some ns) stk p s []) hp hsk hc ?_, fun a l h => by cases h⟩
              rw [hst, hnam, if_pos ((hns nn).2 hm)]
            · rw [if_neg hm]
              have hgo : stepC wh t (rowC o hd items (some ns) stk p s []) ch = .go (rowC o hd items (some (nn :: ns)) stk a 4 nn) := by rw [hst, hnam, if_neg (fun h => hm ((hns nn).1 h))]
              have hq := skip_le ha2
              have hqg := skip_ge t a
              cases hcc : t[skipB t a]? with
              | none =>
                rw [atB_none hcc]
                simp only [Bool.false_eq_true, if_false]
                exact ⟨Leads.step (c := rowC o hd items (some ns) stk p s []) hp hsk hc hgo (show p < a by omega) (Leads.skip (Leads.none (c := rowC o hd items (some (nn :: ns)) stk (skipB t a) 4 nn) hq (skip_skip _ _) hcc (show (4 : Nat) ≠ 6 by decide))), fun a l h => by cases h⟩
              | some c2 =>
                by_cases h58 : c2 = 58
                · rw [if_pos ((atB_iff hcc).2 h58)]
                  have hlt2 := (List.getElem?_eq_some_iff.1 hcc).1
                  have hq2 := skip_le (t := t) (p := skipB t a + 1) (by omega)
                  have hq2g := skip_ge t (skipB t a + 1)
                  obtain ⟨hv1, hv2⟩ := hv (rowC o hd items (some (nn :: ns)) stk (skipB t (skipB t a + 1)) 0 nn) hl hq2 (skip_skip _ _) (.inl rfl)
                  have hto : Leads wh t (rowC o hd items (some ns) stk p s []) (upd (rowC o hd items (some (nn :: ns)) stk (skipB t (skipB t a + 1)) 0 nn) (valX wh t d (skipB t (skipB t a + 1)))) :=
                    Leads.step (c := rowC o hd items (some ns) stk p s []) hp hsk hc hgo (show p < a by omega) (Leads.skip (Leads.step (c := rowC o hd items (some (nn :: ns)) stk (skipB t a) 4 nn) (c' := rowC o hd items (some (nn :: ns)) stk (skipB t a + 1) 0 nn) hq (skip_skip _ _) hcc (by
                      show (if c2 = 58 then Nx.go _ else _) = _
                      rw [if_pos h58]
                      rfl) (Nat.lt_succ_self _) (Leads.skip hv1)))
                  have hv2' : ∀ a' l, valX wh t d (skipB t (skipB t a + 1)) = .ok a' l → skipB t (skipB t a + 1) < a' ∧ a' ≤ t.length ∧ nameL l [] = l := hv2
                  cases hvx : valX wh t d (skipB t (skipB t a + 1)) with
                  | bad e a' =>
                    rw [hvx] at hto
                    exact ⟨hto, fun a l h => by cases h⟩
                  | ok b l =>
                    rw [hvx] at hto
                    obtain ⟨hb1, hb2, hb3⟩ := hv2' b l hvx
                    refine ⟨Leads.trans hto ?_, hend b (nameL l nn) nn (by omega) hb2⟩
                    have hbm : ({ p := b, s := behS (rowC o hd items (some (nn :: ns)) stk (skipB t (skipB t a + 1)) 0 nn).stk, out := bump (rowC o hd items (some (nn :: ns)) stk (skipB t (skipB t a + 1)) 0 nn).out (rowC o hd items (some (nn :: ns)) stk (skipB t (skipB t a + 1)) 0 nn).stk ++ nameL l nn, stk := (rowC o hd items (some (nn :: ns)) stk (skipB t (skipB t a + 1)) 0 nn).stk, key := [] } : Cf) = rowC o hd.more (items ++ nameL l nn) (some (nn :: ns)) stk b 5 [] := by
                      show ({ p := b, s := 5, out := bump (o ++ hd :: items) ((o.length, some (nn :: ns)) :: stk) ++ nameL l nn, stk := _, key := [] } : Cf) = _
                      rw [bump_mid, List.append_assoc]
                      rfl
                    have hres := rowE_leads (wh := wh) (t := t) (o := o) (stk := stk) (obj := true) (nm := some (nn :: ns)) (hd := hd.more) (items := items ++ nameL l nn) (a := b) (again := fun p' => rowX (valX wh t d) t true f p' (names ++ [nn]) hd.more (items ++ nameL l nn)) rfl hb2
                      (fun hbl => by
                        have hg3 := skip_ge t b
                        have hg4 := skip_ge t (skipB t b + 1)
                        exact (row_leads hv hl true f (skipB t (skipB t b + 1)) (names ++ [nn]) (nn :: ns) hd.more (items ++ nameL l nn) 2 (fun x => by rw [List.mem_cons, List.mem_append, List.mem_singleton, hns]; exact or_comm) (by omega) (skip_le (by omega)) (skip_skip _ _) (.inl ⟨rfl, .inl rfl⟩)).1)
                    rw [← hbm] at hres
                    exact hres
                · rw [if_neg (fun hh => h58 ((atB_iff hcc).1 hh))]
                  refine ⟨Leads.step (c := rowC o hd items (some ns) stk p s []) hp hsk hc hgo (show p < a by omega) (Leads.skip (Leads.stop (c := rowC o hd items (some (nn :: ns)) stk (skipB t a) 4 nn) hq (skip_skip _ _) hcc ?_)), fun a l h => by cases h⟩
                  show (if c2 = 58 then Nx.go _ else Nx.stop 31 (skipB t a)) = _
                  rw [if_neg h58]
        · rw [if_neg (fun hh => h34 ((atB_iff hc).1 hh))]
          refine ⟨Leads.stop (c := rowC o hd items (some ns) stk p s []) hp hsk hc ?_, fun a l h => by cases h⟩
          rw [hst]
          unfold namC
          rw [if_neg h34]
          rfl
    · unfold rowX itemX
      simp only [Bool.false_eq_true, if_false]
      obtain ⟨hv1, hv2⟩ := hv (rowC o hd items none stk p s []) hl hp hsk hs
      have hv2' : ∀ a' l, valX wh t d p = .ok a' l → p < a' ∧ a' ≤ t.length ∧ nameL l [] = l := hv2
      have hv1' : Leads wh t (rowC o hd items none stk p s []) (upd (rowC o hd items none stk p s []) (valX wh t d p)) := hv1
      cases hvx : valX wh t d p with
      | bad e a' =>
        rw [hvx] at hv1'
        exact ⟨hv1', fun a l h => by cases h⟩
      | ok b l =>
        rw [hvx] at hv1'
        obtain ⟨hb1, hb2, hb3⟩ := hv2' b l hvx
        refine ⟨Leads.trans hv1' ?_, hend b l [] (by omega) hb2⟩
        have hbm : ({ p := b, s := behS (rowC o hd items none stk p s []).stk, out := bump (rowC o hd items none stk p s []).out (rowC o hd items none stk p s []).stk ++ nameL l (rowC o hd items none stk p s []).key, stk := (rowC o hd items none stk p s []).stk, key := [] } : Cf) = rowC o hd.more (items ++ l) none stk b 5 [] := by
          show ({ p := b, s := 5, out := bump (o ++ hd :: items) ((o.length, none) :: stk) ++ nameL l [], stk := _, key := [] } : Cf) = _
          rw [bump_mid, List.append_assoc, hb3]
          rfl
        have hres := rowE_leads (wh := wh) (t := t) (o := o) (stk := stk) (obj := false) (nm := none) (hd := hd.more) (items := items ++ l) (a := b) (again := fun p' => rowX (valX wh t d) t false f p' (names ++ [[]]) hd.more (items ++ l)) rfl hb2
          (fun hbl => by
            have hg3 := skip_ge t b
            have hg4 := skip_ge t (skipB t b + 1)
            exact (row_leads hv hl false f (skipB t (skipB t b + 1)) (names ++ [[]]) ([] :: ns) hd.more (items ++ l) 0 (fun x => by rw [List.mem_cons, List.mem_append, List.mem_singleton, hns]; exact or_comm) (by omega) (skip_le (by omega)) (skip_skip _ _) (.inr ⟨rfl, .inl rfl⟩)).1)
        rw [← hbm] at hres
        exact hres
theorem val_flat {wh : List UInt8 → Int × Bool} {t : List UInt8} {c : Cf} {ch : UInt8} (hp : c.p ≤ t.length) (hs : skipB t c.p = c.p) (hc : t[c.p]? = some ch) (hst : stepC wh t c ch = valC wh t c ch) (hb : ¬ (ch = 91 ∨ ch = 123)) :
    Leads wh t c (upd c (flatX wh t c.p ch)) ∧ ∀ a l, flatX wh t c.p ch = .ok a l → c.p < a ∧ a ≤ t.length ∧ nameL l [] = l := by
  have hlt := (List.getElem?_eq_some_iff.1 hc).1
  have hfit := flatX_fits (wh := wh) (c := ch) hlt
  have hv : valC wh t c ch = (match flatX wh t c.p ch with
    | .bad e a => .stop e a
    | .ok a l => .go (Cf.behind (Cf.lay { c with p := a } (l.headD (nd 0))))) := by
    unfold valC
    rw [if_neg hb]
  cases hx : flatX wh t c.p ch with
  | bad e a =>
    refine ⟨Leads.stop hp hs hc ?_, fun a l h => by cases h⟩
    rw [hst, hv, hx]
  | ok a l =>
    obtain ⟨h1, h2⟩ := hfit a l hx
    obtain ⟨n, rfl, hk⟩ := flatX_one hx
    refine ⟨Leads.step hp hs hc (c' := Cf.behind (Cf.lay { c with p := a } n)) ?_ (show c.p < a by omega) Leads.refl, fun a' l' h => ?_⟩
    · rw [hst, hv, hx]
      rfl
    · cases h
      refine ⟨by omega, h2, ?_⟩
      show [({ n with key := [] } : Nd)] = [n]
      cases n
      simp only at hk
      subst hk
      rfl
theorem val_ok (wh : List UInt8 → Int × Bool) (t : List UInt8) : ∀ d, ValOk wh t d := by
  intro d
  induction d with
  | zero =>
    intro c hl hp hs hst
    have hs6 : c.s ≠ 6 := by rcases hst with h | ⟨h, _⟩ <;> omega
    rw [valX]
    cases hc : t[c.p]? with
    | none => exact ⟨Leads.none hp hs hc hs6, fun a l h => by cases h⟩
    | some ch =>
      have hstep : stepC wh t c ch = valC wh t c ch := by
        obtain ⟨p, s, out, stk, key⟩ := c
        rcases hst with h | ⟨h, h3⟩
        · simp only at h
          subst h
          rfl
        · simp only at h
          subst h
          show (if ch = 93 then _ else valC wh t _ ch) = _
          rw [if_neg (fun e => h3 (by rw [← e]; exact hc))]
      by_cases hb : ch = 91 ∨ ch = 123
      · simp only [hb, if_true]
        refine ⟨Leads.stop hp hs hc ?_, fun a l h => by cases h⟩
        rw [hstep, valC, if_pos hb, begC, if_pos (by omega)]
      · simp only [hb, if_false]
        exact val_flat hp hs hc hstep hb
  | succ d ih =>
    intro c hl hp hs hst
    have hs6 : c.s ≠ 6 := by rcases hst with h | ⟨h, _⟩ <;> omega
    rw [valX]
    cases hc : t[c.p]? with
    | none => exact ⟨Leads.none hp hs hc hs6, fun a l h => by cases h⟩
    | some ch =>
      have hlt := (List.getElem?_eq_some_iff.1 hc).1
      have hstep : stepC wh t c ch = valC wh t c ch := by
        obtain ⟨p, s, out, stk, key⟩ := c
        rcases hst with h | ⟨h, h3⟩
        · simp only at h
          subst h
          rfl
        · simp only at h
          subst h
          show (if ch = 93 then _ else valC wh t _ ch) = _
          rw [if_neg (fun e => h3 (by rw [← e]; exact hc))]
      by_cases hb : ch = 91 ∨ ch = 123
      · simp only [hb, if_true]
        have hq := skip_le (t := t) (p := c.p + 1) (by omega)
        have hqg := skip_ge t (c.p + 1)
        have key : ∀ (obj : Bool) (k : Int) (s1 : Nat), stepC wh t c ch = .go (rowC (bump c.out c.stk) ((nd k).named c.key) [] (if obj then some [] else none) c.stk (c.p + 1) s1 []) → (s1 = if obj then 3 else 1) →
            Leads wh t c (upd c (if atB t (skipB t (c.p + 1)) (closeB obj) then .ok (skipB t (c.p + 1) + 1) [nd k] else rowX (valX wh t d) t obj (t.length + 1) (skipB t (c.p + 1)) [] (nd k) [])) ∧
            ∀ a l, (if atB t (skipB t (c.p + 1)) (closeB obj) then .ok (skipB t (c.p + 1) + 1) [nd k] else rowX (valX wh t d) t obj (t.length + 1) (skipB t (c.p + 1)) [] (nd k) []) = .ok a l → c.p < a ∧ a ≤ t.length ∧ nameL l [] = l := by
          intro obj k s1 hgo hs1
          by_cases hcl : atB t (skipB t (c.p + 1)) (closeB obj) = true
          · rw [if_pos hcl]
            have hlt2 := atB_lt hcl
            refine ⟨Leads.step hp hs hc hgo (Nat.lt_succ_self _) (Leads.skip (Leads.step (c := rowC (bump c.out c.stk) ((nd k).named c.key) [] (if obj then some [] else none) c.stk (skipB t (c.p + 1)) s1 []) (ch := closeB obj) (c' := { p := skipB t (c.p + 1) + 1, s := behS c.stk, out := bump c.out c.stk ++ [(nd k).named c.key], stk := c.stk, key := [] }) hq (skip_skip _ _) ?_ ?_ (Nat.lt_succ_self _) Leads.refl)), fun a l h => ?_⟩
            · unfold atB at hcl
              exact eq_of_beq hcl
            · subst hs1
              cases obj <;> rfl
            · cases h
              exact ⟨by omega, by omega, rfl⟩
          · rw [if_neg hcl]
            have hcl' : t[skipB t (c.p + 1)]? ≠ some (closeB obj) := fun h => hcl (by unfold atB; rw [h]; simp)
            have hcond : (obj = true ∧ (s1 = 2 ∨ s1 = 3 ∧ t[skipB t (c.p + 1)]? ≠ some 125) ∨ obj = false ∧ (s1 = 0 ∨ s1 = 1 ∧ t[skipB t (c.p + 1)]? ≠ some 93)) := by
              cases obj
              · exact .inr ⟨rfl, .inr ⟨hs1, hcl'⟩⟩
              · exact .inl ⟨rfl, .inr ⟨hs1, hcl'⟩⟩
            have h1 := (row_leads ih (o := bump c.out c.stk) (stk := c.stk) (by omega) obj (t.length + 1) (skipB t (c.p + 1)) [] [] ((nd k).named c.key) [] s1 (fun _ => Iff.rfl) (by omega) hq (skip_skip _ _) hcond).1
            have h2 := (row_leads ih (o := bump c.out c.stk) (stk := c.stk) (by omega) obj (t.length + 1) (skipB t (c.p + 1)) [] [] (nd k) [] s1 (fun _ => Iff.rfl) (by omega) hq (skip_skip _ _) hcond).2
            rw [rowX_named] at h1
            generalize rowX (valX wh t d) t obj (t.length + 1) (skipB t (c.p + 1)) [] (nd k) [] = R at h1 h2 ⊢
            have h3 := Leads.step hp hs hc hgo (Nat.lt_succ_self _) (Leads.skip h1)
            refine ⟨?_, fun a l h => ?_⟩
            · cases R <;> exact h3
            · obtain ⟨h4, h5, h6⟩ := h2 a l h
              exact ⟨by omega, h5, h6 rfl⟩
        by_cases h123 : ch = 123
        · have := key true 7 3 (by
            rw [hstep, valC, if_pos hb, begC, if_neg (by omega)]
            simp only [h123, if_true]
            rfl) rfl
          simpa only [h123, if_true, decide_true] using this
        · have := key false 6 1 (by
            rw [hstep, valC, if_pos hb, begC, if_neg (by omega)]
            simp only [h123, if_false]
            rfl) rfl
          simpa only [h123, if_false, decide_false] using this
      · simp only [hb, if_false]
        exact val_flat hp hs hc hstep hb
/-- The machine, started at a text's beginning, says what going down says. -/
theorem mach_parse {wh : List UInt8 → Int × Bool} {t : List UInt8} (h : t.length ≤ 262144) : mach wh t (t.length + 1) { p := 0, s := 0, out := [], stk := [], key := [] } = parseX wh t := by
  have h1 := Leads.skip (c := { p := 0, s := 0, out := [], stk := [], key := [] }) (val_ok wh t 32 { p := skipB t 0, s := 0, out := [], stk := [], key := [] } rfl (skip_le (Nat.zero_le _)) (skip_skip _ _) (.inl rfl)).1
  have h2 := (val_ok wh t 32 { p := skipB t 0, s := 0, out := [], stk := [], key := [] } rfl (skip_le (Nat.zero_le _)) (skip_skip _ _) (.inl rfl)).2
  have h3 := h1 (t.length + 1) (show t.length < 0 + (t.length + 1) by omega)
  simp only at h2 h3
  unfold parseX
  rw [if_neg (by omega)]
  cases hv : valX wh t 32 (skipB t 0) with
  | bad e a =>
    rw [hv] at h3
    exact h3
  | ok a l =>
    rw [hv] at h3
    obtain ⟨_, h5, h6⟩ := h2 a l hv
    obtain ⟨f', h7, h8⟩ := h3
    rw [h8]
    have h7' : t.length < a + f' := h7
    obtain ⟨g, rfl⟩ : ∃ g, f' = g + 1 := ⟨f' - 1, by omega⟩
    have hq := skip_le h5
    show mach wh t (g + 1) { p := a, s := 6, out := [] ++ nameL l [], stk := [], key := [] } = _
    rw [h6, List.nil_append]
    simp only [mach, Gt.bind]
    by_cases hlt : skipB t a < t.length
    · rw [if_pos hlt, List.getElem?_eq_getElem hlt]
      rfl
    · rw [if_neg hlt, List.getElem?_eq_none (by omega)]
      rfl
end Sg
/- JSON's plain words, step by step. -/
namespace Sg
theorem tw_yes {f : UInt8 → Bool} {t : List UInt8} {p : Nat} {c : UInt8} (hc : t[p]? = some c) (h : f c = true) : p + ((t.drop p).takeWhile f).length = p + 1 + ((t.drop (p + 1)).takeWhile f).length := by
  obtain ⟨hp, rfl⟩ := List.getElem?_eq_some_iff.1 hc
  rw [List.drop_eq_getElem_cons hp, List.takeWhile_cons_of_pos h, List.length_cons]
  omega
theorem tw_no {f : UInt8 → Bool} {t : List UInt8} {p : Nat} (h : ∀ c, t[p]? = some c → f c = false) : p + ((t.drop p).takeWhile f).length = p := by
  rcases Nat.lt_or_ge p t.length with hp | hp
  · have := h _ (List.getElem?_eq_getElem hp)
    rw [List.drop_eq_getElem_cons hp, List.takeWhile_cons_of_neg (by rw [this]; simp)]
    rfl
  · rw [List.drop_eq_nil_of_le hp]
    rfl
theorem bAt_of {t : List UInt8} {p : Nat} {c : UInt8} (hc : t[p]? = some c) : bAt t p = c.toNat := (bAt_some hc).1
theorem bAt_lt_of {t : List UInt8} {p : Nat} (h : bAt t p ≠ 0) : p < t.length := by
  rcases Nat.lt_or_ge p t.length with hp | hp
  · exact hp
  · exact absurd (by simp [bAt, List.getD, List.getElem?_eq_none hp]) h
theorem bAt_get {t : List UInt8} {p : Nat} (h : p < t.length) : ∃ c, t[p]? = some c ∧ c.toNat = bAt t p := ⟨t[p], List.getElem?_eq_getElem h, (bAt_of (List.getElem?_eq_getElem h)).symm⟩
theorem bAt_big {t : List UInt8} {p : Nat} (h : t.length ≤ p) : bAt t p = 0 := by simp [bAt, List.getD, List.getElem?_eq_none h]
theorem atB_bAt {t : List UInt8} {p : Nat} {c : UInt8} (h : c ≠ 0) : atB t p c = decide (bAt t p = c.toNat) := by
  have hc : c.toNat ≠ 0 := fun e => h (UInt8.toNat_inj.1 e)
  rcases Nat.lt_or_ge p t.length with hp | hp
  · obtain ⟨d, h1, h2⟩ := bAt_get hp
    unfold atB
    rw [h1, ← h2]
    by_cases e : d = c
    · subst e; simp
    · have : d.toNat ≠ c.toNat := fun e' => e (UInt8.toNat_inj.1 e')
      simp [e, this]
  · rw [bAt_big hp, decide_eq_false (fun e => hc e.symm)]
    unfold atB
    rw [List.getElem?_eq_none hp]
    rfl
theorem digitB_iff {c : UInt8} : digitB c = true ↔ 48 ≤ c.toNat ∧ c.toNat ≤ 57 := by
  unfold digitB
  rw [Bool.and_eq_true, decide_eq_true_eq, decide_eq_true_eq, UInt8.le_iff_toNat_le, UInt8.le_iff_toNat_le]
  exact Iff.rfl
theorem digsE_yes {t : List UInt8} {p : Nat} (h : 48 ≤ bAt t p ∧ bAt t p ≤ 57) : digsE t p = digsE t (p + 1) := by
  obtain ⟨c, h1, h2⟩ := bAt_get (bAt_lt_of (t := t) (p := p) (by omega))
  exact tw_yes h1 (digitB_iff.2 (by omega))
theorem digsE_no {t : List UInt8} {p : Nat} (h : ¬ (48 ≤ bAt t p ∧ bAt t p ≤ 57)) : digsE t p = p := tw_no fun c hc => by
  rw [← Bool.not_eq_true, digitB_iff, ← bAt_of hc]
  exact h
theorem blankB_iff {c : UInt8} : blankB c = true ↔ c.toNat = 32 ∨ c.toNat = 9 ∨ c.toNat = 10 ∨ c.toNat = 13 := by
  unfold blankB
  simp only [Bool.or_eq_true, beq_iff_eq, ← UInt8.toNat_inj]
  have e1 : (32 : UInt8).toNat = 32 := rfl
  have e2 : (9 : UInt8).toNat = 9 := rfl
  have e3 : (10 : UInt8).toNat = 10 := rfl
  have e4 : (13 : UInt8).toNat = 13 := rfl
  rw [e1, e2, e3, e4]
  omega
theorem skip_yes {t : List UInt8} {p : Nat} (h : bAt t p = 32 ∨ bAt t p = 9 ∨ bAt t p = 10 ∨ bAt t p = 13) : skipB t p = skipB t (p + 1) := by
  obtain ⟨c, h1, h2⟩ := bAt_get (bAt_lt_of (t := t) (p := p) (by omega))
  exact tw_yes h1 (blankB_iff.2 (by omega))
theorem skip_no {t : List UInt8} {p : Nat} (h : ¬ (bAt t p = 32 ∨ bAt t p = 9 ∨ bAt t p = 10 ∨ bAt t p = 13)) : skipB t p = p := tw_no fun c hc => by
  rw [← Bool.not_eq_true, blankB_iff, ← bAt_of hc]
  exact h
theorem digsX_ok {t : List UInt8} {p : Nat} (h : 48 ≤ bAt t p ∧ bAt t p ≤ 57) : digsX t p = .ok (digsE t p) () := by
  unfold digsX
  rw [if_neg]
  have := digs_ge t (p + 1)
  rw [digsE_yes h]
  omega
theorem digsX_bad {t : List UInt8} {p : Nat} (h : ¬ (48 ≤ bAt t p ∧ bAt t p ≤ 57)) : digsX t p = .bad 31 p := by
  unfold digsX
  rw [if_pos (digsE_no h)]
end Sg
