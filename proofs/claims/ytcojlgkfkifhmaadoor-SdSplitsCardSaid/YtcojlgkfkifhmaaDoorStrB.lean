/- More rules on texts: a text's bytes as a new row, a part of a text; an append that leaves the row that it began with. -/
import Derived.Test.YtcojlgkfkifhmaaDoorWord
import Derived.Test.YtcojlgkfkifhmaaDoorMapU
import Derived.Lib.ConvBytes
namespace Sg
open Go Go.RowKit
theorem St.appendK {c : Ctx} {H : List Res} {w : World} {ad : Option Addr} {n cp sz m t E : Nat} {xs us : List Value} {z : Value} {by_ : Nat} {src : Addr} {scp : Nat} {ty : TypeId} (hw : St c.F c.M w (.row ad cp E sz n xs :: H))
    [HU c.P t (.slice E)] [HI c.P E z sz by_] (hus : us.length = m * sz) (hnews : ∀ j u, us[j]? = some u → w.cell? (src.add j) = some u) (hone : us.all (·.oneCell') = true) (hzs : z.cells.size = sz) (hsz : 0 < sz)
    (hroom : (n + m) * by_ ≤ 140737488355328 ∧ n + m ≤ 140737488355328) :
    ∃ ad' cp' w' X, (Builtin.append_ #[t, t] ty #[.slice ad n cp, .slice (some src) m scp]).run c.P w = .ok (.slice ad' (n + m) cp') w' ∧ (ad' = ad ∧ X = [] ∨ X = [.row ad cp E sz n xs]) ∧ St c.F c.M w' (.row ad' cp' E sz (n + m) (xs ++ us) :: (X ++ H)) := by
  obtain ⟨i, hi1, hi2, hi3, hi4⟩ := HI.h (P := c.P) (t := E) (z := z) (sz := sz) (by_ := by_)
  have hrow : w.ownsRow 0 E sz (.slice ad n cp) n xs := hw.res _ (List.mem_cons_self ..)
  have hmax : n + m ≤ maxLen := by unfold maxLen; omega
  have hone' : ∀ u ∈ us, u.oneCell' = true := fun u hu => by simpa using List.all_eq_true.1 hone u hu
  obtain ⟨ad', cp', w', hrun, hst⟩ := St.append (c := c) (t := t) (z := z) (sz := sz) (by_ := by_) (us := us) (src := src) (scp := scp) (ty := ty) hw hus hnews hone hzs hsz hroom
  have hnew : w'.ownsRow 0 E sz (.slice ad' (n + m) cp') (n + m) (xs ++ us) := hst.res _ (List.mem_cons_self ..)
  rcases hrow.2 with ⟨hv, h0⟩ | ⟨g, cap, cur, hv, hbg, hg, hnc, hcm, hcs, htake⟩
  · simp only [Value.slice.injEq] at hv
    obtain ⟨rfl, rfl, rfl⟩ := hv
    obtain rfl : xs = [] := List.eq_nil_of_length_eq_zero (by have := hrow.1; simpa using this)
    exact ⟨ad', cp', w', [.row none 0 E sz 0 []], hrun, .inr rfl, (hst.nilrow E sz).perm (List.Perm.swap _ _ _)⟩
  · simp only [Value.slice.injEq] at hv
    obtain ⟨rfl, -, rfl⟩ := hv
    subst hi3
    by_cases hrm : n + m ≤ cp
    · have hfit : n * i.size + us.length ≤ cur.size := by rw [hus, hcs, ← Nat.add_mul]; exact Nat.mul_le_mul_right _ hrm
      have hr := run_append_room (P := c.P) w t ty E i (HU.h (P := c.P) (t := t)) hi1 g n cp cur hg src m scp us hus hnews hone' hrm hfit
      rw [hrun] at hr
      simp only [Result.ok.injEq, Value.slice.injEq] at hr
      obtain ⟨⟨rfl, -, -⟩, -⟩ := hr
      exact ⟨_, cp', w', [], hrun, .inl ⟨rfl, rfl⟩, hst⟩
    · have holds : ∀ j u, xs[j]? = some u → w.cell? ((⟨g, 0, none⟩ : Addr).add j) = some u := hrow.cells (g := g) rfl
      subst hi4
      have hr := run_append_grow (P := c.P) w t ty E i z (HU.h (P := c.P) (t := t)) hi1 hi2 ⟨g, 0, none⟩ n cp xs hrow.1 holds src m scp us hus hnews (by omega) (by omega) (growslice_fits (by omega) hroom.1)
      rw [hrun] at hr
      simp only [Result.ok.injEq, Value.slice.injEq] at hr
      obtain ⟨⟨rfl, -, rfl⟩, rfl⟩ := hr
      refine ⟨_, _, _, [.row (some ⟨g, 0, none⟩) cp E i.size n xs], hrun, .inr rfl, St.fresh hw rfl rfl rfl (by simp) (fun j hj => ?_) hnew (fun q hq => ?_) (by simp [Res.foot])⟩
      · show (w.drew.heap.push _)[j]? = _
        have hj' : j < w.drew.heap.size := by simpa using hj
        rw [Array.getElem?_push_lt hj', ← Array.getElem?_eq_getElem hj']
        rfl
      · simp only [Res.foot, List.mem_singleton] at hq
        omega
section
variable {q : Mode} {c : Ctx} {ds : List Deferred} {H : List Res} {ops : Array Oper} {l : List Oper} {κ : List Res → Env → Prop} {dr : Bool} {e : Env} {ty : TypeId} {pos : String} {aft : Array Edge}
/-- One value appended to the first row behind a literal: what the row was stays. -/
theorem T.appendK1 {d : Tmp} {x y : Operand} {ad : Option Addr} {n cp b t E Eb : Nat} {v : Value} [HU c.P t (.slice E)] {z : Value} {by_ : Nat} [HI c.P E z 1 by_] {xs : List Value} (hx : ev e x = some (.slice ad n cp)) (hy : ev e y = some (.slice (some ⟨b, 0, none⟩) 1 1))
    (hv : v.oneCell' = true) (hzs : z.cells.size = 1) (hroom : (n + 1) * by_ ≤ 140737488355328 ∧ n + 1 ≤ 140737488355328) (hlt : Nat.blt d c.fn.ntmps = true)
    (hk : ∀ ad' cp' X, (ad' = ad ∧ X = [] ∨ X = [.row ad cp E 1 n xs]) → Sr (.eff dr) c ds (.row ad' cp' E 1 (n + 1) (xs ++ [v]) :: (X ++ H)) ops l κ ((d, .slice ad' (n + 1) cp') :: e)) :
    Sr (.eff dr) c ds (.blk b [v] Eb :: .row ad cp E 1 n xs :: H) ops (⟨some d, .call ⟨.builtin .append, #[x, y], #[t, t]⟩, ty, pos, aft, none⟩ :: l) κ e :=
  Sr.eff (K := fun u H' => ∃ ad' cp' X, u = .slice ad' (n + 1) cp' ∧ (ad' = ad ∧ X = [] ∨ X = [.row ad cp E 1 n xs]) ∧ H' = .row ad' cp' E 1 (n + 1) (xs ++ [v]) :: (X ++ H)) (fun w a hw ha => by
    obtain ⟨ad', cp', w', X, hrun, hX, hst⟩ := St.appendK (c := c) (t := t) (z := z) (sz := 1) (by_ := by_) (us := [v]) (m := 1) (src := ⟨b, 0, none⟩) (scp := 1) (ty := ty) hw.tail rfl (fun j u hj => by
      rw [addr_add, Nat.zero_add, hw.cell (List.mem_cons_self ..)]
      exact hj) (by simp [hv]) hzs (by decide) hroom
    exact ⟨_, w', _, .inl (by simp [execOp, ha.ev hx, ha.ev hy, resolve, invoke, builtin, hrun]), hst, _, _, _, rfl, hX, rfl⟩) hlt rfl
    (fun u H' ⟨ad', cp', X, hu, hX, hH⟩ => by subst hu hH; exact hk ad' cp' X hX)
/-- The bytes of a text, as a new row. -/
theorem T.convSB {d : Tmp} {x : Operand} {s t E : TypeId} {bs : List UInt8} [HU c.P s .string] [HU c.P t (.slice E)] [HU c.P E (.int .u8)] (hx : ev e x = some (sV bs)) (hlt : Nat.blt d c.fn.ntmps = true)
    (hk : ∀ b cp r, Rd c.F c.M (r :: H) (some ⟨b, 0, none⟩) (bs.map bV) → bs.length ≤ cp → Sr (.eff dr) c ds (r :: H) ops l κ ((d, .slice (some ⟨b, 0, none⟩) bs.length cp) :: e)) :
    Sr (.eff dr) c ds H ops (⟨some d, .convert s t x, ty, pos, aft, none⟩ :: l) κ e :=
  Sr.eff (K := fun u H' => ∃ b cp r, u = .slice (some ⟨b, 0, none⟩) bs.length cp ∧ Rd c.F c.M (r :: H) (some ⟨b, 0, none⟩) (bs.map bV) ∧ bs.length ≤ cp ∧ H' = r :: H) (fun w a hw ha => by
    have hrun := Go.Lib.run_convert_string_bytes (P := c.P) w s t E (ByteArray.mk bs.toArray) (u := .string) (HU.h (P := c.P) (t := s)) (HU.h (P := c.P) (t := t)) (HU.h (P := c.P) (t := E))
    have hnew := Go.Lib.bytesWorld_at_new w E (ByteArray.mk bs.toArray)
    have hsz := Go.Lib.bytesWorld_size w E (ByteArray.mk bs.toArray)
    have hold := fun j (hj : j < w.heap.size) => Go.Lib.bytesWorld_at_old w E (ByteArray.mk bs.toArray) j hj
    have hcap : bs.length ≤ grownCap w bs.length 0 E := grownCap_ge w bs.length 0 E
    have hss : (ByteArray.mk bs.toArray).size = bs.length := rfl
    have hcl : ∃ zs, Go.Lib.bytesCells w E (ByteArray.mk bs.toArray) = ⟨bs.map bV ++ zs⟩ := ⟨_, by
      unfold Go.Lib.bytesCells
      apply Array.ext'
      simp only [Array.toList_append, Array.toList_map]
      rfl⟩
    obtain ⟨zs, hcl⟩ := hcl
    rw [hcl] at hnew
    rw [hss] at hrun
    have hos : (Go.Lib.bytesWorld w E (ByteArray.mk bs.toArray)).os = w.os ∧ (Go.Lib.bytesWorld w E (ByteArray.mk bs.toArray)).tape = w.tape ∧ (Go.Lib.bytesWorld w E (ByteArray.mk bs.toArray)).output = w.output := by
      unfold Go.Lib.bytesWorld World.freeze
      rw [if_neg (by decide)]
      exact ⟨rfl, rfl, rfl⟩
    refine ⟨.slice (some ⟨w.heap.size, 0, none⟩) bs.length (grownCap w bs.length 0 E), Go.Lib.bytesWorld w E (ByteArray.mk bs.toArray), _, .inl (by simp only [execOp, ha.ev hx, Sem.run_bind, hrun, Result.andThen_ok, Sem.run_pure]), hw.fresh (r' := .obj w.heap.size _) hos.1 hos.2.1 hos.2.2 (by rw [hsz]; omega) hold hnew (fun q hq => by simp only [Res.foot, List.mem_singleton] at hq; omega) (by simp [Res.foot]), w.heap.size, _, _, rfl, ?_, hcap, rfl⟩
    have h1 : Rd c.F c.M (.obj w.heap.size (.cells ⟨bs.map bV ++ zs⟩ E ((⟨bs.map bV ++ zs⟩ : Array Value).size, (⟨bs.map bV ++ zs⟩ : Array Value).size + 1)) :: H) (some ⟨w.heap.size, 0, none⟩) (bs.map bV ++ zs) := inferInstance
    have h2 := h1.take bs.length
    rwa [List.take_append_of_le_length (by simp), List.take_of_length_le (by simp)] at h2) hlt rfl
    (fun u H' ⟨b, cp, r, hu, hR, hc, hH⟩ => by subst hu hH; exact hk b cp r hR hc)
/-- A part of a text. -/
theorem T.sslice {d : Tmp} {x lo hi : Operand} {kd kd' : IntKind} {i j : Nat} {t : TypeId} {bs : List UInt8} [HU c.P t .string] (hx : ev e x = some (sV bs)) (hl : ev e lo = some (.int kd (i : Int))) (hh : ev e hi = some (.int kd' (j : Int))) (h0 : i ≤ j ∧ j ≤ bs.length) (hlt : Nat.blt d c.fn.ntmps = true)
    (hk : Sr q c ds H ops l κ ((d, sV ((bs.drop i).take (j - i))) :: e)) : Sr q c ds H ops (⟨some d, .slice t x (some lo) (some hi) none, ty, pos, aft, none⟩ :: l) κ e :=
  Sr.p (fun w a _ ha => by
    have hr := run_slice_string (P := c.P) (w := w) t (ByteArray.mk bs.toArray) kd kd' (i : Int) (j : Int) (HU.h (P := c.P) (t := t)) (by omega) (by omega) (by show (j : Int) ≤ (bs.length : Nat); omega)
    have hex : (ByteArray.mk bs.toArray).extract (i : Int).toNat (j : Int).toNat = ByteArray.mk ((bs.drop i).take (j - i)).toArray := by
      rw [Int.toNat_natCast, Int.toNat_natCast]
      apply ByteArray.ext
      rw [ByteArray.data_extract]
      apply Array.ext'
      simp [List.extract, List.drop_take]
    rw [hex] at hr
    simp [execOp, ha.ev hx, ha.ev hl, ha.ev hh, Instr.sliceAt, run_under (d := .string), hr]) rfl hlt rfl hk
theorem T.sneqR {x y : Operand} {d : Tmp} {a : List UInt8} {t u : TypeId} (hx : ev e x = some (sV a)) (hy : ev e y = some (sV a)) (hlt : Nat.blt d c.fn.ntmps = true) (hk : Sr q c ds H ops l κ ((d, .bool false) :: e)) : Sr q c ds H ops (⟨some d, .binOp .neq t x y u, ty, pos, aft, none⟩ :: l) κ e :=
  T.sneq hx hy hlt (by simpa using hk)
theorem T.neqR {x y : Operand} {d : Tmp} {kd : IntKind} {a : Int} {t u : TypeId} (hx : ev e x = some (.int kd a)) (hy : ev e y = some (.int kd a)) (hlt : Nat.blt d c.fn.ntmps = true) (hk : Sr q c ds H ops l κ ((d, .bool false) :: e)) : Sr q c ds H ops (⟨some d, .binOp .neq t x y u, ty, pos, aft, none⟩ :: l) κ e :=
  T.neq hx hy hlt (by simpa using hk)
theorem Rd.app {F : World} {M : List Nat} {H : List Res} {a : Option Addr} {vs : List Value} (h : Rd F M H a vs) : ∀ X : List Res, Rd F M (X ++ H) a vs
  | [] => h
  | x :: X => by
    have := Rd.app h X
    exact Rd.tl
/-- Texts of a row appended to the empty slice: a new row. -/
theorem T.appendT0 {d : Tmp} {y : Operand} {sad : Option Addr} {m scp t E : Nat} [HU c.P t (.slice E)] {z : Value} {by_ : Nat} [HI c.P E z 1 by_] {us : List (List UInt8)} {x : Operand} (hx : ev e x = some (.slice none 0 0)) (hy : ev e y = some (.slice sad m scp))
    (hs : Rd c.F c.M H sad (us.map sV)) (hm : us.length = m) (hzs : z.cells.size = 1) (hroom : m * by_ ≤ 140737488355328 ∧ m ≤ 140737488355328) (hlt : Nat.blt d c.fn.ntmps = true)
    (hk : ∀ ad' cp', Sr (.eff dr) c ds (.row ad' cp' E 1 m (us.map sV) :: H) ops l κ ((d, .slice ad' m cp') :: e)) :
    Sr (.eff dr) c ds H ops (⟨some d, .call ⟨.builtin .append, #[x, y], #[t, t]⟩, ty, pos, aft, none⟩ :: l) κ e := by
  refine Sr.nilrow E 1 ?_
  have hs' : Rd c.F c.M (.row none 0 E 1 0 (([] : List (List UInt8)).map sV) :: H) sad (us.map sV) := Rd.tl
  refine T.appendAll (g := sV) (xs := []) (z := z) (by_ := by_) hx hy (inferInstance : AtR (.row none 0 E 1 0 (([] : List (List UInt8)).map sV) :: H) none 0 E 1 0 (([] : List (List UInt8)).map sV) _) hs' hm (fun _ => rfl) hzs (by rw [Nat.zero_add]; exact hroom) hlt (fun ad' cp' => ?_)
  rw [Nat.zero_add, List.nil_append]
  exact hk ad' cp'
end
end Sg
