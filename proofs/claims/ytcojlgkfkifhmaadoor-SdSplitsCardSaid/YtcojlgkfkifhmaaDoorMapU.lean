/- More rules on texts and maps: texts as elements, texts behind bytes, texts of bytes; the names of a map rise. -/
import Derived.Test.YtcojlgkfkifhmaaDoorMapT
import Derived.Lib.AppendStr
import Derived.Sort.KeysCollected
import Derived.Sort.Walk0
namespace Sg
open Go Go.RowKit Go.ChangeMaps Go.MapKept
section
variable {c : Ctx} {dr : Bool} {ds : List Deferred} {H : List Res} {e : Env} {ops : Array Oper} {l : List Oper} {κ : List Res → Env → Prop} {dst : Option Tmp} {ty : TypeId} {pos : String} {aft : Array Edge} {g : Option (Nat × Bool)} {q : Mode}
theorem getS {xs : List (List UInt8)} {j : Nat} (h : j < xs.length) : (xs.map sV)[j]? = some (sV (xs.getD j [])) := by
  simp [List.getD, h]
theorem T.loadS {x : Operand} {d : Tmp} {ad : Option Addr} {j : Nat} {t : TypeId} [HU c.P t .string] {xs : List (List UInt8)} (hx : ev e x = some (.pointer (eaddr ad j))) (hr : Rd c.F c.M H ad (xs.map sV)) (hj : j < xs.length) (hlt : Nat.blt d c.fn.ntmps = true)
    (hk : Sr q c ds H ops l κ ((d, sV (xs.getD j [])) :: e)) : Sr q c ds H ops (⟨some d, .load t x, ty, pos, aft, none⟩ :: l) κ e := Sr.p (Pu.loadE (d := .string) hx rfl (getS hj)) rfl hlt rfl hk
/- A text behind bytes. -/
theorem appendS_where {P : Program} (w : World) (t u ty e : TypeId) (i : TypeInfo) (ht : P.underlying t = some (.slice e)) (hu : P.underlying u = some .string) (hi : P.info? e = some i) (hz : i.zero = some (.int .u8 0))
    (hsize : i.size = 1) (hby : i.bytes = 1) (v : Value) (n : Nat) (xs : List Value) (hown : w.ownsRow 0 e 1 v n xs) (s : ByteArray) (h63 : n + s.size ≤ maxLen) (hbytes : n + s.size ≤ 140737488355328) {v' : Value} {w' : World}
    (hrun : (Builtin.append_ #[t, u] ty #[v, .string s]).run P w = .ok v' w') : v'.ownBlock = v.ownBlock ∨ v'.ownBlock = some w.heap.size := by
  have hsmall : n + s.size ≤ 9223372036854775807 := by simp only [maxLen] at h63; omega
  have hxl : xs.length = n := by simpa using hown.1
  rcases hown.2 with ⟨rfl, rfl⟩ | ⟨g, cap, cur, rfl, hbg, hg, hnc, hcm, hcs, htake⟩
  · by_cases hm : s.size = 0
    · have hf := Lib.run_firstCells_string (P := P) w 1 s
      rw [hm] at hf
      have hr : (Builtin.append_ #[t, u] ty #[.slice none 0 0, .string s]).run P w = .ok (.slice none 0 0) w := by
        simp [Builtin.append_, run_underlying ht, run_underlying hu, Go.sizeOf, typeInfo, hi, hsize, Builtin.lenOf, hm, hf]
      rw [hr] at hrun
      simp only [Result.ok.injEq] at hrun
      left
      rw [← hrun.1]
    · have hr := run_append_nil_string (P := P) w t u ty e i (.int .u8 0) ht hu hi hz s (by omega) (by omega) (by rw [hby]; omega)
      rw [hr] at hrun
      simp only [Result.ok.injEq] at hrun
      right
      rw [← hrun.1]
      rfl
  · by_cases hroom : n + s.size ≤ cap
    · have hcs' : cur.size = cap := by simpa using hcs
      have hr := Lib.run_append_room_string (P := P) w t u ty e i ht hu hi hsize g n cap cur hg s hroom (by omega)
      rw [hr] at hrun
      simp only [Result.ok.injEq] at hrun
      left
      rw [← hrun.1]
      rfl
    · have holds : ∀ j u, xs[j]? = some u → w.cell? ((⟨g, 0, none⟩ : Addr).add j) = some u := hown.cells (g := g) rfl
      have hr := Lib.run_append_grow_string (P := P) w t u ty e i (.int .u8 0) ht hu hi hz ⟨g, 0, none⟩ n cap xs (by rw [hsize]; simpa using hxl) holds s (by omega) (by omega) (by rw [hby]; exact growslice_fits (by omega) (by omega))
      rw [hr] at hrun
      simp only [Result.ok.injEq] at hrun
      right
      rw [← hrun.1]
      rfl
theorem strCells_sV (s : List UInt8) : Lib.strCells (ByteArray.mk s.toArray) = s.map bV := by simp [Lib.strCells]
theorem T.appendS {d : Tmp} {x y : Operand} {ad : Option Addr} {n cp t u E : Nat} [HU c.P t (.slice E)] [HU c.P u .string] [HI c.P E (.int .u8 0) 1 1] {xs s : List UInt8} {f : Res → List Res} (hx : ev e x = some (.slice ad n cp)) (hy : ev e y = some (sV s))
    (hr : AtR H ad cp E 1 n (xs.map bV) f) (hroom : n + s.length ≤ 140737488355328) (hlt : Nat.blt d c.fn.ntmps = true)
    (hk : ∀ ad' cp', Sr (.eff dr) c ds (f (.row ad' cp' E 1 (n + s.length) ((xs ++ s).map bV))) ops l κ ((d, .slice ad' (n + s.length : Nat) cp') :: e)) :
    Sr (.eff dr) c ds H ops (⟨some d, .call ⟨.builtin .append, #[x, y], #[t, u]⟩, ty, pos, aft, none⟩ :: l) κ e :=
  Sr.eff (K := fun v H' => ∃ ad' cp', v = .slice ad' (n + s.length) cp' ∧ H' = f (.row ad' cp' E 1 (n + s.length) ((xs ++ s).map bV))) (fun w a hw ha => by
    obtain ⟨rest, h1, h2⟩ := hr.h
    have hw1 := hw.perm h1
    obtain ⟨i, hi1, hi2, hi3, hi4⟩ := HI.h (P := c.P) (t := E) (z := .int .u8 0) (sz := 1) (by_ := 1)
    have hrow : w.ownsRow 0 E 1 (.slice ad n cp) n (xs.map bV) := hw1.res _ (List.mem_cons_self ..)
    have hsz : (ByteArray.mk s.toArray).size = s.length := rfl
    have hmax : n + (ByteArray.mk s.toArray).size ≤ maxLen := by rw [hsz]; unfold maxLen; omega
    obtain ⟨v', w', hrun, hown, hg, -⟩ := Lib.run_append_own_string (P := c.P) w 0 t u ty E i (HU.h (P := c.P) (t := t)) (HU.h (P := c.P) (t := u)) hi1 hi2 hi3 hi4 _ n _ hrow (ByteArray.mk s.toArray) hmax (by rw [hsz]; exact hroom) (Nat.zero_le _)
    have hwhere := appendS_where (P := c.P) w t u ty E i (HU.h (P := c.P) (t := t)) (HU.h (P := c.P) (t := u)) hi1 hi2 hi3 hi4 _ n _ hrow (ByteArray.mk s.toArray) hmax (by rw [hsz]; exact hroom) hrun
    rw [strCells_sV, ← List.map_append, hsz] at hown
    obtain ⟨ad', cp', hv'⟩ : ∃ ad' cp', v' = .slice ad' (n + s.length) cp' := by
      rcases hown.2 with ⟨hv, h0⟩ | ⟨g, cap, cur, hv, _⟩
      · exact ⟨none, 0, by rw [hv, h0]⟩
      · exact ⟨_, _, hv⟩
    subst hv'
    refine ⟨_, w', _, .inl (by simp [execOp, ha.ev hx, ha.ev hy, resolve, invoke, builtin, hrun]), (hw1.turn (r' := .row ad' cp' E 1 (n + s.length) ((xs ++ s).map bV)) hg.os hg.tape hg.output hg.size (fun j hj hjr => hg.block j hj fun hjo => hjr ?_) hown (fun q hq => ?_) (by cases ad' <;> simp [Res.foot])).perm (h2 _), ad', cp', rfl, rfl⟩
    · cases ad with
      | none => simp [Value.ownBlock] at hjo
      | some q => simp only [Value.ownBlock, Option.some.injEq] at hjo; simp [Res.foot, hjo]
    · cases ad' with
      | none => simp [Res.foot] at hq
      | some p =>
        simp only [Res.foot, List.mem_singleton] at hq
        subst hq
        rcases hwhere with hwh | hwh
        · left
          cases ad with
          | none => simp [Value.ownBlock] at hwh
          | some q => simp only [Value.ownBlock, Option.some.injEq] at hwh; simp [Res.foot, hwh]
        · right
          simp only [Value.ownBlock, Option.some.injEq] at hwh
          omega) hlt rfl (fun v H' ⟨ad', cp', hv, hH⟩ => by subst hv hH; exact hk ad' cp')
theorem T.appendBs {d : Tmp} {x y : Operand} {ad sad : Option Addr} {n cp m scp t E : Nat} [HU c.P t (.slice E)] [HI c.P E (.int .u8 0) 1 1] {xs us : List UInt8} {f : Res → List Res} (hx : ev e x = some (.slice ad n cp)) (hy : ev e y = some (.slice sad m scp))
    (hr : AtR H ad cp E 1 n (xs.map bV) f) (hs : Rd c.F c.M H sad (us.map bV)) (hm : us.length = m) (hroom : n + m ≤ 140737488355328) (hlt : Nat.blt d c.fn.ntmps = true)
    (hk : ∀ ad' cp', Sr (.eff dr) c ds (f (.row ad' cp' E 1 (n + m) ((xs ++ us).map bV))) ops l κ ((d, .slice ad' (n + m) cp') :: e)) :
    Sr (.eff dr) c ds H ops (⟨some d, .call ⟨.builtin .append, #[x, y], #[t, t]⟩, ty, pos, aft, none⟩ :: l) κ e := T.appendAll (g := bV) hx hy hr hs hm (fun _ => rfl) rfl (by omega) hlt hk
/- A text of bytes. -/
theorem push_bytes : ∀ (xs acc : List UInt8), ((xs.map fun b => (b.toNat : Int)).foldl (fun r n => r.push (UInt8.ofNat n.toNat)) (ByteArray.mk acc.toArray)) = ByteArray.mk (acc ++ xs).toArray
  | [], acc => by simp
  | x :: xs, acc => by
    rw [List.map_cons, List.foldl_cons]
    have : (ByteArray.mk acc.toArray).push (UInt8.ofNat (x.toNat : Int).toNat) = ByteArray.mk (acc ++ [x]).toArray := by
      apply ByteArray.ext
      simp [ByteArray.push]
    rw [this, push_bytes xs (acc ++ [x]), List.append_assoc]
    rfl
theorem T.convS {x : Operand} {d : Tmp} {ad : Option Addr} {n cp : Nat} {xs : List UInt8} {t t' E : TypeId} [HU c.P t (.slice E)] [HU c.P E (.int .u8)] [HU c.P t' .string] (hx : ev e x = some (.slice ad n cp)) (hr : Rd c.F c.M H ad (xs.map bV)) (hn : xs.length = n) (hlt : Nat.blt d c.fn.ntmps = true)
    (hk : Sr q c ds H ops l κ ((d, sV xs) :: e)) : Sr q c ds H ops (⟨some d, .convert t t' x, ty, pos, aft, none⟩ :: l) κ e :=
  Sr.p (fun w a hw ha => by
    have hcv := run_convert_bytes_string (P := c.P) w t t' E ad n cp (HU.h (P := c.P) (t := t)) (HU.h (P := c.P) (t := E)) (HU.h (P := c.P) (t := t'))
    have hb : (Conv.bytesToString (.slice ad n cp)).run c.P w = .ok (sV xs) w := by
      cases ad with
      | none =>
        cases xs with
        | nil => rfl
        | cons b xs =>
          obtain ⟨q, h, -⟩ := hr.h w hw 0 _ (by rfl)
          cases h
      | some q =>
        have hl := run_loadCells_list (P := c.P) (w := w) q (xs.map bV) (fun j v hj => by
          obtain ⟨q', h, h'⟩ := hr.h w hw j v hj
          simp only [Option.some.injEq] at h
          subst h
          exact h')
        rw [List.length_map, hn] at hl
        have hm : xs.map bV = (xs.map fun b => (b.toNat : Int)).map (Value.int .u8) := by rw [List.map_map]; rfl
        rw [hm] at hl
        rw [run_bytesToString w q n cp _ hl]
        have := push_bytes xs []
        rw [List.nil_append] at this
        exact congrArg (fun b => Result.ok (Value.string b) w) this
    rw [hb] at hcv
    simp [execOp, ha.ev hx, hcv]) rfl hlt rfl hk
/- Pointers beside nil; truth values compared. -/
theorem run_equalP {P : Program} {t E : TypeId} {a : Addr} [HU P t (.pointer E)] (w : World) (d : Nat) : (Op.equalIn (d + 1) t (.pointer (some a)) (.pointer none)).run P w = .ok false w := by
  simp [Op.equalIn, run_under (d := .pointer E)]
theorem run_equalP0 {P : Program} {t E : TypeId} [HU P t (.pointer E)] (w : World) (d : Nat) : (Op.equalIn (d + 1) t (.pointer none) (.pointer none)).run P w = .ok true w := by
  simp [Op.equalIn, run_under (d := .pointer E)]
theorem T.eqlP {x : Operand} {d : Tmp} {t u E : TypeId} {a : Addr} [HU c.P t (.pointer E)] (hx : ev e x = some (.pointer (some a))) (hlt : Nat.blt d c.fn.ntmps = true) (hk : Sr q c ds H ops l κ ((d, .bool false) :: e)) : Sr q c ds H ops (⟨some d, .binOp .eql t x (.const (.pointer none)) u, ty, pos, aft, none⟩ :: l) κ e :=
  Sr.p (fun w ac _ ha => by
    have h := run_equalP (P := c.P) (t := t) (E := E) (a := a) w 9999
    have h2 : ac.eval (.const (.pointer none)) = .pointer none := rfl
    simp only [execOp, ha.ev hx, h2, eqGuard, binOp, Op.equal, Op.maxDepth]
    simp [h]) rfl hlt rfl hk
theorem T.eqlP0 {x : Operand} {d : Tmp} {t u E : TypeId} [HU c.P t (.pointer E)] (hx : ev e x = some (.pointer none)) (hlt : Nat.blt d c.fn.ntmps = true) (hk : Sr q c ds H ops l κ ((d, .bool true) :: e)) : Sr q c ds H ops (⟨some d, .binOp .eql t x (.const (.pointer none)) u, ty, pos, aft, none⟩ :: l) κ e :=
  Sr.p (fun w ac _ ha => by
    have h := run_equalP0 (P := c.P) (t := t) (E := E) w 9999
    have h2 : ac.eval (.const (.pointer none)) = .pointer none := rfl
    simp only [execOp, ha.ev hx, h2, eqGuard, binOp, Op.equal, Op.maxDepth]
    simp [h]) rfl hlt rfl hk
theorem T.neqP {x : Operand} {d : Tmp} {t u E : TypeId} {a : Addr} [HU c.P t (.pointer E)] (hx : ev e x = some (.pointer (some a))) (hlt : Nat.blt d c.fn.ntmps = true) (hk : Sr q c ds H ops l κ ((d, .bool true) :: e)) : Sr q c ds H ops (⟨some d, .binOp .neq t x (.const (.pointer none)) u, ty, pos, aft, none⟩ :: l) κ e :=
  Sr.p (fun w ac _ ha => by
    have h := run_equalP (P := c.P) (t := t) (E := E) (a := a) w 9999
    have h2 : ac.eval (.const (.pointer none)) = .pointer none := rfl
    simp only [execOp, ha.ev hx, h2, eqGuard, binOp, Op.equal, Op.maxDepth]
    simp [h]) rfl hlt rfl hk
theorem T.neqP0 {x : Operand} {d : Tmp} {t u E : TypeId} [HU c.P t (.pointer E)] (hx : ev e x = some (.pointer none)) (hlt : Nat.blt d c.fn.ntmps = true) (hk : Sr q c ds H ops l κ ((d, .bool false) :: e)) : Sr q c ds H ops (⟨some d, .binOp .neq t x (.const (.pointer none)) u, ty, pos, aft, none⟩ :: l) κ e :=
  Sr.p (fun w ac _ ha => by
    have h := run_equalP0 (P := c.P) (t := t) (E := E) w 9999
    have h2 : ac.eval (.const (.pointer none)) = .pointer none := rfl
    simp only [execOp, ha.ev hx, h2, eqGuard, binOp, Op.equal, Op.maxDepth]
    simp [h]) rfl hlt rfl hk
theorem T.eqlB {x y : Operand} {d : Tmp} {m n : Bool} {t u : TypeId} [HU c.P t .bool] (hx : ev e x = some (.bool m)) (hy : ev e y = some (.bool n)) (hlt : Nat.blt d c.fn.ntmps = true) (hk : Sr q c ds H ops l κ ((d, .bool (m == n)) :: e)) : Sr q c ds H ops (⟨some d, .binOp .eql t x y u, ty, pos, aft, none⟩ :: l) κ e := Sr.p (Pu.eqlB hx hy) rfl hlt rfl hk
theorem T.neqB {x y : Operand} {d : Tmp} {m n : Bool} {t u : TypeId} [HU c.P t .bool] (hx : ev e x = some (.bool m)) (hy : ev e y = some (.bool n)) (hlt : Nat.blt d c.fn.ntmps = true) (hk : Sr q c ds H ops l κ ((d, .bool (!(m == n))) :: e)) : Sr q c ds H ops (⟨some d, .binOp .neq t x y u, ty, pos, aft, none⟩ :: l) κ e := Sr.p (Pu.neqB hx hy) rfl hlt rfl hk
end
/- Rising names. -/
theorem before_lt : ∀ a b : List UInt8, bytesBefore a b = decide (a < b)
  | [], [] => rfl
  | [], _ :: _ => by simp [bytesBefore]
  | _ :: _, [] => by simp [bytesBefore]
  | x :: a, y :: b => by
    rw [bytesBefore, before_lt a b]
    by_cases h : x < y
    · simp [h, List.cons_lt_cons_iff]
    · simp [h, List.cons_lt_cons_iff]
      by_cases h2 : x = y <;> simp [h2]
def Rise (m : Ents) : Prop := m.Pairwise fun p q => p.1 < q.1
theorem lt_irr (a : List UInt8) : ¬ a < a := List.lt_irrefl a
theorem Rise.once {m : Ents} (h : Rise m) : Once m := h.imp fun {p q} hpq => (fun he => lt_irr q.1 (by rw [he] at hpq; exact hpq) : p.1 ≠ q.1)
theorem S.rise {c : Ctx} {ds : List Deferred} {H : List Res} {e : Env} {k' : List Item} {b n : Nat} {m : Ents} {k E : TypeId} [HU c.P k .string] (hm : InE H b (mapQ c.P k E n (mapD m))) (h : Rise m → S c ds H k' e) : S c ds H k' e := by
  unfold S at h ⊢
  intro w a hw ha hd
  refine h ?_ w a hw ha hd
  obtain ⟨es, clock, _, ft, _, h1⟩ := mapQ_iff.1 (hw.res _ hm.h)
  have K : Maps.Keyed c.P k := Maps.string_keyed (HU.h (P := c.P) (t := k))
  have h2 := Maps.sorted_sorted K.one _ (Maps.fit_keys ft) (Maps.fit_apart K ft)
  unfold mapD at h1
  simp only [DataW.map.injEq] at h1
  rw [← h1, List.pairwise_map] at h2
  refine h2.imp fun {p q} hpq => ?_
  have : bytesBefore p.1 q.1 = true := hpq
  rw [before_lt] at this
  exact of_decide_eq_true this
theorem strKeys_mapD (m : Ents) : strKeys (mapD m) = m.map (·.1) := by
  unfold mapD
  rw [strKeys, List.map_map]
  rfl
theorem sort_keys {m : Ents} (hr : Rise m) {ss : List (List UInt8)} (hp : ss.Perm (m.map (·.1))) : ss.mergeSort leB = m.map (·.1) := by
  rw [mergeSort_of_perm hp]
  refine List.mergeSort_of_pairwise (List.pairwise_map.2 (hr.imp fun {p q} h => ?_))
  simp only [leB, decide_eq_true_eq]
  exact List.le_of_lt h
end Sg
