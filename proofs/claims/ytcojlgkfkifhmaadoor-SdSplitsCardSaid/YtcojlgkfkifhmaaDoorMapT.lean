/- Rules on maps, in the form that walks apply. -/
import Derived.Test.YtcojlgkfkifhmaaDoorMap
namespace Sg
open Go Go.RowKit
section
variable {c : Ctx} {dr : Bool} {ds : List Deferred} {H : List Res} {e : Env} {ops : Array Oper} {l : List Oper} {κ : List Res → Env → Prop} {ty : TypeId} {pos : String} {aft : Array Edge} {q : Mode}
theorem T.mapLook {x y : Operand} {d : Tmp} {b n : Nat} {m : Ents} {kk : List UInt8} {t k E : TypeId} [HU c.P t (.map k E)] [HU c.P k .string] [HU c.P E (.int .i64)] {sz by_ : Nat} [HI c.P E (.int .i64 0) sz by_] (hx : ev e x = some (.map (some b))) (hy : ev e y = some (sV kk)) (hm : InE H b (mapQ c.P k E n (mapD m))) (hl : kk.length ≤ maxLen) (hlt : Nat.blt d c.fn.ntmps = true)
    (hk : Sr q c ds H ops l κ ((d, .int .i64 ((eget m kk).getD 0)) :: e)) : Sr q c ds H ops (⟨some d, .lookup t x y false, ty, pos, aft, none⟩ :: l) κ e := Sr.p (Pu.mapLook (k := k) (E := E) (sz := sz) (by_ := by_) hx hy hl hm) rfl hlt rfl hk
theorem T.mapOk {x y : Operand} {d : Tmp} {b n : Nat} {m : Ents} {kk : List UInt8} {t k E : TypeId} [HU c.P t (.map k E)] [HU c.P k .string] [HU c.P E (.int .i64)] {sz by_ : Nat} [HI c.P E (.int .i64 0) sz by_] (hx : ev e x = some (.map (some b))) (hy : ev e y = some (sV kk)) (hm : InE H b (mapQ c.P k E n (mapD m))) (hl : kk.length ≤ maxLen) (hlt : Nat.blt d c.fn.ntmps = true)
    (hk : Sr q c ds H ops l κ ((d, .tuple ⟨[.int .i64 ((eget m kk).getD 0), .bool (eget m kk).isSome]⟩) :: e)) : Sr q c ds H ops (⟨some d, .lookup t x y true, ty, pos, aft, none⟩ :: l) κ e := Sr.p (Pu.mapOk (k := k) (E := E) (sz := sz) (by_ := by_) hx hy hl hm) rfl hlt rfl hk
theorem T.mapLen {x : Operand} {d : Tmp} {b n : Nat} {m : Ents} {t k E : TypeId} [HU c.P t (.map k E)] (hx : ev e x = some (.map (some b))) (hm : InE H b (mapQ c.P k E n (mapD m))) (hlt : Nat.blt d c.fn.ntmps = true)
    (hk : Sr q c ds H ops l κ ((d, .int .i64 (m.length : Nat)) :: e)) : Sr q c ds H ops (⟨some d, .call ⟨.builtin .len, #[x], #[t]⟩, ty, pos, aft, none⟩ :: l) κ e := Sr.p (Pu.mapLen (k := k) (E := E) hx hm) rfl hlt rfl hk
theorem T.mapEntry {x : Operand} {d : Tmp} {b r n : Nat} {D : D0} {left : Lit → Bool} {cnt : Nat} {kk : List UInt8} {z : Int} {k E : TypeId} (hx : ev e x = some (.pointer (some ⟨r, 0, none⟩))) (hlt : Nat.blt d c.fn.ntmps = true)
    (hk : Sr q c ds (.ex2 b r (curQ c.P k E b r n D left cnt kk z) :: H) ops l κ ((d, .tuple ⟨[sV kk, .int .i64 z]⟩) :: e)) : Sr q c ds (.ex2 b r (curQ c.P k E b r n D left cnt kk z) :: H) ops (⟨some d, .entry x, ty, pos, aft, none⟩ :: l) κ e := Sr.p (Pu.mapEntry hx) rfl hlt rfl hk
theorem T.mapMake {d : Tmp} {t k E : TypeId} [HU c.P t (.map k E)] (hlt : Nat.blt d c.fn.ntmps = true) (hk : ∀ b, Sr (.eff dr) c ds (.ex b (mapQ c.P k E 0 (mapD [])) :: H) ops l κ ((d, .map (some b)) :: e)) : Sr (.eff dr) c ds H ops (⟨some d, .makeMap t none, ty, pos, aft, none⟩ :: l) κ e :=
  Sr.eff (Ef.mapMake (k := k) (E := E)) hlt rfl fun v H' ⟨b, hv, hH⟩ => by
    subst hv hH
    exact hk b
theorem T.mapPut {x y u : Operand} {b n : Nat} {m : Ents} {kk : List UInt8} {z : Int} {t k E : TypeId} [HU c.P t (.map k E)] [HU c.P k .string] [HU c.P E (.int .i64)] (hx : ev e x = some (.map (some b))) (hy : ev e y = some (sV kk)) (hu : ev e u = some (.int .i64 z)) (hl : kk.length ≤ maxLen) (hn : n < maxLen) (hz : (Lit.int .i64 z).wf = true)
    (hk : Sr (.eff dr) c ds (.ex b (mapQ c.P k E (n + 1) (mapD (eput m kk z))) :: H) ops l κ e) : Sr (.eff dr) c ds (.ex b (mapQ c.P k E n (mapD m)) :: H) ops (⟨none, .mapUpdate t x y u, ty, pos, aft, none⟩ :: l) κ e :=
  Sr.eff (Ef.mapPut (k := k) (E := E) hx hy hu hl hn hz) rfl rfl fun v H' ⟨hv, hH⟩ => by
    subst hv hH
    exact hk
theorem T.mapDel {x y : Operand} {b n : Nat} {m : Ents} {kk : List UInt8} {t k E : TypeId} [HU c.P t (.map k E)] [HU c.P k .string] (hx : ev e x = some (.map (some b))) (hy : ev e y = some (sV kk)) (hl : kk.length ≤ maxLen)
    (hk : Sr (.eff dr) c ds (.ex b (mapQ c.P k E n (mapD (edel m kk))) :: H) ops l κ e) : Sr (.eff dr) c ds (.ex b (mapQ c.P k E n (mapD m)) :: H) ops (⟨none, .call ⟨.builtin .delete, #[x, y], #[t, k]⟩, ty, pos, aft, none⟩ :: l) κ e :=
  Sr.eff (Ef.mapDel (k := k) (E := E) hx hy hl) rfl rfl fun v H' ⟨hv, hH⟩ => by
    subst hv hH
    exact hk
theorem T.mapRange {x : Operand} {d : Tmp} {b n : Nat} {m : Ents} {t k E : TypeId} [HU c.P t (.map k E)] [HU c.P k .string] (hx : ev e x = some (.map (some b))) (hlt : Nat.blt d c.fn.ntmps = true)
    (hk : ∀ r, Sr (.eff dr) c ds (.ex2 b r (rngQ c.P k E b n (mapD m) (Maps.has (mapD m)) m.length) :: H) ops l κ ((d, .pointer (some ⟨r, 0, none⟩)) :: e)) : Sr (.eff dr) c ds (.ex b (mapQ c.P k E n (mapD m)) :: H) ops (⟨some d, .range t x, ty, pos, aft, none⟩ :: l) κ e :=
  Sr.eff (Ef.mapRange (k := k) (E := E) hx) hlt rfl fun v H' ⟨r, hv, hH⟩ => by
    subst hv hH
    exact hk r
theorem T.mapNext {x : Operand} {d : Tmp} {b r n : Nat} {m : Ents} {left : Lit → Bool} {cnt : Nat} {k E : TypeId} [HU c.P k .string] [HU c.P E (.int .i64)] (hx : ev e x = some (.pointer (some ⟨r, 0, none⟩))) (hlt : Nat.blt d c.fn.ntmps = true)
    (h0 : (∀ kl, left kl = false) → Sr (.eff dr) c ds (.ex2 b r (rngQ c.P k E b n (mapD m) left cnt) :: H) ops l κ ((d, .tuple #[.bool false]) :: e))
    (h1 : ∀ kk z cnt', left (.string kk) = true → eget m kk = some z → kk.length ≤ maxLen → cnt' < cnt → Sr (.eff dr) c ds (.ex2 b r (curQ c.P k E b r n (mapD m) (fun l => left l && !l.sameKey (.string kk)) cnt' kk z) :: H) ops l κ ((d, .tuple #[.bool true, sV kk, .int .i64 z]) :: e)) :
    Sr (.eff dr) c ds (.ex2 b r (rngQ c.P k E b n (mapD m) left cnt) :: H) ops (⟨some d, .next x false, ty, pos, aft, none⟩ :: l) κ e :=
  Sr.eff (Ef.mapNext (k := k) (E := E) hx) hlt rfl fun v H' hK => by
    rcases hK with ⟨hv, hl, hH⟩ | ⟨kk, z, cnt', hv, a1, a2, a3, a4, hH⟩
    · subst hv hH
      exact h0 hl
    · subst hv hH
      exact h1 kk z cnt' a1 a2 a3 a4
theorem T.mapRangeDel {x y : Operand} {b r n : Nat} {m : Ents} {left : Lit → Bool} {cnt : Nat} {kk : List UInt8} {t k E : TypeId} [HU c.P t (.map k E)] [HU c.P k .string] (hx : ev e x = some (.map (some b))) (hy : ev e y = some (sV kk)) (hl : kk.length ≤ maxLen)
    (hk : ∀ cnt', cnt' ≤ cnt → Sr (.eff dr) c ds (.ex2 b r (rngQ c.P k E b n (mapD (edel m kk)) (fun l => left l && !l.sameKey (.string kk)) cnt') :: H) ops l κ e) : Sr (.eff dr) c ds (.ex2 b r (rngQ c.P k E b n (mapD m) left cnt) :: H) ops (⟨none, .call ⟨.builtin .delete, #[x, y], #[t, k]⟩, ty, pos, aft, none⟩ :: l) κ e :=
  Sr.eff (Ef.mapRangeDel (k := k) (E := E) hx hy hl) rfl rfl fun v H' ⟨hv, cnt', hc, hH⟩ => by
    subst hv hH
    exact hk cnt' hc
theorem S.uncur {k' : List Item} {b r n : Nat} {D : D0} {left : Lit → Bool} {cnt : Nat} {kk : List UInt8} {z : Int} {k E : TypeId} (h : S c ds (.ex2 b r (rngQ c.P k E b n D left cnt) :: H) k' e) : S c ds (.ex2 b r (curQ c.P k E b r n D left cnt kk z) :: H) k' e := h.weaken fun _ hw => hw.uncur
theorem Sr.uncur {b r n : Nat} {D : D0} {left : Lit → Bool} {cnt : Nat} {kk : List UInt8} {z : Int} {k E : TypeId} (h : Sr (.eff dr) c ds (.ex2 b r (rngQ c.P k E b n D left cnt) :: H) ops l κ e) : Sr (.eff dr) c ds (.ex2 b r (curQ c.P k E b r n D left cnt kk z) :: H) ops l κ e := h.weaken fun _ hw => hw.uncur
theorem S.unrange {k' : List Item} {b r n : Nat} {D : D0} {left : Lit → Bool} {cnt : Nat} {k E : TypeId} (h : S c ds (.ex b (mapQ c.P k E n D) :: H) k' e) : S c ds (.ex2 b r (rngQ c.P k E b n D left cnt) :: H) k' e := h.weaken fun _ hw => hw.unrange
theorem mapQ_tight {P : Program} {k E : TypeId} {n : Nat} {m : Ents} {o : Obj} (h : mapQ P k E n (mapD m) o) : mapQ P k E m.length (mapD m) o := by
  obtain ⟨es, clock, h1, h2, h3, h4⟩ := h
  refine ⟨es, clock, h1, h2, ?_, h4⟩
  have h5 := congrArg Maps.size h4
  rw [mapD_size] at h5
  rw [h5, Maps.size_eq, length_sorted, List.length_map, Array.length_toList]
  exact Nat.le_refl _
theorem S.tight {k' : List Item} {b n : Nat} {m : Ents} {k E : TypeId} (h : S c ds (.ex b (mapQ c.P k E m.length (mapD m)) :: H) k' e) : S c ds (.ex b (mapQ c.P k E n (mapD m)) :: H) k' e := h.weaken fun _ hw =>
  hw.weakB (fun _ h => h) hw.nd fun q hq => by
    rcases List.mem_cons.1 hq with rfl | hq
    · obtain ⟨o, h1, h2⟩ := hw.res _ (List.mem_cons_self ..)
      exact ⟨o, h1, mapQ_tight h2⟩
    · exact hw.res q (List.mem_cons_of_mem _ hq)
theorem St.tight {F : World} {M : List Nat} {w : World} {P : Program} {b n : Nat} {m : Ents} {k E : TypeId} (hw : St F M w (.ex b (mapQ P k E n (mapD m)) :: H)) : St F M w (.ex b (mapQ P k E m.length (mapD m)) :: H) :=
  hw.weakB (fun _ h => h) hw.nd fun q hq => by
    rcases List.mem_cons.1 hq with rfl | hq
    · obtain ⟨o, h1, h2⟩ := hw.res _ (List.mem_cons_self ..)
      exact ⟨o, h1, mapQ_tight h2⟩
    · exact hw.res q (List.mem_cons_of_mem _ hq)
theorem Sr.tight {b n : Nat} {m : Ents} {k E : TypeId} (h : Sr (.eff dr) c ds (.ex b (mapQ c.P k E m.length (mapD m)) :: H) ops l κ e) : Sr (.eff dr) c ds (.ex b (mapQ c.P k E n (mapD m)) :: H) ops l κ e := h.weaken fun _ hw => hw.tight
theorem T.mapPutT {x y u : Operand} {b n : Nat} {m : Ents} {kk : List UInt8} {z : Int} {t k E : TypeId} [HU c.P t (.map k E)] [HU c.P k .string] [HU c.P E (.int .i64)] (hx : ev e x = some (.map (some b))) (hy : ev e y = some (sV kk)) (hu : ev e u = some (.int .i64 z)) (hl : kk.length ≤ maxLen) (hn : n < maxLen) (hz : (Lit.int .i64 z).wf = true)
    (hk : Sr (.eff dr) c ds (.ex b (mapQ c.P k E (eput m kk z).length (mapD (eput m kk z))) :: H) ops l κ e) : Sr (.eff dr) c ds (.ex b (mapQ c.P k E n (mapD m)) :: H) ops (⟨none, .mapUpdate t x y u, ty, pos, aft, none⟩ :: l) κ e :=
  T.mapPut (k := k) (E := E) hx hy hu hl hn hz hk.tight
theorem S.endRange {k' : List Item} {b r n : Nat} {m : Ents} {left : Lit → Bool} {cnt : Nat} {k E : TypeId} (h : S c ds (.ex b (mapQ c.P k E m.length (mapD m)) :: H) k' e) : S c ds (.ex2 b r (rngQ c.P k E b n (mapD m) left cnt) :: H) k' e := S.unrange (S.tight h)
/-- Each name once. -/
def Once (m : Ents) : Prop := m.Pairwise fun p q => p.1 ≠ q.1
theorem S.once {k' : List Item} {b n : Nat} {m : Ents} {k E : TypeId} [HU c.P k .string] (hm : InE H b (mapQ c.P k E n (mapD m))) (h : Once m → S c ds H k' e) : S c ds H k' e := by
  unfold S at h ⊢
  intro w a hw ha hd
  refine h ?_ w a hw ha hd
  obtain ⟨es, h1, h2, _⟩ := (mapQ_iff.1 (hw.res _ hm.h)).entries (Maps.string_keyed (HU.h (P := c.P) (t := k)))
  unfold mapD at h1
  simp only [DataW.map.injEq] at h1
  subst h1
  rw [List.pairwise_map] at h2
  exact h2.imp fun {p q} hpq he => hpq (by unfold entD; simp only [he])
theorem once_get {m : Ents} (h : Once m) {p : List UInt8 × Int} (hp : p ∈ m) : eget m p.1 = some p.2 := by
  unfold eget
  induction m with
  | nil => cases hp
  | cons x m ih =>
    obtain ⟨h1, h2⟩ := List.pairwise_cons.1 h
    rw [List.find?_cons]
    rcases List.mem_cons.1 hp with rfl | hp
    · simp
    · have : (x.1 == p.1) = false := by simpa using h1 p hp
      rw [this]
      exact ih h2 hp
theorem range_keep {m : Ents} {left : Lit → Bool} {now z : Int} {kk : List UInt8} (ho : Once m) (hl : left (.string kk) = true) (hg : eget (m.filter fun p => left (.string p.1) || decide (now ≤ p.2)) kk = some z) (hz : now ≤ z) :
    (m.filter fun p => left (.string p.1) || decide (now ≤ p.2)) = m.filter fun p => (left (.string p.1) && !(Lit.string p.1).sameKey (.string kk)) || decide (now ≤ p.2) := by
  refine List.filter_congr fun p hp => ?_
  show _ = ((left (.string p.1) && !(p.1 == kk)) || decide (now ≤ p.2))
  by_cases he : p.1 = kk
  · subst he
    have hm : p ∈ m.filter fun p => left (.string p.1) || decide (now ≤ p.2) := List.mem_filter.2 ⟨hp, by simp [hl]⟩
    have := once_get (ho.filter _) hm
    rw [hg] at this
    simp only [Option.some.injEq] at this
    rw [← this]
    simp [hl, hz]
  · have : (p.1 == kk) = false := by simpa using he
    rw [this]
    simp
theorem range_drop {m : Ents} {left : Lit → Bool} {now z : Int} {kk : List UInt8} (ho : Once m) (hl : left (.string kk) = true) (hg : eget (m.filter fun p => left (.string p.1) || decide (now ≤ p.2)) kk = some z) (hz : ¬ now ≤ z) :
    edel (m.filter fun p => left (.string p.1) || decide (now ≤ p.2)) kk = m.filter fun p => ((left (.string p.1) && !(Lit.string p.1).sameKey (.string kk)) && !(Lit.string p.1).sameKey (.string kk)) || decide (now ≤ p.2) := by
  unfold edel
  rw [List.filter_filter]
  refine List.filter_congr fun p hp => ?_
  show ((!(p.1 == kk)) && (left (.string p.1) || decide (now ≤ p.2))) = (((left (.string p.1) && !(p.1 == kk)) && !(p.1 == kk)) || decide (now ≤ p.2))
  by_cases he : p.1 = kk
  · subst he
    have hm : p ∈ m.filter fun p => left (.string p.1) || decide (now ≤ p.2) := List.mem_filter.2 ⟨hp, by simp [hl]⟩
    have := once_get (ho.filter _) hm
    rw [hg] at this
    simp only [Option.some.injEq] at this
    rw [← this]
    simp [hz]
  · have : (p.1 == kk) = false := by simpa using he
    rw [this]
    simp
end
end Sg
