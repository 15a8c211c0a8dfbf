/- Slices of records handed in, opened; for every program. -/
import Derived.Test.YtcojlgkfkifhmaaLaw
import Derived.DataReads
namespace Sg
open Go Go.ChangeShapes Go.WideShapes Go.RowKit
theorem list_of {α : Type} {Q : Nat → α → Prop} : ∀ (n : Nat), (∀ i, i < n → ∃ a, Q i a) → ∃ xs : List α, xs.length = n ∧ ∀ i a, xs[i]? = some a → Q i a
  | 0, _ => ⟨[], rfl, fun i a h => by simp at h⟩
  | n + 1, h => by
    obtain ⟨xs, h1, h2⟩ := list_of n (fun i hi => h i (by omega))
    obtain ⟨a, ha⟩ := h n (by omega)
    refine ⟨xs ++ [a], by simp [h1], fun i b hb => ?_⟩
    by_cases hi : i < xs.length
    · rw [List.getElem?_append_left hi] at hb
      exact h2 i b hb
    · have hl := (List.getElem?_eq_some_iff.1 hb).1
      simp only [List.length_append, List.length_cons, List.length_nil] at hl
      have hie : i = xs.length := by omega
      subst hie
      rw [List.getElem?_append_right (Nat.le_refl _), Nat.sub_self, List.getElem?_cons_zero, Option.some.injEq] at hb
      subst hb
      rw [h1]
      exact ha
theorem add_add (a : Addr) (x y : Nat) : a.add (x + y) = (a.add x).add y := by
  unfold Addr.add
  by_cases hx : x = 0
  · subst hx
    simp
  · by_cases hy : y = 0
    · subst hy
      simp
    · simp [hx, hy, Nat.add_assoc]
theorem open_slice_recs {H : Type} {enc : TypeId × Value → H} {P : Program} {W : World} {b0 sz : Nat} {t e : TypeId} {α : Type} [Inhabited α] {g : α → List Value} {v : Value} {d : DataW H} {ps : List MemPlace} (hg : ∀ a, (g a).length = sz) (hs : 0 < sz)
    (hel : ∀ {n : Nat} {cs : List Value} {x : DataW H × List MemPlace}, DataW.trod enc P W 0 (fun _ => true) true n e cs = some x → ∃ a, cs = g a)
    (ht : P.underlying t = some (.slice e)) (hc : P.cellsOf e = sz) (hval : Value.okWide P W .any b0 t v) (hd : DataW.Trod enc P W 0 (fun _ => true) true t v d ps) :
    ∃ (ad : Option Addr) (cp : Nat) (xs : List α), v = .slice ad xs.length cp ∧ xs.length ≤ cp ∧ (cp = 0 ∨ ∃ el sp, d = .slice el sp ∧ el.length + sp.length = cp) ∧ ∀ H', Rd W [] H' ad (xs.flatMap g) := by
  obtain ⟨ad, len, cap, rfl⟩ := okWide_slice ht hval
  obtain ⟨fuel, hf⟩ := hd
  rcases DataW.trod_slice ht hf with ⟨hcs, hx⟩ | ⟨a, len', cap', elems, rest, n, _, hcs, hx, _, hl, _, hlen, hele, hsp, _⟩
  · simp only [Value.cells, List.cons.injEq, Value.slice.injEq, and_true] at hcs
    obtain ⟨rfl, rfl, rfl⟩ := hcs
    exact ⟨none, 0, [], rfl, Nat.le_refl _, .inl rfl, fun H' => .ofF fun j u hu => by simp at hu⟩
  · simp only [Value.cells, List.cons.injEq, Value.slice.injEq, and_true] at hcs
    obtain ⟨rfl, rfl, rfl⟩ := hcs
    simp only [Prod.mk.injEq] at hx
    obtain ⟨hr1, _⟩ := hsp rfl
    obtain ⟨xs, hxl, hxs⟩ := list_of (Q := fun i x => W.cells? 0 (a.add (i * P.cellsOf e)) (P.cellsOf e) = some (g x)) len (fun i hi => by
      have h := hele i hi
      rw [List.getElem?_eq_getElem (by omega), Option.bind_eq_some_iff] at h
      obtain ⟨cs, h1, h2⟩ := h
      obtain ⟨x, rfl⟩ := hel h2
      exact ⟨x, h1⟩)
    refine ⟨some a, cap, xs, by rw [hxl], by omega, .inr ⟨_, _, hx.1, ?_⟩, fun H' => .ofF fun j u hu => ⟨a, rfl, ?_⟩⟩
    · simp only [List.length_map]
      omega
    · rw [hc] at hxs
      have hj := (List.getElem?_eq_some_iff.1 hu).1
      rw [flat_len hg] at hj
      have hi : j / sz < xs.length := Nat.div_lt_of_lt_mul (by rwa [Nat.mul_comm])
      have hr : j % sz < sz := Nat.mod_lt _ hs
      have hje : j = j / sz * sz + j % sz := by rw [Nat.mul_comm]; exact (Nat.div_add_mod j sz).symm
      have hq := hxs (j / sz) (xs.getD (j / sz) default) (by rw [List.getD_eq_getElem?_getD, List.getElem?_eq_getElem hi]; rfl)
      rw [hje, flat_get hg hi hr] at hu
      unfold World.cells? at hq
      rw [if_pos (Nat.zero_le _)] at hq
      have h3 := mapM_some_get hq (j % sz) (j % sz) (by simp [hr])
      rw [hu] at h3
      rw [hje, ← h3]
      congr 1
      exact add_add a _ _
end Sg
