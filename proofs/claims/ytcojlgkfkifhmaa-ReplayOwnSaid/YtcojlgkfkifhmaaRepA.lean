/- The walks of the program's book: the small functions. -/
import Derived.Test.YtcojlgkfkifhmaaFacts
import Derived.Test.YtcojlgkfkifhmaaMapT
namespace Go.Proofs.Ytcojlgkfkifhmaa
open Sg Go.IntWalk
set_option maxRecDepth 100000
set_option maxHeartbeats 1000000
/-- A book: a clock, if it has one, and its map. -/
structure Bk where
  has : Bool
  last : Int
  ends : Ents
abbrev bkV (mb : Nat) (k : Bk) : List Value := [.bool k.has, .int .i64 k.last, .map (some mb)]
abbrev bkM (mb : Nat) (k : Bk) : Res := .ex mb (mapQ Try.prog 9 2 k.ends.length (mapD k.ends))
theorem new_spec {F : World} {M : List Nat} {H : List Res} : Meets Try.prog 11 [] F M H (fun e H' => ∃ p mb, e = .returned (.pointer (some ⟨p, 0, none⟩)) ∧ H' = .blk p (bkV mb ⟨false, 0, []⟩) 63 :: bkM mb ⟨false, 0, []⟩ :: H) := by
  refine Meets.enter Try.func11 rfl rfl ?_
  repeat' (first | ((with_reducible apply T.mapMake); apply rfl; intro mb) | ((with_reducible apply T.asn); apply rfl; apply rfl) | ((with_reducible apply T.buildL); apply rfl; apply rfl; apply rfl) | ((with_reducible apply T.box); apply rfl; apply rfl; intro nb) | with_reducible refine Sr.nil ?_ | with_reducible refine S.seq ?_ | with_reducible refine S.reg ?_ | ((with_reducible apply T.retW); apply rfl) | fail)
  exact ⟨_, PSub.refl _, nb, mb, rfl, rfl⟩
theorem has_spec {F : World} {M : List Nat} {H : List Res} {p mb : Nat} {k : Bk} {name : List UInt8} (hn : name.length ≤ maxLen) : Meets Try.prog 24 [.pointer (some ⟨p, 0, none⟩), sV name] F M (.blk p (bkV mb k) 63 :: bkM mb k :: H) (fun e H' => e = .returned (.bool (eget k.ends name).isSome) ∧ H' = .blk p (bkV mb k) 63 :: bkM mb k :: H) := by
  refine Meets.enter Try.func24 rfl rfl ?_
  repeat' (first | ((with_reducible apply T.mapOk); apply rfl; apply rfl; infer_instance; (first | assumption | (simp only [maxLen]; omega) | omega); apply rfl) | ((with_reducible apply T.mv); apply rfl; apply rfl) | ((with_reducible apply T.asn); apply rfl; apply rfl) | ((with_reducible apply T.nilCheck); apply rfl; apply rfl) | ((with_reducible apply T.fieldAddrZ); apply rfl; apply rfl) | ((with_reducible apply T.load); apply rfl; apply rfl; infer_instance; apply rfl; apply rfl) | ((with_reducible apply T.extract); apply rfl; apply rfl; apply rfl) | with_reducible refine Sr.nil ?_ | with_reducible refine S.seq ?_ | with_reducible refine S.reg ?_ | ((with_reducible apply T.retW); apply rfl) | fail)
  exact ⟨_, PSub.refl _, rfl, rfl⟩
theorem len_spec {F : World} {M : List Nat} {H : List Res} {p mb : Nat} {k : Bk} : Meets Try.prog 28 [.pointer (some ⟨p, 0, none⟩)] F M (.blk p (bkV mb k) 63 :: bkM mb k :: H) (fun e H' => e = .returned (.int .i64 (k.ends.length : Nat)) ∧ H' = .blk p (bkV mb k) 63 :: bkM mb k :: H) := by
  refine Meets.enter Try.func28 rfl rfl ?_
  repeat' (first | ((with_reducible apply T.mapLen); apply rfl; infer_instance; apply rfl) | ((with_reducible apply T.mv); apply rfl; apply rfl) | ((with_reducible apply T.asn); apply rfl; apply rfl) | ((with_reducible apply T.nilCheck); apply rfl; apply rfl) | ((with_reducible apply T.fieldAddrZ); apply rfl; apply rfl) | ((with_reducible apply T.load); apply rfl; apply rfl; infer_instance; apply rfl; apply rfl) | with_reducible refine Sr.nil ?_ | with_reducible refine S.seq ?_ | with_reducible refine S.reg ?_ | ((with_reducible apply T.retW); apply rfl) | fail)
  exact ⟨_, PSub.refl _, rfl, rfl⟩
theorem last_spec {F : World} {M : List Nat} {H : List Res} {p mb : Nat} {k : Bk} : Meets Try.prog 27 [.pointer (some ⟨p, 0, none⟩)] F M (.blk p (bkV mb k) 63 :: bkM mb k :: H) (fun e H' => e = .returned (.tuple ⟨[.int .i64 k.last, .bool k.has]⟩) ∧ H' = .blk p (bkV mb k) 63 :: bkM mb k :: H) := by
  refine Meets.enter Try.func27 rfl rfl ?_
  refine S.seq ?_
  repeat' (first | ((with_reducible apply T.asn); apply rfl; apply rfl) | with_reducible refine Sr.nil ?_ | with_reducible refine S.reg ?_ | fail)
  refine S.seq ?_
  ((with_reducible apply S.draw); (case Hs => exact H); (case es => exact  []); (case n => exact  10); (case hn => rfl))
  repeat' (first | ((with_reducible apply T.mv); apply rfl; apply rfl) | ((with_reducible apply T.asn); apply rfl; apply rfl) | ((with_reducible apply T.nilCheck); apply rfl; apply rfl) | ((with_reducible apply T.fieldAddrZ); apply rfl; apply rfl) | ((with_reducible apply T.load); apply rfl; apply rfl; infer_instance; apply rfl; apply rfl) | with_reducible refine Sr.nil ?_ | ((with_reducible apply T.retW); apply rfl) | ((with_reducible apply SA.qn); apply rfl; apply rfl; apply rfl; apply rfl; kernel_rfl) | ((with_reducible apply SA.done); apply rfl; kernel_rfl) | fail)
  exact ⟨_, PSub.refl _, rfl, rfl⟩
/-- A number's bytes, the most significant first. -/
def beN (size n : Nat) : List UInt8 := (List.range size).map fun j => UInt8.ofNat (n / 2 ^ (8 * (size - 1 - j)) % 256)
theorem beN_len (size n : Nat) : (beN size n).length = size := by simp [beN]
theorem beN_at {size n j : Nat} (h : j < size) : (beN size n).getD j 0 = UInt8.ofNat (n / 2 ^ (8 * (size - 1 - j)) % 256) := by simp [beN, List.getD, h]
theorem number_spec {F : World} {M : List Nat} {H : List Res} {n size : Nat} (hn : n < 18446744073709551616) (hs : size ≤ 8) : Meets Try.prog 30 [.int .u64 n, .int .i64 size] F M H (fun e H' => ∃ b, e = .returned (.slice (some ⟨b, 0, none⟩) size size) ∧ H' = .row (some ⟨b, 0, none⟩) size 5 1 size ((beN size n).map bV) :: H) := by
  refine Meets.enter Try.func30 rfl rfl ?_
  repeat' (first | ((with_reducible apply T.mv); apply rfl; apply rfl) | ((with_reducible apply T.asn); apply rfl; apply rfl) | ((with_reducible apply T.len); apply rfl; apply rfl) | ((with_reducible apply T.makeS); apply rfl; apply rfl; apply rfl; (constructor <;> omega); apply rfl; intro nb) | with_reducible refine Sr.nil ?_ | with_reducible refine S.seq ?_ | with_reducible refine S.block ?_ | with_reducible refine S.reg ?_ | fail)
  revert nb
  intro b
  have hrep : List.replicate size (Value.int .u8 0) = (List.replicate size (0 : UInt8)).map bV := by rw [List.map_replicate]; rfl
  rw [hrep]
  skip
  refine S.loopE 1 [0, 1, 5, 10] (fun R b' μ H' e => ∃ (i : Nat) (xs : List UInt8), H' = .row (some ⟨b, 0, none⟩) size 5 1 size (xs.map bV) :: R ∧ e = (11, .int .i64 i) :: b' ∧ (i ≤ size ∧ xs.length = size ∧ ∀ j, j < size → size ≤ j + i → xs.getD j 0 = (beN size n).getD j 0) ∧ μ = size - i) rfl rfl ?_ _ _ ⟨0, List.replicate size 0, rfl, rfl, ⟨by omega, by simp, by omega⟩, rfl⟩ (by repeat' first | exact trivial | refine And.intro rfl ?_)
  rintro _ _ _ ⟨i, xs, rfl, rfl, ⟨h1, h2, h3⟩, rfl⟩ ih
  by_cases hi : i < size
  · have e1 : (size : Int) - 1 - (i : Int) = ((size - 1 - i : Nat) : Int) := by omega
    have e2 : (8 : Int) * (i : Int) = ((8 * i : Nat) : Int) := by omega
    have e3 : ∀ q : Nat, ((q : Nat) : Int) % 256 = ((UInt8.ofNat (q % 256)).toNat : Int) := fun q => by
      rw [UInt8.toNat_ofNat']
      omega
    repeat' (first | ((with_reducible apply T.subI (m := (size : Int) - 1)); apply rfl; apply rfl; omega; apply rfl; rw [e1]) | ((with_reducible apply T.mulI (m := 8)); apply rfl; apply rfl; omega; apply rfl; rw [e2]) | ((with_reducible apply T.shrU64); apply rfl; apply rfl; omega; apply rfl) | ((with_reducible apply T.convMU8); apply rfl; apply rfl; rw [e3]) | ((with_reducible apply T.mv); apply rfl; apply rfl) | ((with_reducible apply T.asn); apply rfl; apply rfl) | ((with_reducible apply T.lss); apply rfl; apply rfl; apply rfl) | ((with_reducible apply T.addI); apply rfl; apply rfl; omega; apply rfl) | ((with_reducible apply T.subI); apply rfl; apply rfl; omega; apply rfl) | ((with_reducible apply T.ixN); apply rfl; apply rfl; infer_instance; omega; (first | omega | (simp only [List.length_map]; omega) | (simp; omega)); apply rfl) | ((with_reducible apply T.storeB); apply rfl; apply rfl; infer_instance; (first | omega | (simp only [List.length_map]; omega) | (simp; omega))) | with_reducible refine Sr.nil ?_ | with_reducible refine S.seq ?_ | with_reducible refine S.block ?_ | with_reducible refine S.reg ?_ | with_reducible refine S.skip ?_ | with_reducible refine S.inBlock ?_ | ((with_reducible apply S.condQ); apply rfl; all_goals (intro _; try (exfalso; omega))) | fail)
    refine ih _ _ _ _ ⟨i + 1, xs.set (size - 1 - i) (UInt8.ofNat (n / 2 ^ (8 * i) % 256)), ?_, rfl, ⟨by omega, by simpa using h2, fun j hj hji => ?_⟩, rfl⟩ (by omega) (by repeat' first | exact trivial | refine And.intro rfl ?_)
    · rfl
    · rw [List.getD_eq_getElem?_getD, List.getElem?_set]
      by_cases hjs : size - 1 - i = j
      · subst hjs
        rw [if_pos rfl, if_pos (by omega), Option.getD_some, beN_at (by omega), show size - 1 - (size - 1 - i) = i by omega]
      · rw [if_neg hjs, ← List.getD_eq_getElem?_getD]
        exact h3 j hj (by omega)
  · obtain rfl : i = size := by omega
    have hx : xs = beN i n := List.ext_getElem (by rw [h2, beN_len]) fun j q1 q2 => by
      have := h3 j (by omega) (by omega)
      simpa [List.getD, q1, q2] using this
    subst hx
    repeat' (first | ((with_reducible apply T.mv); apply rfl; apply rfl) | ((with_reducible apply T.asn); apply rfl; apply rfl) | ((with_reducible apply T.lss); apply rfl; apply rfl; apply rfl) | with_reducible refine Sr.nil ?_ | with_reducible refine S.seq ?_ | with_reducible refine S.reg ?_ | ((with_reducible apply S.exit); apply rfl) | ((with_reducible apply T.retW); apply rfl) | ((with_reducible apply S.condQ); apply rfl; all_goals (intro _; try (exfalso; omega))) | fail)
    exact ⟨_, PSub.refl _, b, rfl, rfl⟩
end Go.Proofs.Ytcojlgkfkifhmaa
