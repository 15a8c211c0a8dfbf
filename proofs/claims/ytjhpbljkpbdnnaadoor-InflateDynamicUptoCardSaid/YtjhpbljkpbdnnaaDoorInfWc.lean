/- The walks of the statements' words, lengths and distances. -/
import Derived.Test.YtjhpbljkpbdnnaaDoorInfWb
namespace Infl
def wl (ls : List Nat) : List Nat := (wordsR ls).map (·.1)
theorem wl_len (ls : List Nat) : (wl ls).length = ls.length := by rw [wl, List.length_map, wordsR_len]
theorem wl_at (ls : List Nat) (s : Nat) : (wl ls).getD s 0 = W ls s := by
  rw [wl, W, List.getD_eq_getElem?_getD, List.getElem?_map, List.getD_eq_getElem?_getD]
  cases (wordsR ls)[s]? <;> rfl
def lbits (s : Nat) : Nat := if s < 8 ∨ s = 28 then 0 else s / 4 - 1
def dbits (s : Nat) : Nat := if s < 4 then 0 else s / 2 - 1
theorem lbits_eq : ∀ s, s < 28 → (extra s 4 3).2 = lbits s := by decide
theorem dbits_eq : ∀ s, s < 30 → (extra s 2 1).2 = dbits s := by decide
theorem lbits_le : ∀ s, s ≤ 28 → lbits s ≤ 5 := by decide
theorem dbits_le : ∀ s, s < 30 → dbits s ≤ 13 := by decide
def lbase (n : Nat) : Nat := if n = 258 then 258 else (extra (lenSy n) 4 3).1
theorem lenEx_eq {n : Nat} (h3 : 3 ≤ n) (h : n ≤ 258) : lenEx n = (n - lbase n, lbits (lenSy n)) ∧ lbase n ≤ n := by
  unfold lenEx lbase
  by_cases h8 : n = 258
  · subst h8
    exact ⟨rfl, by decide⟩
  · have hs := lenSy_spec h3 (by omega)
    rw [if_neg h8, if_neg h8, lbits_eq _ (by omega)]
    exact ⟨rfl, hs.2.1⟩
end Infl
namespace Go.Proofs.YtjhpbljkpbdnnaaDoor
open Sg Go.IntWalk Infl
set_option maxRecDepth 100000
set_option maxHeartbeats 1000000
theorem lengthBits_spec {F : World} {M : List Nat} {H : List Res} {s : Nat} (hs : s ≤ 28) : Meets Tryd.prog 47 [.int .i64 s] F M H (fun e H' => e = .returned (.int .i64 (lbits s)) ∧ H' = H) := by
  refine Meets.enter Tryd.func47 rfl rfl ?_
  have hq : ((s : Nat) : Int).tdiv 4 = ((s / 4 : Nat) : Int) := by rw [Int.tdiv_eq_ediv_of_nonneg (by omega)]; omega
  have e1 : 4 ≤ s → ((s / 4 : Nat) : Int) - 1 = ((s / 4 - 1 : Nat) : Int) := fun h => by omega
  repeat' (first | ((with_reducible apply T.quo (r := ((s / 4 : Nat) : Int))); apply rfl; apply rfl; omega; (rw [hq]; exact i64_in _ (by omega)); apply rfl) | ((with_reducible apply T.subI); apply rfl; apply rfl; omega; apply rfl; rw [e1 (by omega)]) | ((with_reducible apply T.mv); apply rfl; apply rfl) | ((with_reducible apply T.asn); apply rfl; apply rfl) | ((with_reducible apply T.lss); apply rfl; apply rfl; apply rfl) | ((with_reducible apply T.eql); apply rfl; apply rfl; apply rfl) | ((with_reducible apply T.pickT); apply rfl; apply rfl; apply rfl) | ((with_reducible apply T.pickF); apply rfl; apply rfl; apply rfl) | with_reducible refine Sr.nil ?_ | with_reducible refine S.seq ?_ | with_reducible refine S.reg ?_ | with_reducible refine S.skip ?_ | ((with_reducible apply T.ung); apply rfl) | ((with_reducible apply T.skip); apply rfl; apply rfl; apply rfl) | ((with_reducible apply S.condT); apply rfl) | ((with_reducible apply T.retW); apply rfl) | ((with_reducible apply S.condQ); apply rfl; all_goals (intro _; try (exfalso; omega))) | ((with_reducible apply T.gcase); apply rfl; apply rfl; all_goals (intro _; try (exfalso; omega))) | fail)
  · exact ⟨_, PSub.refl _, by rw [lbits, if_pos (by omega)]; rfl, rfl⟩
  · exact ⟨_, PSub.refl _, by rw [lbits, if_pos (by omega)]; rfl, rfl⟩
  · exact ⟨_, PSub.refl _, by rw [lbits, if_neg (by omega)], rfl⟩
theorem distanceBits_spec {F : World} {M : List Nat} {H : List Res} {s : Nat} (hs : s ≤ 30) : Meets Tryd.prog 48 [.int .i64 s] F M H (fun e H' => e = .returned (.int .i64 (dbits s)) ∧ H' = H) := by
  refine Meets.enter Tryd.func48 rfl rfl ?_
  have hq : ((s : Nat) : Int).tdiv 2 = ((s / 2 : Nat) : Int) := by rw [Int.tdiv_eq_ediv_of_nonneg (by omega)]; omega
  have e1 : 4 ≤ s → ((s / 2 : Nat) : Int) - 1 = ((s / 2 - 1 : Nat) : Int) := fun h => by omega
  repeat' (first | ((with_reducible apply T.quo (r := ((s / 2 : Nat) : Int))); apply rfl; apply rfl; omega; (rw [hq]; exact i64_in _ (by omega)); apply rfl) | ((with_reducible apply T.subI); apply rfl; apply rfl; omega; apply rfl; rw [e1 (by omega)]) | ((with_reducible apply T.mv); apply rfl; apply rfl) | ((with_reducible apply T.asn); apply rfl; apply rfl) | ((with_reducible apply T.lss); apply rfl; apply rfl; apply rfl) | with_reducible refine Sr.nil ?_ | with_reducible refine S.seq ?_ | with_reducible refine S.reg ?_ | with_reducible refine S.skip ?_ | ((with_reducible apply T.retW); apply rfl) | ((with_reducible apply S.condQ); apply rfl; all_goals (intro _; try (exfalso; omega))) | fail)
  · exact ⟨_, PSub.refl _, by rw [dbits, if_pos (by omega)]; rfl, rfl⟩
  · exact ⟨_, PSub.refl _, by rw [dbits, if_neg (by omega)], rfl⟩
theorem lengthOf_spec {F : World} {M : List Nat} {H : List Res} {n : Nat} (h3 : 3 ≤ n) (h258 : n ≤ 258) : Meets Tryd.prog 45 [.int .i64 n] F M H (fun e H' => e = .returned (.tuple ⟨[.int .i64 (lenSy n), .int .i64 (lbase n)]⟩) ∧ H' = H) := by
  refine Meets.enter Tryd.func45 rfl rfl ?_
  repeat' (first | ((with_reducible apply T.mv); apply rfl; apply rfl) | ((with_reducible apply T.asn); apply rfl; apply rfl) | ((with_reducible apply T.eql); apply rfl; apply rfl; apply rfl) | with_reducible refine Sr.nil ?_ | with_reducible refine S.seq ?_ | with_reducible refine S.block ?_ | with_reducible refine S.reg ?_ | with_reducible refine S.skip ?_ | ((with_reducible apply T.retW); apply rfl) | ((with_reducible apply S.condQ); apply rfl; all_goals (intro _; try (exfalso; omega))) | fail)
  · have e : n = 258 := by omega
    subst e
    exact ⟨_, PSub.refl _, rfl, rfl⟩
  · have hn : n ≠ 258 := by omega
    have hb : lbase n = (extra (lenSy n) 4 3).1 := if_neg hn
    have hsy : lenSy n = findS 4 3 n 28 0 := if_neg hn
    rw [hb]
    refine S.loopE 0 [0] (fun R b' μ H' e => ∃ s : Nat, H' = R ∧ e = (4, .int .i64 ((extra s 4 3).1 : Nat)) :: (5, .int .i64 s) :: b' ∧ (s ≤ 27 ∧ (extra s 4 3).1 ≤ n ∧ findS 4 3 n (28 - s) s = lenSy n) ∧ μ = 28 - s) rfl rfl ?_ _ _ ⟨0, rfl, rfl, ⟨by omega, by simp [extra]; omega, hsy.symm⟩, rfl⟩ (by repeat' first | exact trivial | refine And.intro rfl ?_)
    rintro _ _ _ ⟨s, rfl, rfl, ⟨h1, h2, h4⟩, rfl⟩ ih
    have hst := lenStep s (by omega)
    have hlb := lbits_eq s (by omega)
    rw [hlb] at hst
    have h8 : 28 - s = (27 - s) + 1 := by omega
    rw [h8, findS, hlb] at h4
    have hle := lbits_le s (by omega)
    have hpow : 1 * 2 ^ lbits s ≤ 32 := by
      have := Nat.pow_le_pow_right (n := 2) (by omega) hle
      omega
    have h28 : s = 27 → (extra (s + 1) 4 3).1 = 259 := fun h => by subst h; rfl
    have hone : 1 * 2 ^ lbits s = 2 ^ lbits s := Nat.one_mul _
    repeat' (first | (refine T.call rfl rfl (lengthBits_spec (by omega)) ?_; rintro _ _ ⟨rfl, rfl⟩) | ((with_reducible apply T.shlI64 (m := 1)); apply rfl; apply rfl; omega; omega; apply rfl) | ((with_reducible apply T.mv); apply rfl; apply rfl) | ((with_reducible apply T.asn); apply rfl; apply rfl) | ((with_reducible apply T.geq); apply rfl; apply rfl; apply rfl) | ((with_reducible apply T.addI); apply rfl; apply rfl; omega; apply rfl) | ((with_reducible apply T.convU64); apply rfl; omega; apply rfl) | with_reducible refine Sr.nil ?_ | with_reducible refine S.seq ?_ | with_reducible refine S.block ?_ | with_reducible refine S.reg ?_ | with_reducible refine S.skip ?_ | with_reducible refine S.inBlock ?_ | ((with_reducible apply S.exit); apply rfl) | ((with_reducible apply T.retW); apply rfl) | (with_reducible apply T.ofRet) | ((with_reducible apply S.condQ); apply rfl; all_goals (intro _; try (exfalso; omega))) | fail)
    · have e5 : (((extra s 4 3).1 : Nat) : Int) + ((1 * 2 ^ lbits s : Nat) : Int) = (((extra (s + 1) 4 3).1 : Nat) : Int) := by omega
      rw [e5]
      rw [if_pos (by omega)] at h4
      exact ih _ _ _ _ ⟨s + 1, rfl, rfl, ⟨by omega, by omega, by rw [show 28 - (s + 1) = 27 - s by omega]; exact h4⟩, rfl⟩ (by omega) (by repeat' first | exact trivial | refine And.intro rfl ?_)
    · rw [if_neg (by omega)] at h4
      rw [← h4]
      exact ⟨_, PSub.refl _, rfl, rfl⟩
theorem distanceOf_spec {F : World} {M : List Nat} {H : List Res} {d : Nat} (hd1 : 1 ≤ d) (hd2 : d ≤ 32768) : Meets Tryd.prog 46 [.int .i64 d] F M H (fun e H' => e = .returned (.tuple ⟨[.int .i64 (disSy d), .int .i64 ((extra (disSy d) 2 1).1 : Nat)]⟩) ∧ H' = H) := by
  refine Meets.enter Tryd.func46 rfl rfl ?_
  repeat' (first | ((with_reducible apply T.asn); apply rfl; apply rfl) | with_reducible refine Sr.nil ?_ | with_reducible refine S.seq ?_ | with_reducible refine S.block ?_ | with_reducible refine S.reg ?_ | fail)
  have hsy : disSy d = findS 2 1 d 30 0 := rfl
  refine S.loopE 0 [0] (fun R b' μ H' e => ∃ s : Nat, H' = R ∧ e = (4, .int .i64 ((extra s 2 1).1 : Nat)) :: (5, .int .i64 s) :: b' ∧ (s ≤ 29 ∧ (extra s 2 1).1 ≤ d ∧ findS 2 1 d (30 - s) s = disSy d) ∧ μ = 30 - s) rfl rfl ?_ _ _ ⟨0, rfl, rfl, ⟨by omega, by simp [extra]; omega, hsy.symm⟩, rfl⟩ (by repeat' first | exact trivial | refine And.intro rfl ?_)
  rintro _ _ _ ⟨s, rfl, rfl, ⟨h1, h2, h4⟩, rfl⟩ ih
  have hst := disStep s (by omega)
  have hlb := dbits_eq s (by omega)
  rw [hlb] at hst
  have h8 : 30 - s = (29 - s) + 1 := by omega
  rw [h8, findS, hlb] at h4
  have hle := dbits_le s (by omega)
  have hpow : 1 * 2 ^ dbits s ≤ 8192 := by
    have := Nat.pow_le_pow_right (n := 2) (by omega) hle
    omega
  have h28 : s = 29 → (extra (s + 1) 2 1).1 = 32769 := fun h => by subst h; rfl
  have hone : 1 * 2 ^ dbits s = 2 ^ dbits s := Nat.one_mul _
  repeat' (first | (refine T.call rfl rfl (distanceBits_spec (by omega)) ?_; rintro _ _ ⟨rfl, rfl⟩) | ((with_reducible apply T.shlI64 (m := 1)); apply rfl; apply rfl; omega; omega; apply rfl) | ((with_reducible apply T.mv); apply rfl; apply rfl) | ((with_reducible apply T.asn); apply rfl; apply rfl) | ((with_reducible apply T.geq); apply rfl; apply rfl; apply rfl) | ((with_reducible apply T.addI); apply rfl; apply rfl; omega; apply rfl) | ((with_reducible apply T.convU64); apply rfl; omega; apply rfl) | with_reducible refine Sr.nil ?_ | with_reducible refine S.seq ?_ | with_reducible refine S.block ?_ | with_reducible refine S.reg ?_ | with_reducible refine S.skip ?_ | with_reducible refine S.inBlock ?_ | ((with_reducible apply S.exit); apply rfl) | ((with_reducible apply T.retW); apply rfl) | (with_reducible apply T.ofRet) | ((with_reducible apply S.condQ); apply rfl; all_goals (intro _; try (exfalso; omega))) | fail)
  · have e5 : (((extra s 2 1).1 : Nat) : Int) + ((1 * 2 ^ dbits s : Nat) : Int) = (((extra (s + 1) 2 1).1 : Nat) : Int) := by omega
    rw [e5]
    rw [if_pos (by omega)] at h4
    exact ih _ _ _ _ ⟨s + 1, rfl, rfl, ⟨by omega, by omega, by rw [show 30 - (s + 1) = 29 - s by omega]; exact h4⟩, rfl⟩ (by omega) (by repeat' first | exact trivial | refine And.intro rfl ?_)
  · rw [if_neg (by omega)] at h4
    rw [← h4]
    exact ⟨_, PSub.refl _, rfl, rfl⟩
theorem wordsW_spec {F : World} {M : List Nat} {H : List Res} {n lc : Nat} {la : Option Addr} {ls : List Nat} [Rd F M H la (ls.map nV)] (hn : ls.length = n) (hlen : n ≤ 100000) :
    Meets Tryd.prog 43 [.slice la n lc] F M H (fun e H' => ∃ b, e = .returned (.slice (some ⟨b, 0, none⟩) n n) ∧ H' = .row (some ⟨b, 0, none⟩) n 3 1 n ((wl ls).map nV) :: H) := by
  subst hn
  refine Meets.enter Tryd.func43 rfl rfl ?_
  repeat' (first | ((with_reducible apply T.mv); apply rfl; apply rfl) | ((with_reducible apply T.asn); apply rfl; apply rfl) | ((with_reducible apply T.len); apply rfl; apply rfl) | ((with_reducible apply T.makeS); apply rfl; apply rfl; apply rfl; (constructor <;> omega); apply rfl; intro nb) | with_reducible refine Sr.nil ?_ | with_reducible refine S.seq ?_ | with_reducible refine S.block ?_ | with_reducible refine S.reg ?_ | fail)
  revert nb
  intro b
  have hrep : List.replicate ls.length (Value.int .i64 0) = ((List.replicate ls.length ((0 : Nat), (0 : Nat))).map (·.1)).map nV := by simp [nV]
  rw [hrep]
  skip
  refine S.loopE 1 [0, 3] (fun R b' μ H' e => ∃ (l next : Nat) (ws : List (Nat × Nat)), H' = .row (some ⟨b, 0, none⟩) ls.length 3 1 ls.length ((ws.map (·.1)).map nV) :: R ∧ e = (4, .int .i64 next) :: (5, .int .i64 l) :: b' ∧
    (1 ≤ l ∧ l ≤ 16 ∧ (ws, next) = (List.range' 1 (l - 1)).foldl (wOut ls) (List.replicate ls.length (0, 0), 0) ∧ ws.length = ls.length ∧ next + ls.length ≤ ls.length * 2 ^ (l - 1)) ∧ μ = 16 - l) rfl rfl ?_ _ _ ⟨1, 0, List.replicate ls.length (0, 0), rfl, rfl, ⟨by omega, by omega, rfl, by simp, by simp⟩, rfl⟩ (by repeat' first | exact trivial | refine And.intro rfl ?_)
  rintro _ _ _ ⟨l, next, ws, rfl, rfl, ⟨h1, h2, h3, h4, h5⟩, rfl⟩ ih
  have hpw : (2 : Nat) ^ (l - 1) ≤ 32768 := Nat.pow_le_pow_right (n := 2) (by omega) (show l - 1 ≤ 15 by omega)
  have hnx : ls.length * 2 ^ (l - 1) ≤ 100000 * 32768 := Nat.mul_le_mul hlen hpw
  have e2 : next * 2 ^ 1 = 2 * next := by omega
  repeat' (first | ((with_reducible apply T.shlI64 (n := 1)); apply rfl; apply rfl; omega; omega; apply rfl; rw [e2]) | ((with_reducible apply T.mv); apply rfl; apply rfl) | ((with_reducible apply T.asn); apply rfl; apply rfl) | ((with_reducible apply T.leq); apply rfl; apply rfl; apply rfl) | with_reducible refine Sr.nil ?_ | with_reducible refine S.seq ?_ | with_reducible refine S.block ?_ | with_reducible refine S.reg ?_ | with_reducible refine S.skip ?_ | ((with_reducible apply S.exit); apply rfl) | ((with_reducible apply T.retW); apply rfl) | ((with_reducible apply S.condQ); apply rfl; all_goals (intro _; try (exfalso; omega))) | fail)
  · refine S.loopE 1 [0, 3, 5] (fun R b' μ H' e => ∃ (s next' : Nat) (ws' : List (Nat × Nat)), H' = .row (some ⟨b, 0, none⟩) ls.length 3 1 ls.length ((ws'.map (·.1)).map nV) :: R ∧ e = (4, .int .i64 next') :: (6, .int .i64 s) :: b' ∧
      (s ≤ ls.length ∧ (ws', next') = (List.range' 0 s).foldl (wIn ls l) (ws, 2 * next) ∧ ws'.length = ls.length ∧ next' ≤ 2 * next + s) ∧ μ = ls.length - s) rfl rfl ?_ _ _ ⟨0, 2 * next, ws, rfl, rfl, ⟨by omega, rfl, h4, by omega⟩, rfl⟩ (by repeat' first | exact trivial | refine And.intro rfl ?_)
    rintro _ _ _ ⟨s, next', ws', rfl, rfl, ⟨g1, g2, g3, g4⟩, rfl⟩ ih'
    have hfs : s < ls.length → (List.range' 0 (s + 1)).foldl (wIn ls l) (ws, 2 * next) = wIn ls l (ws', next') s := fun _ => by rw [fold_succ, ← g2, Nat.zero_add]
    have hsl : (ws'.map (·.1)).length = ls.length := by simpa using g3
    repeat' (first | ((with_reducible apply T.mv); apply rfl; apply rfl) | ((with_reducible apply T.asn); apply rfl; apply rfl) | ((with_reducible apply T.len); apply rfl; apply rfl) | ((with_reducible apply T.lss); apply rfl; apply rfl; apply rfl) | ((with_reducible apply T.eql); apply rfl; apply rfl; apply rfl) | ((with_reducible apply T.addI); apply rfl; apply rfl; omega; apply rfl) | ((with_reducible apply T.ixN); apply rfl; apply rfl; infer_instance; omega; (first | omega | (simp only [List.length_map]; omega) | (simp; omega)); apply rfl) | ((with_reducible apply T.loadNat); apply rfl; infer_instance; (first | omega | (simp only [List.length_map]; omega) | (simp; omega)); apply rfl) | ((with_reducible apply T.storeEN); apply rfl; apply rfl; infer_instance; (first | omega | (simp only [List.length_map]; omega) | (simp; omega))) | with_reducible refine Sr.nil ?_ | with_reducible refine S.seq ?_ | with_reducible refine S.block ?_ | with_reducible refine S.reg ?_ | with_reducible refine S.skip ?_ | with_reducible refine S.inBlock ?_ | ((with_reducible apply S.exit); apply rfl) | ((with_reducible apply S.condQ); apply rfl; all_goals (intro _; try (exfalso; omega))) | fail)
    · have hs : ls.getD s 0 = l := by omega
      refine ih' _ _ _ _ ⟨s + 1, next' + 1, ws'.set s (next', l), by simp only [List.map_set], rfl, ⟨by omega, ?_, by simpa using g3, by omega⟩, rfl⟩ (by omega) (by repeat' first | exact trivial | refine And.intro rfl ?_)
      rw [hfs (by omega), wIn, if_pos hs]
    · have hs : ¬ ls.getD s 0 = l := by omega
      refine ih' _ _ _ _ ⟨s + 1, next', ws', rfl, rfl, ⟨by omega, ?_, g3, by omega⟩, rfl⟩ (by omega) (by repeat' first | exact trivial | refine And.intro rfl ?_)
      rw [hfs (by omega), wIn, if_neg hs]
    · have hse : s = ls.length := by omega
      subst hse
      have e5 : l + 1 - 1 = (l - 1) + 1 := by omega
      refine ih _ _ _ _ ⟨l + 1, next', ws', rfl, rfl, ⟨by omega, by omega, ?_, g3, ?_⟩, rfl⟩ (by omega) (by repeat' first | exact trivial | refine And.intro rfl ?_)
      · rw [e5, fold_succ, ← h3, wOut, g2]
        congr 2
        omega
      · rw [e5, Nat.pow_succ, ← Nat.mul_assoc]
        omega
  · have hl : l = 16 := by omega
    subst hl
    have hw : ws = wordsR ls := by
      have := congrArg Prod.fst h3
      exact this
    subst hw
    exact ⟨_, .refl _, b, rfl, rfl⟩
theorem fixedW_spec {F : World} {M : List Nat} {H : List Res} : Meets Tryd.prog 20 [] F M H (fun e H' => ∃ b, e = .returned (.slice (some ⟨b, 0, none⟩) 288 288) ∧ H' = .row (some ⟨b, 0, none⟩) 288 3 1 288 (fixedL.map nV) :: H) := by
  refine Meets.enter Tryd.func20 rfl rfl ?_
  repeat' (first | ((with_reducible apply T.asn); apply rfl; apply rfl) | with_reducible refine Sr.nil ?_ | with_reducible refine S.seq ?_ | with_reducible refine S.reg ?_ | fail)
  refine T.makeS (n := 288) rfl rfl rfl (by omega) rfl ?_
  intro b
  have hrep : List.replicate 288 (Value.int .i64 0) = (List.replicate 288 (0 : Nat)).map nV := by rw [List.map_replicate]; rfl
  rw [hrep]
  repeat' (first | ((with_reducible apply T.asn); apply rfl; apply rfl) | with_reducible refine Sr.nil ?_ | with_reducible refine S.seq ?_ | with_reducible refine S.block ?_ | with_reducible refine S.reg ?_ | fail)
  refine S.loopE 1 [1] (fun R b' μ H' e => ∃ (s : Nat) (ls : List Nat), H' = .row (some ⟨b, 0, none⟩) 288 3 1 288 (ls.map nV) :: R ∧ e = (2, .int .i64 s) :: b' ∧ (s ≤ 288 ∧ ls.length = 288 ∧ ∀ j, j < s → ls.getD j 0 = fixedL.getD j 0) ∧ μ = 288 - s) rfl rfl ?_ _ _ ⟨0, List.replicate 288 0, rfl, rfl, ⟨by omega, by simp, by omega⟩, rfl⟩ (by repeat' first | exact trivial | refine And.intro rfl ?_)
  rintro _ _ _ ⟨s, ls, rfl, rfl, ⟨h1, h2, h3⟩, rfl⟩ ih
  have next : ∀ v (ls' : List Nat), ls'.length = 288 → (∀ j, j < s → ls'.getD j 0 = fixedL.getD j 0) → s < 288 → fixedL.getD s 0 = v → ∀ j, j < s + 1 → (ls'.set s v).getD j 0 = fixedL.getD j 0 := by
    intro v ls' hl' h3' hs hv j hj
    rw [List.getD_eq_getElem?_getD, List.getElem?_set]
    by_cases hjs : s = j
    · subst hjs
      rw [if_pos rfl, if_pos (by omega), Option.getD_some, hv]
    · rw [if_neg hjs, ← List.getD_eq_getElem?_getD]
      exact h3' j (by omega)
  have keep : ∀ v, ∀ j, j < s → (ls.set s v).getD j 0 = fixedL.getD j 0 := by
    intro v j hj
    rw [List.getD_eq_getElem?_getD, List.getElem?_set_ne (by omega), ← List.getD_eq_getElem?_getD]
    exact h3 j hj
  have fx : ∀ s, s < 288 → fixedL.getD s 0 = if s < 144 then 8 else if s < 256 then 9 else if s < 280 then 7 else 8 := by decide
  repeat' (first | ((with_reducible apply T.mv); apply rfl; apply rfl) | ((with_reducible apply T.asn); apply rfl; apply rfl) | ((with_reducible apply T.lss); apply rfl; apply rfl; apply rfl) | ((with_reducible apply T.geq); apply rfl; apply rfl; apply rfl) | ((with_reducible apply T.addI); apply rfl; apply rfl; omega; apply rfl) | ((with_reducible apply T.ixN); apply rfl; apply rfl; infer_instance; omega; (first | omega | (simp only [List.length_map]; omega) | (simp; omega)); apply rfl) | ((with_reducible apply T.pickT); apply rfl; apply rfl; apply rfl) | ((with_reducible apply T.pickF); apply rfl; apply rfl; apply rfl) | ((with_reducible apply T.storeEN); apply rfl; apply rfl; infer_instance; (first | omega | (simp only [List.length_map]; omega) | (simp; omega))) | with_reducible refine Sr.nil ?_ | with_reducible refine S.seq ?_ | with_reducible refine S.block ?_ | with_reducible refine S.reg ?_ | with_reducible refine S.skip ?_ | with_reducible refine S.inBlock ?_ | ((with_reducible apply S.exit); apply rfl) | ((with_reducible apply T.ung); apply rfl) | ((with_reducible apply T.skip); apply rfl; apply rfl; apply rfl) | ((with_reducible apply S.condF); apply rfl) | ((with_reducible apply T.retW); apply rfl) | ((with_reducible apply S.condQ); apply rfl; all_goals (intro _; try (exfalso; omega))) | ((with_reducible apply T.gcase); apply rfl; apply rfl; all_goals (intro _; try (exfalso; omega))) | fail)
  all_goals first
    | exact ih _ _ _ _ ⟨s + 1, (ls.set s 8).set s _, rfl, rfl, ⟨by omega, by simpa using h2, next _ _ (by simpa using h2) (keep 8) (by omega) (by rw [fx s (by omega)]; (repeat' split) <;> first | rfl | omega)⟩, rfl⟩ (by omega) (by repeat' first | exact trivial | refine And.intro rfl ?_)
    | exact ih _ _ _ _ ⟨s + 1, ls.set s 8, rfl, rfl, ⟨by omega, by simpa using h2, next _ _ h2 h3 (by omega) (by rw [fx s (by omega)]; (repeat' split) <;> first | rfl | omega)⟩, rfl⟩ (by omega) (by repeat' first | exact trivial | refine And.intro rfl ?_)
    | skip
  have hls : ls = fixedL := List.ext_getElem (by rw [h2]; rfl) fun j q1 q2 => by
    have := h3 j (by omega)
    simpa [List.getD, q1, q2] using this
  subst hls
  exact ⟨_, PSub.refl _, b, rfl, rfl⟩
theorem fiveW_spec {F : World} {M : List Nat} {H : List Res} : Meets Tryd.prog 21 [] F M H (fun e H' => ∃ b, e = .returned (.slice (some ⟨b, 0, none⟩) 30 30) ∧ H' = .row (some ⟨b, 0, none⟩) 30 3 1 30 (five.map nV) :: H) := by
  refine Meets.enter Tryd.func21 rfl rfl ?_
  repeat' (first | ((with_reducible apply T.asn); apply rfl; apply rfl) | with_reducible refine Sr.nil ?_ | with_reducible refine S.seq ?_ | with_reducible refine S.reg ?_ | fail)
  refine T.makeS (n := 30) rfl rfl rfl (by omega) rfl ?_
  intro b
  have hrep : List.replicate 30 (Value.int .i64 0) = (List.replicate 30 (0 : Nat)).map nV := by rw [List.map_replicate]; rfl
  rw [hrep]
  repeat' (first | ((with_reducible apply T.asn); apply rfl; apply rfl) | with_reducible refine Sr.nil ?_ | with_reducible refine S.seq ?_ | with_reducible refine S.block ?_ | with_reducible refine S.reg ?_ | fail)
  refine S.loopE 1 [1] (fun R b' μ H' e => ∃ (s : Nat) (ls : List Nat), H' = .row (some ⟨b, 0, none⟩) 30 3 1 30 (ls.map nV) :: R ∧ e = (2, .int .i64 s) :: b' ∧ (s ≤ 30 ∧ ls.length = 30 ∧ ∀ j, j < s → ls.getD j 0 = 5) ∧ μ = 30 - s) rfl rfl ?_ _ _ ⟨0, List.replicate 30 0, rfl, rfl, ⟨by omega, by simp, by omega⟩, rfl⟩ (by repeat' first | exact trivial | refine And.intro rfl ?_)
  rintro _ _ _ ⟨s, ls, rfl, rfl, ⟨h1, h2, h3⟩, rfl⟩ ih
  repeat' (first | ((with_reducible apply T.mv); apply rfl; apply rfl) | ((with_reducible apply T.asn); apply rfl; apply rfl) | ((with_reducible apply T.lss); apply rfl; apply rfl; apply rfl) | ((with_reducible apply T.addI); apply rfl; apply rfl; omega; apply rfl) | ((with_reducible apply T.ixN); apply rfl; apply rfl; infer_instance; omega; (first | omega | (simp only [List.length_map]; omega) | (simp; omega)); apply rfl) | ((with_reducible apply T.storeEN); apply rfl; apply rfl; infer_instance; (first | omega | (simp only [List.length_map]; omega) | (simp; omega))) | with_reducible refine Sr.nil ?_ | with_reducible refine S.seq ?_ | with_reducible refine S.block ?_ | with_reducible refine S.reg ?_ | with_reducible refine S.skip ?_ | with_reducible refine S.inBlock ?_ | ((with_reducible apply S.exit); apply rfl) | ((with_reducible apply T.retW); apply rfl) | ((with_reducible apply S.condQ); apply rfl; all_goals (intro _; try (exfalso; omega))) | fail)
  · refine ih _ _ _ _ ⟨s + 1, ls.set s 5, rfl, rfl, ⟨by omega, by simpa using h2, fun j hj => ?_⟩, rfl⟩ (by omega) (by repeat' first | exact trivial | refine And.intro rfl ?_)
    rw [List.getD_eq_getElem?_getD, List.getElem?_set]
    by_cases hjs : s = j
    · subst hjs
      rw [if_pos rfl, if_pos (by omega), Option.getD_some]
    · rw [if_neg hjs, ← List.getD_eq_getElem?_getD]
      exact h3 j (by omega)
  have hls : ls = five := List.ext_getElem (by rw [h2]; rfl) fun j q1 q2 => by
    have := h3 j (by omega)
    have h5 : five[j] = 5 := by unfold five; exact List.getElem_replicate _
    rw [h5]
    simpa [List.getD, q1] using this
  subst hls
  exact ⟨_, PSub.refl _, b, rfl, rfl⟩
end Go.Proofs.YtjhpbljkpbdnnaaDoor
