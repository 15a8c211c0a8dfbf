/- The walk of the program's reader of symbols. -/
import Derived.Test.YtjhpbljkpbdnnaaDoorInfC
namespace Go.Proofs.YtjhpbljkpbdnnaaDoor
open Sg Go.IntWalk Infl
set_option maxRecDepth 100000
theorem drop_sum {cnt : List Nat} {i : Nat} (h : i < cnt.length) : (cnt.drop i).sum = cnt.getD i 0 + (cnt.drop (i + 1)).sum := by
  rw [List.drop_eq_getElem_cons h, List.sum_cons]
  simp [List.getD, h]
theorem or_bit {w b : Nat} (h : b < 2) : w * 2 ^ 1 ||| b = 2 * w + b := by
  rw [Nat.mul_comm, ← Nat.two_pow_add_eq_or_of_lt (by omega)]
theorem symbol_spec {F : World} {M : List Nat} {H : List Res} {p c oc on q sn sc E : Nat} {b oa sa : Option Addr} {most : Int} {bs : List UInt8} [Rd F M H b (bs.map bV)] {cnt syms : List Nat} [InB H q (cnt.map nV ++ [.slice sa sn sc]) E] [Rd F M H sa (syms.map nV)]
    (hcs : Fits cnt syms) (hsn : sn = syms.length) {pos : Nat} (hp : pos ≤ 8 * bs.length) (hb : bs.length ≤ 1000000000000000) :
    Meets Tryd.prog 64 [.pointer (some ⟨p, 0, none⟩), .pointer (some ⟨q, 0, none⟩)] F M (.blk p (rd b bs c pos most oa on oc) 59 :: H) (fun e H' => match sym cnt syms bs pos with
      | some (v, pos') => e = .returned (.int .i64 v) ∧ H' = .blk p (rd b bs c pos' most oa on oc) 59 :: H ∧ pos' ≤ 8 * bs.length
      | none => e = gave 240 ∧ ∃ vs, H' = .blk p vs 59 :: H) := by
  obtain ⟨hc16, hsum, hsy⟩ := hcs
  subst hsn
  refine Meets.enter Tryd.func64 rfl rfl ?_
  repeat' (first | ((with_reducible apply T.asn); apply rfl; apply rfl) | with_reducible refine Sr.nil ?_ | with_reducible refine S.seq ?_ | with_reducible refine S.block ?_ | with_reducible refine S.reg ?_ | fail)
  refine S.loop (fun μ H' e => ∃ i word first at_ pos' : Nat, H' = .blk p (rd b bs c pos' most oa on oc) 59 :: H ∧ e = [(0, .pointer (some ⟨p, 0, none⟩)), (1, .pointer (some ⟨q, 0, none⟩)), (5, .int .i64 word), (6, .int .i64 first), (7, .int .i64 at_), (8, .int .i64 i)] ∧
    (1 ≤ i ∧ i ≤ 16 ∧ first ≤ word ∧ word < 2 ^ (i - 1) ∧ at_ + (cnt.drop i).sum = syms.length ∧ pos' ≤ 8 * bs.length ∧ symL cnt syms bs (16 - i) word first at_ pos' = sym cnt syms bs pos) ∧ μ = 17 - i) ?_ _ _ ⟨1, 0, 0, 0, pos, rfl, rfl, ⟨by omega, by omega, by omega, by omega, by omega, hp, rfl⟩, rfl⟩ ⟨rfl, rfl, rfl, rfl, rfl, rfl, trivial⟩
  · rintro _ _ _ ⟨i, word, first, at_, pos', rfl, rfl, ⟨h1, h2, h3, h4, h5, h6, h7⟩, rfl⟩ ih
    have hw : word < 32768 := Nat.lt_of_lt_of_le h4 (Nat.pow_le_pow_right (n := 2) (by omega) (show i - 1 ≤ 15 by omega))
    repeat' (first | ((with_reducible apply T.mv); apply rfl; apply rfl) | ((with_reducible apply T.leq); apply rfl; apply rfl; apply rfl) | with_reducible refine Sr.nil ?_ | with_reducible refine S.seq ?_ | with_reducible refine S.block ?_ | with_reducible refine S.reg ?_ | with_reducible refine S.skip ?_ | ((with_reducible apply S.exit); apply rfl) | ((with_reducible apply S.condQ); apply rfl; all_goals (intro _; try (exfalso; omega))) | fail)
    · rename_i hi
      have hi15 : i ≤ 15 := by omega
      have hcnt : cnt.getD i 0 ≤ 2000000 := by
        have := drop_sum (cnt := cnt) (i := i) (by omega)
        omega
      have hds := drop_sum (cnt := cnt) (i := i) (by omega)
      have e16 : 16 - i = (15 - i) + 1 := by omega
      have e15 : 15 - (15 - i) = i := by omega
      rw [e16, symL, e15] at h7
      have hpow : 2 ^ i = 2 * 2 ^ (i - 1) := by rw [← Nat.pow_succ']; congr 1; omega
      repeat' (first | ((with_reducible apply T.shlI64 (n := 1)); apply rfl; apply rfl; omega; omega; apply rfl) | ((with_reducible apply T.mv); apply rfl; apply rfl) | fail)
      refine T.call rfl rfl (number_spec (k := 1) (by omega) h6 hb) ?_
      by_cases hq : pos' + 1 ≤ 8 * bs.length
      · have hbit := bit_lt bs pos'
        have e1 := or_bit (w := word) hbit
        rw [if_pos hq] at h7
        simp only [rdN, hq, if_true, num_one]
        rintro _ _ ⟨rfl, rfl⟩
        repeat' (first | ((with_reducible apply T.orI64); apply rfl; apply rfl; omega; omega; apply rfl; rw [e1]) | ((with_reducible apply T.shlI64 (n := 1)); apply rfl; apply rfl; omega; omega; apply rfl) | ((with_reducible apply T.mv); apply rfl; apply rfl) | ((with_reducible apply T.asn); apply rfl; apply rfl) | ((with_reducible apply T.nilCheck); apply rfl; apply rfl) | ((with_reducible apply T.fieldAddrZ); apply rfl; apply rfl) | ((with_reducible apply T.lss); apply rfl; apply rfl; apply rfl) | ((with_reducible apply T.addI); apply rfl; apply rfl; omega; apply rfl) | ((with_reducible apply T.subI); apply rfl; apply rfl; omega; apply rfl) | ((with_reducible apply T.ix1); apply rfl; apply rfl; infer_instance; omega; (first | omega | (simp; omega)); apply rfl) | ((with_reducible apply T.ixAZ); apply rfl; apply rfl; omega; apply rfl) | ((with_reducible apply T.loadNat); apply rfl; infer_instance; (first | omega | (simp; omega)); apply rfl) | ((with_reducible apply T.loadCN); apply rfl; infer_instance; apply rfl; (first | omega | (simp; omega)); apply rfl) | ((with_reducible apply T.loadR); apply rfl; apply rfl; infer_instance; apply rfl; (first | assumption | ((first | simp only [List.length_map] | simp only [List.length_set] | simp only [List.length_replicate]); (repeat (first | simp only [List.length_map] | simp only [List.length_set] | simp only [List.length_replicate])); first | done | assumption | rfl)); apply rfl; apply rfl; apply rfl) | with_reducible refine Sr.nil ?_ | with_reducible refine S.seq ?_ | with_reducible refine S.reg ?_ | with_reducible refine S.skip ?_ | with_reducible refine S.inBlock ?_ | ((with_reducible apply T.retW); apply rfl) | (with_reducible apply T.ofRet) | ((with_reducible apply S.condQ); apply rfl; all_goals (intro _; try (exfalso; omega))) | fail)
        · rename_i hlt
          rw [if_pos (by omega)] at h7
          have e3 : ((at_ : Int) + ((2 * word + bit bs pos' : Nat) : Int) - ((first * 2 ^ 1 : Nat) : Int)).toNat = at_ + (2 * word + bit bs pos' - 2 * first) := by omega
          skip
          refine ⟨_, .refl _, ?_⟩
          dsimp only
          rw [← h7, e3]
          exact ⟨rfl, rfl, hq⟩
        · rename_i hlt
          rw [if_neg (by omega)] at h7
          have e4 : first * 2 ^ 1 + cnt.getD i 0 = 2 * first + cnt.getD i 0 := by omega
          have e5 : 15 - i = 16 - (i + 1) := by omega
          rw [e5] at h7
          refine ih _ _ _ _ ⟨i + 1, 2 * word + bit bs pos', 2 * first + cnt.getD i 0, at_ + cnt.getD i 0, pos' + 1, rfl, rfl, ⟨by omega, by omega, by omega, ?_, by omega, hq, h7⟩, rfl⟩ (by omega) ⟨rfl, rfl, rfl, ?_, rfl, rfl, trivial⟩
          · rw [Nat.add_sub_cancel, hpow]; omega
          · rw [← e4]; rfl
      · rw [if_neg hq] at h7
        simp only [rdN, hq, if_false]
        rintro _ _ ⟨rfl, vs, rfl⟩
        repeat' (first | (with_reducible apply T.diesW) | (with_reducible apply T.ofPan) | fail)
        refine ⟨_, .refl _, ?_⟩
        dsimp only
        rw [← h7]
        exact ⟨rfl, _, rfl⟩
    · have : 16 - i = 0 := by omega
      rw [this, symL] at h7
      refine T.call rfl rfl (give_spec 240) ?_
      rintro _ _ ⟨rfl, rfl⟩
      repeat' (first | (with_reducible apply T.diesW) | (with_reducible apply T.ofPan) | fail)
      refine ⟨_, .refl _, ?_⟩
      dsimp only
      rw [← h7]
      exact ⟨rfl, _, rfl⟩
end Go.Proofs.YtjhpbljkpbdnnaaDoor
