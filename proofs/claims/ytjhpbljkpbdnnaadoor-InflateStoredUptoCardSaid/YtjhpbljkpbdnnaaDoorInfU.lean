/- The walks of the document's words. -/
import Derived.Test.YtjhpbljkpbdnnaaDoorInfO
import Derived.Test.YtjhpbljkpbdnnaaDoorInfS
namespace Go.Proofs.YtjhpbljkpbdnnaaDoor
open Sg Go.IntWalk Infl
set_option maxRecDepth 100000
abbrev wV (w : Nat × Nat) : List Value := [.int .i64 w.1, .int .i64 w.2]
theorem wordsR_spec {F : World} {M : List Nat} {H : List Res} {n lc : Nat} {la : Option Addr} {ls : List Nat} [Rd F M H la (ls.map nV)] (hn : ls.length = n) (hlen : n ≤ 100000) :
    Meets Tryd.prog 56 [.slice la n lc] F M H (fun e H' => ∃ b, e = .returned (.slice (some ⟨b, 0, none⟩) n n) ∧ H' = .row (some ⟨b, 0, none⟩) n 93 2 n ((wordsR ls).flatMap wV) :: H) := by
  subst hn
  refine Meets.enter Tryd.func56 rfl rfl ?_
  repeat' (first | ((with_reducible apply T.mv); apply rfl; apply rfl) | ((with_reducible apply T.asn); apply rfl; apply rfl) | ((with_reducible apply T.len); apply rfl; apply rfl) | with_reducible refine Sr.nil ?_ | with_reducible refine S.seq ?_ | with_reducible refine S.reg ?_ | fail)
  refine T.makeSF (g := wV) (0, 0) rfl rfl rfl rfl (by omega) rfl fun b => ?_
  repeat' (first | ((with_reducible apply T.asn); apply rfl; apply rfl) | with_reducible refine Sr.nil ?_ | with_reducible refine S.seq ?_ | with_reducible refine S.block ?_ | with_reducible refine S.reg ?_ | fail)
  refine S.loopE 1 [0, 3] (fun R b' μ H' e => ∃ (l next : Nat) (ws : List (Nat × Nat)), H' = .row (some ⟨b, 0, none⟩) ls.length 93 2 ls.length (ws.flatMap wV) :: R ∧ e = (4, .int .i64 next) :: (5, .int .i64 l) :: b' ∧
    (1 ≤ l ∧ l ≤ 16 ∧ (ws, next) = (List.range' 1 (l - 1)).foldl (wOut ls) (List.replicate ls.length (0, 0), 0) ∧ ws.length = ls.length ∧ next + ls.length ≤ ls.length * 2 ^ (l - 1)) ∧ μ = 16 - l) rfl rfl ?_ _ _ ⟨1, 0, List.replicate ls.length (0, 0), rfl, rfl, ⟨by omega, by omega, rfl, by simp, by simp⟩, rfl⟩ (by repeat' first | exact trivial | refine And.intro rfl ?_)
  rintro _ _ _ ⟨l, next, ws, rfl, rfl, ⟨h1, h2, h3, h4, h5⟩, rfl⟩ ih
  have hpw : (2 : Nat) ^ (l - 1) ≤ 32768 := Nat.pow_le_pow_right (n := 2) (by omega) (show l - 1 ≤ 15 by omega)
  have hnx : ls.length * 2 ^ (l - 1) ≤ 100000 * 32768 := Nat.mul_le_mul hlen hpw
  have e2 : (2 : Int) * (next : Int) = ((2 * next : Nat) : Int) := by omega
  repeat' (first | ((with_reducible apply T.mulI); apply rfl; apply rfl; omega; apply rfl; rw [e2]) | ((with_reducible apply T.mv); apply rfl; apply rfl) | ((with_reducible apply T.asn); apply rfl; apply rfl) | ((with_reducible apply T.leq); apply rfl; apply rfl; apply rfl) | with_reducible refine Sr.nil ?_ | with_reducible refine S.seq ?_ | with_reducible refine S.block ?_ | with_reducible refine S.reg ?_ | with_reducible refine S.skip ?_ | ((with_reducible apply S.exit); apply rfl) | ((with_reducible apply T.retW); apply rfl) | ((with_reducible apply S.condQ); apply rfl; all_goals (intro _; try (exfalso; omega))) | fail)
  · refine S.loopE 1 [0, 3, 5] (fun R b' μ H' e => ∃ (s next' : Nat) (ws' : List (Nat × Nat)), H' = .row (some ⟨b, 0, none⟩) ls.length 93 2 ls.length (ws'.flatMap wV) :: R ∧ e = (4, .int .i64 next') :: (6, .int .i64 s) :: b' ∧
      (s ≤ ls.length ∧ (ws', next') = (List.range' 0 s).foldl (wIn ls l) (ws, 2 * next) ∧ ws'.length = ls.length ∧ next' ≤ 2 * next + s) ∧ μ = ls.length - s) rfl rfl ?_ _ _ ⟨0, 2 * next, ws, rfl, rfl, ⟨by omega, rfl, h4, by omega⟩, rfl⟩ (by repeat' first | exact trivial | refine And.intro rfl ?_)
    rintro _ _ _ ⟨s, next', ws', rfl, rfl, ⟨g1, g2, g3, g4⟩, rfl⟩ ih'
    have hfs : s < ls.length → (List.range' 0 (s + 1)).foldl (wIn ls l) (ws, 2 * next) = wIn ls l (ws', next') s := fun _ => by rw [fold_succ, ← g2, Nat.zero_add]
    repeat' (first | (refine T.storeFN (g := wV) (next', l) rfl rfl rfl inferInstance (fun _ => rfl) rfl (by omega) rfl ?_) | ((with_reducible apply T.mv); apply rfl; apply rfl) | ((with_reducible apply T.asn); apply rfl; apply rfl) | ((with_reducible apply T.len); apply rfl; apply rfl) | ((with_reducible apply T.lss); apply rfl; apply rfl; apply rfl) | ((with_reducible apply T.eql); apply rfl; apply rfl; apply rfl) | ((with_reducible apply T.addI); apply rfl; apply rfl; omega; apply rfl) | ((with_reducible apply T.ixN); apply rfl; apply rfl; infer_instance; omega; (first | omega | (simp; omega)); apply rfl) | ((with_reducible apply T.ixF); apply rfl; apply rfl; infer_instance; exact (fun _ => rfl); apply rfl; omega; omega; apply rfl) | ((with_reducible apply T.loadNat); apply rfl; infer_instance; (first | omega | (simp; omega)); apply rfl) | ((with_reducible apply T.buildL); apply rfl; apply rfl; apply rfl) | with_reducible refine Sr.nil ?_ | with_reducible refine S.seq ?_ | with_reducible refine S.block ?_ | with_reducible refine S.reg ?_ | with_reducible refine S.skip ?_ | with_reducible refine S.inBlock ?_ | ((with_reducible apply S.exit); apply rfl) | ((with_reducible apply S.condQ); apply rfl; all_goals (intro _; try (exfalso; omega))) | fail)
    · have hs : ls.getD s 0 = l := by omega
      refine ih' _ _ _ _ ⟨s + 1, next' + 1, ws'.set s (next', l), rfl, rfl, ⟨by omega, ?_, by simpa using g3, by omega⟩, rfl⟩ (by omega) (by repeat' first | exact trivial | refine And.intro rfl ?_)
      rw [hfs (by omega), wIn, if_pos hs]
    · have hs : ¬ ls.getD s 0 = l := by omega
      refine ih' _ _ _ _ ⟨s + 1, next', ws', rfl, rfl, ⟨by omega, ?_, g3, by omega⟩, rfl⟩ (by omega) (by repeat' first | exact trivial | refine And.intro rfl ?_)
      rw [hfs (by omega), wIn, if_neg hs]
    · have hse : s = ls.length := by omega
      subst hse
      have e5 : l + 1 - 1 = (l - 1) + 1 := by omega
      refine ih _ _ _ _ ⟨l + 1, next', ws', rfl, rfl, ⟨by omega, by omega, ?_, g3, ?_⟩, rfl⟩ (by omega) (by repeat' first | exact trivial | refine And.intro rfl ?_)
      · rw [e5, fold_succ, ← h3, wOut, g2]
        congr 2
        omega
      · rw [e5, Nat.pow_succ, ← Nat.mul_assoc]
        omega
  · have hl : l = 16 := by omega
    subst hl
    have hw : ws = wordsR ls := by
      have := congrArg Prod.fst h3
      exact this
    subst hw
    exact ⟨_, .refl _, b, rfl, rfl⟩
/-- What a symbol of the document's reader is. -/
def SymP (ws : List (Nat × Nat)) (bs : List UInt8) (a E v a' E' : Nat) : Prop := a' ≤ 8 * bs.length ∧ (E = 0 → match rsym ws bs a with
  | some (v', p') => v = v' ∧ a' = p' ∧ E' = 0
  | none => E' = 240) ∧ (E ≠ 0 → E' = E) ∧ v ≤ ws.length ∧ (E' ≠ 0 → v = 0)
theorem symR_spec {F : World} {M : List Nat} {H : List Res} {p c a m on oc E wn wc : Nat} {b oa wa : Option Addr} {bs : List UInt8} {ws : List (Nat × Nat)} [Rd F M H b (bs.map bV)] [Rd F M H wa (ws.flatMap wV)] (hn : ws.length = wn) (hw : wn ≤ 100000) (hb : bs.length ≤ 1000000000000000) (ha : a ≤ 8 * bs.length) :
    Meets Tryd.prog 57 [.pointer (some ⟨p, 0, none⟩), .slice wa wn wc] F M (.blk p (rr b bs.length c a m oa on oc E) 62 :: H)
      (fun e H' => ∃ v a' E' : Nat, e = .returned (.int .i64 v) ∧ H' = .blk p (rr b bs.length c a' m oa on oc E') 62 :: H ∧ SymP ws bs a E v a' E') := by
  subst hn
  refine Meets.enter Tryd.func57 rfl rfl ?_
  repeat' (first | ((with_reducible apply T.asn); apply rfl; apply rfl) | with_reducible refine Sr.nil ?_ | with_reducible refine S.seq ?_ | with_reducible refine S.block ?_ | with_reducible refine S.reg ?_ | fail)
  refine S.loopE 1 [0, 1] (fun R b' μ H' e => ∃ l bits a' E' : Nat, H' = .blk p (rr b bs.length c a' m oa on oc E') 62 :: R ∧ e = (5, .int .i64 bits) :: (6, .int .i64 l) :: b' ∧
    (1 ≤ l ∧ l ≤ 16 ∧ bits < 2 ^ (l - 1) ∧ a' ≤ 8 * bs.length ∧ (E' = 0 → E = 0 ∧ rsymL ws bs (16 - l) bits a' = rsym ws bs a) ∧ (E' ≠ 0 → E' = (if E = 0 then 240 else E) ∧ (E = 0 → rsym ws bs a = none))) ∧ μ = 16 - l) rfl rfl ?_ _ _
    ⟨1, 0, a, E, rfl, rfl, ⟨by omega, by omega, by omega, ha, fun h => ⟨h, rfl⟩, fun h => ⟨by rw [if_neg h], fun h' => absurd h' h⟩⟩, rfl⟩ (by repeat' first | exact trivial | refine And.intro rfl ?_)
  rintro _ _ _ ⟨l, bits, a', E', rfl, rfl, ⟨h1, h2, h3, h4, h5, h6⟩, rfl⟩ ih
  have hpw : (2 : Nat) ^ (l - 1) ≤ 32768 := Nat.pow_le_pow_right (n := 2) (by omega) (show l - 1 ≤ 15 by omega)
  have hbt : (rbit bs a' E').1 < 2 := by unfold rbit; split <;> (try split) <;> first | exact bit_lt _ _ | simp
  have hs' : stopE E' 240 = if E' = 0 then 240 else E' := rfl
  have e2 : (2 : Int) * (bits : Int) = ((2 * bits : Nat) : Int) := by omega
  repeat' (first | (refine T.call rfl rfl (bit_spec hb h4) ?_; rintro _ _ ⟨rfl, rfl⟩) | ((with_reducible apply T.mulI); apply rfl; apply rfl; omega; apply rfl; rw [e2]) | (refine T.call rfl rfl (stop_spec 240 (by omega)) ?_; rintro _ _ ⟨rfl, rfl⟩) | ((with_reducible apply T.mv); apply rfl; apply rfl) | ((with_reducible apply T.asn); apply rfl; apply rfl) | ((with_reducible apply T.nilCheck); apply rfl; apply rfl) | ((with_reducible apply T.fieldAddrZ); apply rfl; apply rfl) | ((with_reducible apply T.load); apply rfl; apply rfl; infer_instance; apply rfl; apply rfl) | ((with_reducible apply T.leq); apply rfl; apply rfl; apply rfl) | ((with_reducible apply T.eql); apply rfl; apply rfl; apply rfl) | ((with_reducible apply T.addI); apply rfl; apply rfl; omega; apply rfl) | ((with_reducible apply T.pickT); apply rfl; apply rfl; apply rfl) | ((with_reducible apply T.pickF); apply rfl; apply rfl; apply rfl) | with_reducible refine Sr.nil ?_ | with_reducible refine S.seq ?_ | with_reducible refine S.block ?_ | with_reducible refine S.reg ?_ | with_reducible refine S.skip ?_ | ((with_reducible apply S.exit); apply rfl) | ((with_reducible apply T.ung); apply rfl) | ((with_reducible apply T.skip); apply rfl; apply rfl; apply rfl) | ((with_reducible apply S.condF); apply rfl) | ((with_reducible apply T.retW); apply rfl) | (with_reducible apply T.ofRet) | ((with_reducible apply S.condQ); apply rfl; all_goals (intro _; try (exfalso; omega))) | ((with_reducible apply T.gcase); apply rfl; apply rfl; all_goals (intro _; try (exfalso; omega))) | fail)
  · rename_i hl15 hE'
    have hE0 : E' = 0 := by omega
    subst hE0
    obtain ⟨rfl, h7⟩ := h5 rfl
    clear h5 h6 hbt hs'
    have e16 : 16 - l = (15 - l) + 1 := by omega
    have e15 : 15 - (15 - l) = l := by omega
    rw [e16, rsymL, e15] at h7
    have hpow : 2 ^ (l + 1 - 1) = 2 * 2 ^ (l - 1) := by rw [← Nat.pow_succ']; congr 1; omega
    have hb2 := bit_lt bs a'
    by_cases hq : a' + 1 ≤ 8 * bs.length
    · have hrb : rbit bs a' 0 = (bit bs a', a' + 1, 0) := by simp [rbit, hq]
      rw [if_pos hq] at h7
      simp only [hrb]
      have e3 : ((2 * bits : Nat) : Int) + ((bit bs a' : Nat) : Int) = ((2 * bits + bit bs a' : Nat) : Int) := by omega
      rw [e3]
      generalize hB : 2 * bits + bit bs a' = B at *
      refine S.loopE 1 [0, 1, 5, 6] (fun R b' μ H' e => ∃ s : Nat, H' = .blk p (rr b bs.length c (a' + 1) m oa on oc 0) 62 :: R ∧ e = (7, .int .i64 s) :: b' ∧ (s ≤ ws.length ∧ fW l B (ws.drop s) s = fW l B ws 0) ∧ μ = ws.length - s) rfl rfl ?_ _ _ ⟨0, rfl, rfl, ⟨by omega, rfl⟩, rfl⟩ (by repeat' first | exact trivial | refine And.intro rfl ?_)
      rintro _ _ _ ⟨s, rfl, rfl, ⟨g1, g2⟩, rfl⟩ ih'
      have hdr : s < ws.length → fW l B (ws.drop s) s = if (ws.getD s default).2 = l ∧ (ws.getD s default).1 = B then some s else fW l B (ws.drop (s + 1)) (s + 1) := fun h => by
        rw [List.drop_eq_getElem_cons h, fW]
        simp [List.getD, h]
      repeat' (first | ((with_reducible apply T.mv); apply rfl; apply rfl) | ((with_reducible apply T.asn); apply rfl; apply rfl) | ((with_reducible apply T.len); apply rfl; apply rfl) | ((with_reducible apply T.nilCheck); apply rfl; apply rfl) | ((with_reducible apply T.fieldAddrZ); apply rfl; apply rfl) | ((with_reducible apply T.load); apply rfl; apply rfl; infer_instance; apply rfl; apply rfl) | ((with_reducible apply T.lss); apply rfl; apply rfl; apply rfl) | ((with_reducible apply T.eql); apply rfl; apply rfl; apply rfl) | ((with_reducible apply T.addI); apply rfl; apply rfl; omega; apply rfl) | ((with_reducible apply T.ixF); apply rfl; apply rfl; infer_instance; exact (fun _ => rfl); apply rfl; omega; omega; apply rfl) | ((with_reducible apply T.fieldAddrF); apply rfl; infer_instance; exact (fun _ => rfl); apply rfl; omega; apply rfl) | ((with_reducible apply T.loadF); apply rfl; apply rfl; infer_instance; exact (fun _ => rfl); apply rfl; exact getD_some (by omega); apply rfl; apply rfl) | ((with_reducible apply T.pickT); apply rfl; apply rfl; apply rfl) | ((with_reducible apply T.pickF); apply rfl; apply rfl; apply rfl) | with_reducible refine Sr.nil ?_ | with_reducible refine S.seq ?_ | with_reducible refine S.block ?_ | with_reducible refine S.reg ?_ | with_reducible refine S.skip ?_ | with_reducible refine S.inBlock ?_ | ((with_reducible apply S.exit); apply rfl) | ((with_reducible apply T.ung); apply rfl) | ((with_reducible apply T.skip); apply rfl; apply rfl; apply rfl) | ((with_reducible apply S.condT); apply rfl) | ((with_reducible apply S.condF); apply rfl) | ((with_reducible apply T.retW); apply rfl) | ((with_reducible apply S.condQ); apply rfl; all_goals (intro _; try (exfalso; omega))) | ((with_reducible apply T.gcase); apply rfl; apply rfl; all_goals (intro _; try (exfalso; omega))) | fail)
      · rename_i y1 y2 y3 y4
        rw [hdr (by omega), if_pos (by omega)] at g2
        rw [← g2] at h7
        refine ⟨_, .refl _, s, a' + 1, 0, rfl, rfl, hq, fun _ => ?_, fun h => absurd rfl h, g1, fun h => absurd rfl h⟩
        rw [← h7]
        exact ⟨rfl, rfl, rfl⟩
      · rename_i y1 y2 y3 y4
        rw [hdr (by omega), if_neg (by omega)] at g2
        exact ih' _ _ _ _ ⟨s + 1, rfl, rfl, ⟨by omega, g2⟩, rfl⟩ (by omega) (by repeat' first | exact trivial | refine And.intro rfl ?_)
      · rename_i y1 y2 y3
        rw [hdr (by omega), if_neg (by omega)] at g2
        exact ih' _ _ _ _ ⟨s + 1, rfl, rfl, ⟨by omega, g2⟩, rfl⟩ (by omega) (by repeat' first | exact trivial | refine And.intro rfl ?_)
      · rename_i y1
        rw [List.drop_eq_nil_of_le (by omega), fW] at g2
        rw [← g2] at h7
        exact ih _ _ _ _ ⟨l + 1, B, a' + 1, 0, rfl, rfl, ⟨by omega, by omega, by omega, hq, fun _ => ⟨rfl, by rw [show 16 - (l + 1) = 15 - l by omega]; exact h7⟩, fun h => absurd rfl h⟩, rfl⟩ (by omega) (by repeat' first | exact trivial | refine And.intro rfl ?_)
    · have hrb : rbit bs a' 0 = (0, a', 240) := by simp [rbit, hq]
      rw [if_neg hq] at h7
      simp only [hrb]
      refine S.loopE 1 [0, 1, 5, 6] (fun R b' μ H' e => ∃ s : Nat, H' = .blk p (rr b bs.length c a' m oa on oc 240) 62 :: R ∧ e = (7, .int .i64 s) :: b' ∧ s ≤ ws.length ∧ μ = ws.length - s) rfl rfl ?_ _ _ ⟨0, rfl, rfl, by omega, rfl⟩ (by repeat' first | exact trivial | refine And.intro rfl ?_)
      rintro _ _ _ ⟨s, rfl, rfl, g1, rfl⟩ ih'
      repeat' (first | ((with_reducible apply T.mv); apply rfl; apply rfl) | ((with_reducible apply T.asn); apply rfl; apply rfl) | ((with_reducible apply T.len); apply rfl; apply rfl) | ((with_reducible apply T.nilCheck); apply rfl; apply rfl) | ((with_reducible apply T.fieldAddrZ); apply rfl; apply rfl) | ((with_reducible apply T.load); apply rfl; apply rfl; infer_instance; apply rfl; apply rfl) | ((with_reducible apply T.lss); apply rfl; apply rfl; apply rfl) | ((with_reducible apply T.eql); apply rfl; apply rfl; apply rfl) | ((with_reducible apply T.addI); apply rfl; apply rfl; omega; apply rfl) | ((with_reducible apply T.pickT); apply rfl; apply rfl; apply rfl) | ((with_reducible apply T.pickF); apply rfl; apply rfl; apply rfl) | with_reducible refine Sr.nil ?_ | with_reducible refine S.seq ?_ | with_reducible refine S.reg ?_ | with_reducible refine S.inBlock ?_ | ((with_reducible apply S.exit); apply rfl) | ((with_reducible apply T.ung); apply rfl) | ((with_reducible apply T.skip); apply rfl; apply rfl; apply rfl) | ((with_reducible apply S.condF); apply rfl) | ((with_reducible apply T.gcase); apply rfl; apply rfl; all_goals (intro _; try (exfalso; omega))) | fail)
      all_goals exact ih _ _ _ _ ⟨l + 1, 2 * bits, a', 240, rfl, rfl, ⟨by omega, by omega, by omega, h4, fun h => by omega, fun _ => ⟨rfl, fun _ => h7.symm⟩⟩, rfl⟩ (by omega) (by repeat' first | exact trivial | refine And.intro rfl ?_)
  all_goals
    refine ⟨_, .refl _, 0, a', stopE E' 240, rfl, rfl, h4, fun hE => ?_, fun hE => ?_, Nat.zero_le _, fun _ => rfl⟩
    · by_cases hE' : E' = 0
      · obtain ⟨-, h7⟩ := h5 hE'
        rw [show 16 - l = 0 by omega, rsymL] at h7
        rw [← h7]
        simp [stopE, hE']
      · obtain ⟨q1, q2⟩ := h6 hE'
        rw [q2 hE]
        simp only [stopE, hE', if_false]
        rw [q1, if_pos hE]
    · have hE' : E' ≠ 0 := fun h => hE (h5 h).1
      obtain ⟨q1, -⟩ := h6 hE'
      simp only [stopE, hE', if_false]
      rw [q1, if_neg hE]
end Go.Proofs.YtjhpbljkpbdnnaaDoor
