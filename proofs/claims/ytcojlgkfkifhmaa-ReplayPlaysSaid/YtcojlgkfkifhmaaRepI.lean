/- The walk of the program's book: Open. -/
import Derived.Test.YtcojlgkfkifhmaaRepH
/- maps -/
namespace Go.Proofs.Ytcojlgkfkifhmaa
open Sg Go.IntWalk
set_option maxRecDepth 100000
set_option maxHeartbeats 1000000
/-- So many entries. -/
def entriesR (l : List UInt8) : Nat → Bool → List UInt8 → Rr → Bk → Rr × Bk
  | 0, _, _, r, k => (r, k)
  | m + 1, first, ahead, r, k => if r.bad = true then (r, k) else entriesR l m false (entryR l r k first ahead).1 (entryR l r k first ahead).2.1 (entryR l r k first ahead).2.2
def headR (l : List UInt8) : Nat × Rr × Bk :=
  let b3 := ((Rr.byte l ⟨0, false⟩ 82 82).2.byte l 1 1).2.byte l 0 1
  let b4 := b3.2.number l 8
  let b6 := (b4.2.need (decide (b3.1 = 1) || decide (toI b4.1 = 0)) 8).number l 4
  (b6.1, b6.2.need (decide (b6.1 = 0) || (decide (b6.1 ≤ 4096) && decide (b3.1 = 1))) 4, ⟨decide (b3.1 = 1), toI b4.1, []⟩)
/-- Open: the book, if it is one; the place. -/
def openM (l : List UInt8) : Option Bk × Nat :=
  let h := headR l
  let e := entriesR l h.1 true [] h.2.1 h.2.2
  let s := e.1.number l 8
  let r := s.2.need (s.2.bad || decide (s.1 = fnv (l.take e.1.pos))) 8
  if r.bad = true ∨ r.pos < l.length then (none, r.pos) else (some e.2, 0)
theorem need_le {r : Rr} {ok : Bool} {n m : Nat} (h : r.pos ≤ m) : (r.need ok n).pos ≤ m := Nat.le_trans need_pos h
theorem byte_pos {l : List UInt8} {r : Rr} {lo hi : Nat} (h : r.pos ≤ l.length) : (r.byte l lo hi).2.pos ≤ l.length := Nat.le_trans need_pos (number_pos h)
theorem byte_lt {l : List UInt8} {r : Rr} {lo hi : Nat} : (r.byte l lo hi).1 < 256 := by
  have := number_lt256 (l := l) (r := r) (n := 1)
  exact this
theorem entry_pos {l : List UInt8} {r : Rr} {k : Bk} {first : Bool} {ahead : List UInt8} (h : r.pos ≤ l.length) : (entryR l r k first ahead).2.1.pos ≤ l.length := by
  unfold entryR
  dsimp only
  split
  · exact need_le (number_pos h)
  · split
    · exact need_le (number_pos (need_le (take_pos (need_le (number_pos h)))))
    · exact need_le (number_pos (need_le (take_pos (need_le (number_pos h)))))
theorem entry_len {l : List UInt8} {r : Rr} {k : Bk} {first : Bool} {ahead : List UInt8} : (entryR l r k first ahead).2.2.ends.length ≤ k.ends.length + 1 := by
  unfold entryR
  dsimp only
  split
  · exact Nat.le_succ _
  · split
    · exact Nat.le_succ _
    · exact eput_len
theorem sum_take {F : World} {M : List Nat} {H : List Res} {c n : Nat} {b : Option Addr} {l : List UInt8} [hR : Rd F M H b (l.map bV)] (hn : n ≤ l.length) (hb : l.length ≤ 1000000000000000) : Meets Try.prog 33 [.slice b n c] F M H (fun e H' => e = .returned (.int .u64 (fnv (l.take n) : Nat)) ∧ H' = H) := by
  have htl : (l.take n).length = n := by rw [List.length_take]; omega
  have := sum_spec (F := F) (M := M) (H := H) (bs := l.take n) (b := b) (c := c) (hR := Rd.take1 hR n) (by omega)
  rwa [htl] at this
theorem open_spec {F : World} {M : List Nat} {H : List Res} {c : Nat} {b : Option Addr} {l : List UInt8} [hR : Rd F M H b (l.map bV)] (hl : l.length ≤ 1000000000000000) (hc : l.length ≤ c) :
    Meets Try.prog 16 [.slice b l.length c] F M H (fun e H' => match (openM l).1 with
      | some k => ∃ q mb, e = .returned (.tuple ⟨[.pointer (some ⟨q, 0, none⟩), .int .i64 0, .int .i64 0]⟩) ∧ H' = .blk q (bkV mb k) 63 :: bkM mb k :: H
      | none => e = .returned (.tuple ⟨[.pointer none, .int .i64 163, .int .i64 ((openM l).2 : Nat)]⟩) ∧ H' = H) := by
  generalize hE : openM l = E
  obtain ⟨E1, E2⟩ := E
  unfold openM headR at hE
  dsimp only at hE ⊢
  refine Meets.enter Try.func16 rfl rfl ?_
  repeat' (first | ((with_reducible apply T.mv); apply rfl; apply rfl) | ((with_reducible apply T.asn); apply rfl; apply rfl) | ((with_reducible apply T.buildL); apply rfl; apply rfl; apply rfl) | ((with_reducible apply T.box); apply rfl; apply rfl; intro nb) | with_reducible refine Sr.nil ?_ | with_reducible refine S.seq ?_ | with_reducible refine S.reg ?_ | fail)
  refine T.call rfl rfl new_spec ?_
  rintro _ _ ⟨q, mb, rfl, rfl⟩
  repeat' (first | ((with_reducible apply T.mv); apply rfl; apply rfl) | ((with_reducible apply T.asn); apply rfl; apply rfl) | with_reducible refine Sr.nil ?_ | with_reducible refine S.seq ?_ | with_reducible refine S.reg ?_ | (with_reducible apply T.ofRet) | fail)
  refine Sr.front nb ?_
  change Sr _ _ _ (.blk nb (rdV b l.length c ⟨0, false⟩) 74 :: _) _ _ _ _
  have hp0 : (⟨0, false⟩ : Rr).pos ≤ l.length := Nat.zero_le _
  refine T.call rfl rfl (byteR_spec (lo := 82) (hi := 82) (r := ⟨0, false⟩) (l := l) hl hc hp0) ?_
  rintro _ _ ⟨rfl, rfl⟩
  have hp1 := byte_pos (lo := 82) (hi := 82) hp0
  repeat' (first | ((with_reducible apply T.mv); apply rfl; apply rfl) | with_reducible refine Sr.nil ?_ | with_reducible refine S.seq ?_ | with_reducible refine S.reg ?_ | (with_reducible apply T.ofRet) | fail)
  generalize (Rr.byte l ⟨0, false⟩ 82 82).2 = r1 at *
  refine T.call rfl rfl (byteR_spec (lo := 1) (hi := 1) (r := r1) (l := l) hl hc hp1) ?_
  rintro _ _ ⟨rfl, rfl⟩
  have hp2 := byte_pos (lo := 1) (hi := 1) hp1
  repeat' (first | ((with_reducible apply T.mv); apply rfl; apply rfl) | with_reducible refine Sr.nil ?_ | with_reducible refine S.seq ?_ | with_reducible refine S.reg ?_ | (with_reducible apply T.ofRet) | fail)
  generalize (r1.byte l 1 1).2 = r2 at *
  refine T.call rfl rfl (byteR_spec (lo := 0) (hi := 1) (r := r2) (l := l) hl hc hp2) ?_
  rintro _ _ ⟨rfl, rfl⟩
  have hp3 := byte_pos (lo := 0) (hi := 1) hp2
  repeat' (first | ((with_reducible apply T.mv); apply rfl; apply rfl) | ((with_reducible apply T.nilCheck); apply rfl; apply rfl) | ((with_reducible apply T.fieldAddrZ); apply rfl; apply rfl) | ((with_reducible apply T.eql); apply rfl; apply rfl; apply rfl) | ((with_reducible apply T.store); apply rfl; apply rfl; infer_instance; (first | decide | (simp; omega) | simp); apply rfl) | with_reducible refine Sr.nil ?_ | with_reducible refine S.seq ?_ | with_reducible refine S.reg ?_ | (with_reducible apply T.ofRet) | fail)
  generalize (r2.byte l 0 1).2 = r3 at *
  generalize (r2.byte l 0 1).1 = v3 at *
  have e1 : decide ((v3 : Int) = 1) = decide (v3 = 1) := decide_eq_decide.2 (by omega)
  rw [e1]
  refine T.call rfl rfl (numberR_spec (n := 8) (r := r3) (l := l) hl hc hp3 (by omega)) ?_
  rintro _ _ ⟨rfl, rfl⟩
  have hb4 := number_back (l := l) (r := r3) (n := 8)
  have hp4 := number_pos (n := 8) hp3
  have hv4 := number_lt (l := l) (r := r3) (n := 8) (by omega)
  generalize (r3.number l 8).1 = v4 at *
  generalize (r3.number l 8).2 = r4 at *
  with_reducible apply T.ofRet
  with_reducible apply T.conv
  apply rfl
  exact toI_wrap hv4
  apply rfl
  repeat' (first | ((with_reducible apply T.nilCheck); apply rfl; apply rfl) | ((with_reducible apply T.fieldAddrZ); apply rfl; apply rfl) | ((with_reducible apply T.store); apply rfl; apply rfl; infer_instance; (first | decide | (simp; omega) | simp); apply rfl) | with_reducible refine Sr.nil ?_ | fail)
  refine S.seq ?_
  refine S.cut (fun H' e' => H' = .blk nb (rdV b l.length c (r4.need (decide (v3 = 1) || decide (toI v4 = 0)) 8)) 74 :: .blk q (bkV mb ⟨decide (v3 = 1), toI v4, []⟩) 63 :: bkM mb ⟨decide (v3 = 1), toI v4, []⟩ :: H ∧ e' = [(0, .slice b l.length c), (5, .pointer (some ⟨nb, 0, none⟩)), (6, .pointer (some ⟨q, 0, none⟩))]) ?_ ?_
  · intro k' hrest
    clear hE
    by_cases hh : v3 = 1
    · rw [decide_eq_true hh] at hrest ⊢
      repeat' (first | ((with_reducible apply T.mv); apply rfl; apply rfl) | ((with_reducible apply T.nilCheck); apply rfl; apply rfl) | ((with_reducible apply T.fieldAddrZ); apply rfl; apply rfl) | ((with_reducible apply T.load); apply rfl; apply rfl; infer_instance; apply rfl; apply rfl) | ((with_reducible apply T.pickT); apply rfl; apply rfl; apply rfl) | with_reducible refine S.reg ?_ | ((with_reducible apply T.skip); apply rfl; apply rfl; apply rfl) | fail)
      refine T.call rfl rfl (needR_spec (r := r4) (ok := true || decide (toI v4 = 0)) (by omega) hb4) ?_
      rintro _ _ ⟨rfl, rfl⟩
      repeat' (first | with_reducible refine Sr.nil ?_ | (with_reducible apply T.ofRet) | fail)
      exact hrest _ _ _ ⟨rfl, rfl⟩ (by repeat' first | exact trivial | refine And.intro rfl ?_)
    · rw [decide_eq_false hh] at hrest ⊢
      repeat' (first | ((with_reducible apply T.mv); apply rfl; apply rfl) | ((with_reducible apply T.nilCheck); apply rfl; apply rfl) | ((with_reducible apply T.fieldAddrZ); apply rfl; apply rfl) | ((with_reducible apply T.load); apply rfl; apply rfl; infer_instance; apply rfl; apply rfl) | ((with_reducible apply T.eql); apply rfl; apply rfl; apply rfl) | ((with_reducible apply T.pickF); apply rfl; apply rfl; apply rfl) | with_reducible refine S.reg ?_ | ((with_reducible apply T.ung); apply rfl) | fail)
      refine T.call rfl rfl (needR_spec (r := r4) (ok := false || decide (toI v4 = 0)) (by omega) hb4) ?_
      rintro _ _ ⟨rfl, rfl⟩
      repeat' (first | with_reducible refine Sr.nil ?_ | (with_reducible apply T.ofRet) | fail)
      exact hrest _ _ _ ⟨rfl, rfl⟩ (by repeat' first | exact trivial | refine And.intro rfl ?_)
  rintro _ _ ⟨rfl, rfl⟩
  have hp5 := need_le (ok := decide (v3 = 1) || decide (toI v4 = 0)) (n := 8) hp4
  generalize r4.need (decide (v3 = 1) || decide (toI v4 = 0)) 8 = r5 at *
  refine S.seq ?_
  repeat' (first | ((with_reducible apply T.mv); apply rfl; apply rfl) | with_reducible refine S.reg ?_ | fail)
  refine T.call rfl rfl (numberR_spec (n := 4) (r := r5) (l := l) hl hc hp5 (by omega)) ?_
  rintro _ _ ⟨rfl, rfl⟩
  have hb6 := number_back (l := l) (r := r5) (n := 4)
  have hp6 := number_pos (n := 4) hp5
  have hv6 := number_lt256 (l := l) (r := r5) (n := 4)
  generalize (r5.number l 4).1 = v6 at *
  generalize (r5.number l 4).2 = r6 at *
  repeat' (first | ((with_reducible apply T.asn); apply rfl; apply rfl) | with_reducible refine Sr.nil ?_ | (with_reducible apply T.ofRet) | fail)
  refine S.seq ?_
  refine S.cut (fun H' e' => H' = .blk nb (rdV b l.length c (r6.need (decide (v6 = 0) || (decide (v6 ≤ 4096) && decide (v3 = 1))) 4)) 74 :: .blk q (bkV mb ⟨decide (v3 = 1), toI v4, []⟩) 63 :: bkM mb ⟨decide (v3 = 1), toI v4, []⟩ :: H ∧ e' = [(0, .slice b l.length c), (5, .pointer (some ⟨nb, 0, none⟩)), (6, .pointer (some ⟨q, 0, none⟩)), (7, .int .u64 v6)]) ?_ ?_
  · intro k' hrest
    clear hE
    by_cases h0 : v6 = 0
    · rw [decide_eq_true h0] at hrest
      repeat' (first | ((with_reducible apply T.mv); apply rfl; apply rfl) | ((with_reducible apply T.eql); apply rfl; apply rfl; apply rfl) | ((with_reducible apply T.pickT); apply rfl; apply rfl; apply rfl) | with_reducible refine S.reg ?_ | ((with_reducible apply T.skip); apply rfl; apply rfl; apply rfl) | ((with_reducible apply T.skipU); apply rfl; apply rfl) | ((with_reducible apply T.gcase); apply rfl; apply rfl; all_goals (intro _; try (exfalso; omega))) | fail)
      refine T.call rfl rfl (needR_spec (r := r6) (ok := true || (decide (v6 ≤ 4096) && decide (v3 = 1))) (by omega) hb6) ?_
      rintro _ _ ⟨rfl, rfl⟩
      repeat' (first | with_reducible refine Sr.nil ?_ | (with_reducible apply T.ofRet) | fail)
      exact hrest _ _ _ ⟨rfl, rfl⟩ (by repeat' first | exact trivial | refine And.intro rfl ?_)
    · by_cases h4 : v6 ≤ 4096
      · rw [decide_eq_false h0, decide_eq_true h4] at hrest
        repeat' (first | ((with_reducible apply T.mv); apply rfl; apply rfl) | ((with_reducible apply T.nilCheck); apply rfl; apply rfl) | ((with_reducible apply T.fieldAddrZ); apply rfl; apply rfl) | ((with_reducible apply T.load); apply rfl; apply rfl; infer_instance; apply rfl; apply rfl) | ((with_reducible apply T.leq); apply rfl; apply rfl; apply rfl) | ((with_reducible apply T.eql); apply rfl; apply rfl; apply rfl) | ((with_reducible apply T.pickT); apply rfl; apply rfl; apply rfl) | ((with_reducible apply T.pickF); apply rfl; apply rfl; apply rfl) | with_reducible refine S.reg ?_ | ((with_reducible apply T.ung); apply rfl) | ((with_reducible apply T.gcase); apply rfl; apply rfl; all_goals (intro _; try (exfalso; omega))) | fail)
        refine T.call rfl rfl (needR_spec (r := r6) (ok := false || (true && decide (v3 = 1))) (by omega) hb6) ?_
        rintro _ _ ⟨rfl, rfl⟩
        repeat' (first | with_reducible refine Sr.nil ?_ | (with_reducible apply T.ofRet) | fail)
        exact hrest _ _ _ ⟨rfl, rfl⟩ (by repeat' first | exact trivial | refine And.intro rfl ?_)
      · rw [decide_eq_false h0, decide_eq_false h4] at hrest
        repeat' (first | ((with_reducible apply T.mv); apply rfl; apply rfl) | ((with_reducible apply T.leq); apply rfl; apply rfl; apply rfl) | ((with_reducible apply T.eql); apply rfl; apply rfl; apply rfl) | ((with_reducible apply T.pickF); apply rfl; apply rfl; apply rfl) | with_reducible refine S.reg ?_ | ((with_reducible apply T.ung); apply rfl) | ((with_reducible apply T.skip); apply rfl; apply rfl; apply rfl) | ((with_reducible apply T.gcase); apply rfl; apply rfl; all_goals (intro _; try (exfalso; omega))) | fail)
        refine T.call rfl rfl (needR_spec (r := r6) (ok := false || (false && decide (v3 = 1))) (by omega) hb6) ?_
        rintro _ _ ⟨rfl, rfl⟩
        repeat' (first | with_reducible refine Sr.nil ?_ | (with_reducible apply T.ofRet) | fail)
        exact hrest _ _ _ ⟨rfl, rfl⟩ (by repeat' first | exact trivial | refine And.intro rfl ?_)
  rintro _ _ ⟨rfl, rfl⟩
  have hp7 := need_le (ok := decide (v6 = 0) || (decide (v6 ≤ 4096) && decide (v3 = 1))) (n := 4) hp6
  have hn7 : (r6.need (decide (v6 = 0) || (decide (v6 ≤ 4096) && decide (v3 = 1))) 4).bad = false → v6 ≤ 4096 := fun h => by
    obtain ⟨-, h, -⟩ := need_ok h
    simp only [Bool.or_eq_true, Bool.and_eq_true, decide_eq_true_eq] at h
    omega
  generalize r6.need (decide (v6 = 0) || (decide (v6 ≤ 4096) && decide (v3 = 1))) 4 = r7 at *
  generalize hX : entriesR l v6 true [] r7 ⟨decide (v3 = 1), toI v4, []⟩ = X at *
  refine S.seq ?_
  repeat' (first | ((with_reducible apply T.asn); apply rfl; apply rfl) | with_reducible refine Sr.nil ?_ | with_reducible refine S.reg ?_ | fail)
  refine S.seq ?_
  skip
  refine S.seq ?_
  repeat' (first | ((with_reducible apply T.asn); apply rfl; apply rfl) | with_reducible refine Sr.nil ?_ | with_reducible refine S.reg ?_ | fail)
  refine S.cut (fun H' e' => ∃ (r : Rr) (k : Bk), r.pos ≤ l.length ∧ X = (r, k) ∧ H' = .blk nb (rdV b l.length c r) 74 :: .blk q (bkV mb k) 63 :: bkM mb k :: H ∧ e' = [(0, .slice b l.length c), (5, .pointer (some ⟨nb, 0, none⟩)), (6, .pointer (some ⟨q, 0, none⟩))]) ?_ ?_
  · intro k' hrest
    clear hE
    refine S.block ?_
    refine S.loopE 3 [0, 5, 6, 7] (fun R b' μ H' e => ∃ (i : Nat) (ahead : List UInt8) (r : Rr) (k : Bk), H' = .blk nb (rdV b l.length c r) 74 :: .blk q (bkV mb k) 63 :: bkM mb k :: R ∧ e = (8, sV ahead) :: (9, .int .u64 i) :: b' ∧ (i ≤ v6 ∧ r.pos ≤ l.length ∧ (r.bad = false → v6 ≤ 4096) ∧ k.ends.length ≤ i ∧ entriesR l (v6 - i) (decide (i = 0)) ahead r k = X) ∧ μ = v6 - i) rfl rfl ?_ _ _ ⟨0, [], r7, ⟨decide (v3 = 1), toI v4, []⟩, rfl, rfl, ⟨by omega, hp7, hn7, Nat.le_refl _, hX⟩, rfl⟩ (by repeat' first | exact trivial | refine And.intro rfl ?_)
    rintro _ _ _ ⟨i, ahead, r, k, rfl, rfl, ⟨hi, hpr, hnr, hkl, hI⟩, rfl⟩ ih
    by_cases h2 : r.bad = true
    · have hrk : X = (r, k) := by
        rw [← hI]
        cases v6 - i with
        | zero => rfl
        | succ m => rw [entriesR, if_pos h2]
      by_cases h1 : i < v6
      · unfold rdV
        rw [h2]
        repeat' (first | ((with_reducible apply T.mv); apply rfl; apply rfl) | ((with_reducible apply T.nilCheck); apply rfl; apply rfl) | ((with_reducible apply T.fieldAddrZ); apply rfl; apply rfl) | ((with_reducible apply T.load); apply rfl; apply rfl; infer_instance; apply rfl; apply rfl) | ((with_reducible apply T.lss); apply rfl; apply rfl; apply rfl) | ((with_reducible apply T.notB); apply rfl; apply rfl) | ((with_reducible apply T.pickT); apply rfl; apply rfl; apply rfl) | with_reducible refine Sr.nil ?_ | with_reducible refine S.seq ?_ | with_reducible refine S.reg ?_ | ((with_reducible apply S.exit); apply rfl) | ((with_reducible apply T.ung); apply rfl) | ((with_reducible apply S.condF); apply rfl) | ((with_reducible apply T.gcase); apply rfl; apply rfl; all_goals (intro _; try (exfalso; omega))) | fail)
        refine hrest _ _ _ ⟨r, k, hpr, hrk, ?_, rfl⟩ (by repeat' first | exact trivial | refine And.intro rfl ?_)
        rw [← h2]
      · repeat' (first | ((with_reducible apply T.mv); apply rfl; apply rfl) | ((with_reducible apply T.lss); apply rfl; apply rfl; apply rfl) | ((with_reducible apply T.pickF); apply rfl; apply rfl; apply rfl) | with_reducible refine Sr.nil ?_ | with_reducible refine S.seq ?_ | with_reducible refine S.reg ?_ | ((with_reducible apply S.exit); apply rfl) | ((with_reducible apply T.skip); apply rfl; apply rfl; apply rfl) | ((with_reducible apply S.condF); apply rfl) | ((with_reducible apply T.gcase); apply rfl; apply rfl; all_goals (intro _; try (exfalso; omega))) | fail)
        exact hrest _ _ _ ⟨r, k, hpr, hrk, rfl, rfl⟩ (by repeat' first | exact trivial | refine And.intro rfl ?_)
    · rw [Bool.not_eq_true] at h2
      by_cases h1 : i < v6
      · have hn := hnr h2
        have e2 : decide ((i : Int) = 0) = decide (i = 0) := decide_eq_decide.2 (by omega)
        have hrd : [Value.slice b l.length c, .int .i64 r.pos, .bool false] = rdV b l.length c r := by unfold rdV; rw [h2]
        rw [show v6 - i = (v6 - (i + 1)) + 1 by omega, entriesR, h2, if_neg (by simp)] at hI
        unfold rdV
        rw [h2]
        repeat' (first | ((with_reducible apply T.mv); apply rfl; apply rfl) | ((with_reducible apply T.nilCheck); apply rfl; apply rfl) | ((with_reducible apply T.fieldAddrZ); apply rfl; apply rfl) | ((with_reducible apply T.load); apply rfl; apply rfl; infer_instance; apply rfl; apply rfl) | ((with_reducible apply T.lss); apply rfl; apply rfl; apply rfl) | ((with_reducible apply T.eql); apply rfl; apply rfl; apply rfl) | ((with_reducible apply T.notB); apply rfl; apply rfl) | ((with_reducible apply T.pickT); apply rfl; apply rfl; apply rfl) | with_reducible refine Sr.nil ?_ | with_reducible refine S.seq ?_ | with_reducible refine S.block ?_ | with_reducible refine S.reg ?_ | with_reducible refine S.skip ?_ | ((with_reducible apply T.ung); apply rfl) | ((with_reducible apply S.condT); apply rfl) | ((with_reducible apply T.gcase); apply rfl; apply rfl; all_goals (intro _; try (exfalso; omega))) | fail)
        rw [e2, hrd]
        refine T.call rfl rfl (entryR_spec (first := decide (i = 0)) (ahead := ahead) (r := r) (k := k) (l := l) hl hc hpr (by omega)) ?_
        rintro _ _ ⟨rfl, rfl⟩
        have hpe := entry_pos (first := decide (i = 0)) (ahead := ahead) (k := k) hpr
        have hle := entry_len (l := l) (first := decide (i = 0)) (ahead := ahead) (k := k) (r := r)
        repeat' (first | ((with_reducible apply T.addU64N (n := 1)); apply rfl; apply rfl; omega; apply rfl) | ((with_reducible apply T.mv); apply rfl; apply rfl) | ((with_reducible apply T.asn); apply rfl; apply rfl) | with_reducible refine Sr.nil ?_ | with_reducible refine S.reg ?_ | with_reducible refine S.inBlock ?_ | (with_reducible apply T.ofRet) | fail)
        refine ih _ _ _ _ ⟨i + 1, _, _, _, rfl, rfl, ⟨by omega, hpe, fun _ => hn, by omega, ?_⟩, rfl⟩ (by omega) (by repeat' first | exact trivial | refine And.intro rfl ?_)
        rw [decide_eq_false (by omega)]
        exact hI
      · obtain rfl : i = v6 := by omega
        have hrk : X = (r, k) := by
          rw [← hI, Nat.sub_self]
          rfl
        repeat' (first | ((with_reducible apply T.mv); apply rfl; apply rfl) | ((with_reducible apply T.lss); apply rfl; apply rfl; apply rfl) | ((with_reducible apply T.pickF); apply rfl; apply rfl; apply rfl) | with_reducible refine Sr.nil ?_ | with_reducible refine S.seq ?_ | with_reducible refine S.reg ?_ | ((with_reducible apply S.exit); apply rfl) | ((with_reducible apply T.skip); apply rfl; apply rfl; apply rfl) | ((with_reducible apply S.condF); apply rfl) | ((with_reducible apply T.gcase); apply rfl; apply rfl; all_goals (intro _; try (exfalso; omega))) | fail)
        exact hrest _ _ _ ⟨r, k, hpr, hrk, rfl, rfl⟩ (by repeat' first | exact trivial | refine And.intro rfl ?_)
  rintro _ _ ⟨r, k, hpr, rfl, rfl, rfl⟩
  dsimp only at hE
  repeat' (first | ((with_reducible apply T.mv); apply rfl; apply rfl) | ((with_reducible apply T.asn); apply rfl; apply rfl) | ((with_reducible apply T.nilCheck); apply rfl; apply rfl) | ((with_reducible apply T.fieldAddrZ); apply rfl; apply rfl) | ((with_reducible apply T.load); apply rfl; apply rfl; infer_instance; apply rfl; apply rfl) | with_reducible refine Sr.nil ?_ | with_reducible refine S.seq ?_ | with_reducible refine S.reg ?_ | fail)
  refine T.call rfl rfl (numberR_spec (n := 8) (r := r) (l := l) hl hc hpr (by omega)) ?_
  rintro _ _ ⟨rfl, rfl⟩
  have hb8 := number_back (l := l) (r := r) (n := 8)
  have hp8 := number_pos (n := 8) hpr
  generalize (r.number l 8).1 = v8 at *
  generalize (r.number l 8).2 = r8 at *
  repeat' (first | ((with_reducible apply T.asn); apply rfl; apply rfl) | with_reducible refine Sr.nil ?_ | (with_reducible apply T.ofRet) | fail)
  refine S.seq ?_
  refine S.cut (fun H' e' => H' = .blk nb (rdV b l.length c (r8.need (r8.bad || decide (v8 = fnv (l.take r.pos))) 8)) 74 :: .blk q (bkV mb k) 63 :: bkM mb k :: H ∧ e' = [(0, .slice b l.length c), (5, .pointer (some ⟨nb, 0, none⟩)), (6, .pointer (some ⟨q, 0, none⟩))]) ?_ ?_
  · intro k' hrest
    clear hE
    by_cases h8 : r8.bad = true
    · have hrd : [Value.slice b l.length c, .int .i64 r8.pos, .bool true] = rdV b l.length c r8 := by unfold rdV; rw [h8]
      rw [h8] at hrest
      rw [← hrd]
      repeat' (first | ((with_reducible apply T.mv); apply rfl; apply rfl) | ((with_reducible apply T.nilCheck); apply rfl; apply rfl) | ((with_reducible apply T.fieldAddrZ); apply rfl; apply rfl) | ((with_reducible apply T.load); apply rfl; apply rfl; infer_instance; apply rfl; apply rfl) | ((with_reducible apply T.pickT); apply rfl; apply rfl; apply rfl) | with_reducible refine S.reg ?_ | ((with_reducible apply T.skip); apply rfl; apply rfl; apply rfl) | fail)
      rw [hrd]
      refine T.call rfl rfl (needR_spec (r := r8) (ok := true || decide (v8 = fnv (l.take r.pos))) (by omega) hb8) ?_
      rintro _ _ ⟨rfl, rfl⟩
      repeat' (first | with_reducible refine Sr.nil ?_ | (with_reducible apply T.ofRet) | fail)
      exact hrest _ _ _ ⟨rfl, rfl⟩ (by repeat' first | exact trivial | refine And.intro rfl ?_)
    · rw [Bool.not_eq_true] at h8
      have hrd : [Value.slice b l.length c, .int .i64 r8.pos, .bool false] = rdV b l.length c r8 := by unfold rdV; rw [h8]
      rw [h8] at hrest
      rw [← hrd]
      repeat' (first | ((with_reducible apply T.mv); apply rfl; apply rfl) | ((with_reducible apply T.nilCheck); apply rfl; apply rfl) | ((with_reducible apply T.fieldAddrZ); apply rfl; apply rfl) | ((with_reducible apply T.load); apply rfl; apply rfl; infer_instance; apply rfl; apply rfl) | ((with_reducible apply T.sliceHK); apply rfl; apply rfl; omega; apply rfl) | with_reducible refine S.reg ?_ | ((with_reducible apply T.ung); apply rfl) | fail)
      refine T.call rfl rfl (sum_take (l := l) hpr hl) ?_
      rintro _ _ ⟨rfl, rfl⟩
      repeat' (first | ((with_reducible apply T.eql); apply rfl; apply rfl; apply rfl) | ((with_reducible apply T.pickF); apply rfl; apply rfl; apply rfl) | ((with_reducible apply T.ung); apply rfl) | (with_reducible apply T.ofRet) | fail)
      have e3 : decide ((v8 : Int) = ((fnv (l.take r.pos) : Nat) : Int)) = (false || decide (v8 = fnv (l.take r.pos))) := by
        rw [Bool.false_or]
        exact decide_eq_decide.2 (by omega)
      rw [hrd, e3]
      refine T.call rfl rfl (needR_spec (r := r8) (ok := false || decide (v8 = fnv (l.take r.pos))) (by omega) hb8) ?_
      rintro _ _ ⟨rfl, rfl⟩
      repeat' (first | with_reducible refine Sr.nil ?_ | (with_reducible apply T.ofRet) | fail)
      exact hrest _ _ _ ⟨rfl, rfl⟩ (by repeat' first | exact trivial | refine And.intro rfl ?_)
  rintro _ _ ⟨rfl, rfl⟩
  have hp9 := need_le (ok := r8.bad || decide (v8 = fnv (l.take r.pos))) (n := 8) hp8
  generalize r8.need (r8.bad || decide (v8 = fnv (l.take r.pos))) 8 = r9 at *
  by_cases h9 : r9.bad = true
  · rw [if_pos (.inl h9)] at hE
    simp only [Prod.mk.injEq] at hE
    obtain ⟨rfl, rfl⟩ := hE
    unfold rdV
    rw [h9]
    dsimp only
    repeat' (first | ((with_reducible apply T.mv); apply rfl; apply rfl) | ((with_reducible apply T.asn); apply rfl; apply rfl) | ((with_reducible apply T.nilCheck); apply rfl; apply rfl) | ((with_reducible apply T.fieldAddrZ); apply rfl; apply rfl) | ((with_reducible apply T.load); apply rfl; apply rfl; infer_instance; apply rfl; apply rfl) | ((with_reducible apply T.pickT); apply rfl; apply rfl; apply rfl) | with_reducible refine Sr.nil ?_ | with_reducible refine S.seq ?_ | with_reducible refine S.reg ?_ | ((with_reducible apply S.quiet); apply rfl; kernel_rfl) | ((with_reducible apply T.skip); apply rfl; apply rfl; apply rfl) | ((with_reducible apply S.condT); apply rfl) | ((with_reducible apply T.retW); apply rfl) | fail)
    exact ⟨H, by ((repeat (first | dsimp only [List.set_cons_zero] | dsimp only [List.set_cons_succ])); repeat' first | exact PSub.refl _ | exact PSub.nil | ((with_reducible apply PSub.take); (repeat' first | (with_reducible exact pick_hd) | (with_reducible apply pick_tl))) | (with_reducible apply PSub.drop) | ((apply PSub.take); (repeat' first | exact pick_hd | (apply pick_tl)))), rfl, rfl⟩
  · by_cases hlt : r9.pos < l.length
    · rw [if_pos (.inr hlt)] at hE
      rw [Bool.not_eq_true] at h9
      simp only [Prod.mk.injEq] at hE
      obtain ⟨rfl, rfl⟩ := hE
      unfold rdV
      rw [h9]
      dsimp only
      repeat' (first | ((with_reducible apply T.mv); apply rfl; apply rfl) | ((with_reducible apply T.asn); apply rfl; apply rfl) | ((with_reducible apply T.len); apply rfl; apply rfl) | ((with_reducible apply T.nilCheck); apply rfl; apply rfl) | ((with_reducible apply T.fieldAddrZ); apply rfl; apply rfl) | ((with_reducible apply T.load); apply rfl; apply rfl; infer_instance; apply rfl; apply rfl) | ((with_reducible apply T.lss); apply rfl; apply rfl; apply rfl) | ((with_reducible apply T.pickF); apply rfl; apply rfl; apply rfl) | with_reducible refine Sr.nil ?_ | with_reducible refine S.seq ?_ | with_reducible refine S.reg ?_ | ((with_reducible apply S.quiet); apply rfl; kernel_rfl) | ((with_reducible apply T.ung); apply rfl) | ((with_reducible apply T.retW); apply rfl) | ((with_reducible apply S.condQ); apply rfl; all_goals (intro _; try (exfalso; omega))) | fail)
      exact ⟨H, by ((repeat (first | dsimp only [List.set_cons_zero] | dsimp only [List.set_cons_succ])); repeat' first | exact PSub.refl _ | exact PSub.nil | ((with_reducible apply PSub.take); (repeat' first | (with_reducible exact pick_hd) | (with_reducible apply pick_tl))) | (with_reducible apply PSub.drop) | ((apply PSub.take); (repeat' first | exact pick_hd | (apply pick_tl)))), rfl, rfl⟩
    · rw [if_neg (by simp [h9, hlt])] at hE
      rw [Bool.not_eq_true] at h9
      simp only [Prod.mk.injEq] at hE
      obtain ⟨rfl, rfl⟩ := hE
      unfold rdV
      rw [h9]
      dsimp only
      repeat' (first | ((with_reducible apply T.mv); apply rfl; apply rfl) | ((with_reducible apply T.asn); apply rfl; apply rfl) | ((with_reducible apply T.len); apply rfl; apply rfl) | ((with_reducible apply T.nilCheck); apply rfl; apply rfl) | ((with_reducible apply T.fieldAddrZ); apply rfl; apply rfl) | ((with_reducible apply T.load); apply rfl; apply rfl; infer_instance; apply rfl; apply rfl) | ((with_reducible apply T.lss); apply rfl; apply rfl; apply rfl) | ((with_reducible apply T.pickF); apply rfl; apply rfl; apply rfl) | with_reducible refine Sr.nil ?_ | with_reducible refine S.seq ?_ | with_reducible refine S.reg ?_ | with_reducible refine S.skip ?_ | ((with_reducible apply T.ung); apply rfl) | ((with_reducible apply T.retW); apply rfl) | ((with_reducible apply S.condQ); apply rfl; all_goals (intro _; try (exfalso; omega))) | fail)
      exact ⟨_, by ((repeat (first | dsimp only [List.set_cons_zero] | dsimp only [List.set_cons_succ])); repeat' first | exact PSub.refl _ | exact PSub.nil | ((with_reducible apply PSub.take); (repeat' first | (with_reducible exact pick_hd) | (with_reducible apply pick_tl))) | (with_reducible apply PSub.drop) | ((apply PSub.take); (repeat' first | exact pick_hd | (apply pick_tl)))), q, mb, rfl, rfl⟩
end Go.Proofs.Ytcojlgkfkifhmaa
