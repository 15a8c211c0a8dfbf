/- The walks of the program's book: the reader's byte and entry. -/
import Derived.Test.YtcojlgkfkifhmaaRepG
/- maps -/
namespace Go.Proofs.Ytcojlgkfkifhmaa
open Sg Go.IntWalk
set_option maxRecDepth 100000
set_option maxHeartbeats 1000000
theorem take_pos {l : List UInt8} {r : Rr} {n : Nat} (h : r.pos ≤ l.length) : (r.take l n).2.pos ≤ l.length := by
  unfold Rr.take
  split
  · exact h
  · rename_i h1
    show r.pos + n ≤ l.length
    omega
theorem take_back {l : List UInt8} {r : Rr} {n : Nat} (h : (r.take l n).2.bad = false) : n ≤ (r.take l n).2.pos := by
  unfold Rr.take at h ⊢
  split at h
  · cases h
  · rename_i h1
    rw [if_neg h1]
    show n ≤ r.pos + n
    omega
theorem need_pos {r : Rr} {ok : Bool} {n : Nat} : (r.need ok n).pos ≤ r.pos := by
  unfold Rr.need
  split
  · exact Nat.sub_le _ _
  · exact Nat.le_refl _
theorem number_pos {l : List UInt8} {r : Rr} {n : Nat} (h : r.pos ≤ l.length) : (r.number l n).2.pos ≤ l.length := take_pos h
theorem number_back {l : List UInt8} {r : Rr} {n : Nat} (h : (r.number l n).2.bad = false) : n ≤ (r.number l n).2.pos := take_back h
theorem number_lt {l : List UInt8} {r : Rr} {n : Nat} (h : n ≤ 8) : (r.number l n).1 < 18446744073709551616 := beV_lt64 (by rw [take_len]; exact h)
theorem number_lt256 {l : List UInt8} {r : Rr} {n : Nat} : (r.number l n).1 < 256 ^ n := by
  have := beV_lt (r.take l n).1
  rwa [take_len] at this
theorem byteR_spec {F : World} {M : List Nat} {H : List Res} {p c lo hi : Nat} {b : Option Addr} {l : List UInt8} {r : Rr} [hR : Rd F M H b (l.map bV)] (hl : l.length ≤ 1000000000000000) (hc : l.length ≤ c) (hp : r.pos ≤ l.length) :
    Meets Try.prog 34 [.pointer (some ⟨p, 0, none⟩), .int .u64 lo, .int .u64 hi] F M (.blk p (rdV b l.length c r) 74 :: H) (fun e H' => e = .returned (.int .u8 ((r.byte l lo hi).1 : Nat)) ∧ H' = .blk p (rdV b l.length c (r.byte l lo hi).2) 74 :: H) := by
  unfold Rr.byte
  refine Meets.enter Try.func34 rfl rfl ?_
  repeat' (first | ((with_reducible apply T.mv); apply rfl; apply rfl) | ((with_reducible apply T.asn); apply rfl; apply rfl) | with_reducible refine Sr.nil ?_ | with_reducible refine S.seq ?_ | with_reducible refine S.reg ?_ | fail)
  refine T.call rfl rfl (numberR_spec (n := 1) (r := r) (l := l) hl hc hp (by omega)) ?_
  rintro _ _ ⟨rfl, rfl⟩
  have hb := number_back (l := l) (r := r) (n := 1)
  have hq := number_pos (n := 1) hp
  have hv := number_lt256 (l := l) (r := r) (n := 1)
  repeat' (first | ((with_reducible apply T.mv); apply rfl; apply rfl) | ((with_reducible apply T.asn); apply rfl; apply rfl) | ((with_reducible apply T.geq); apply rfl; apply rfl; apply rfl) | with_reducible refine Sr.nil ?_ | with_reducible refine S.seq ?_ | with_reducible refine S.reg ?_ | (with_reducible apply T.ofRet) | fail)
  generalize (r.number l 1).1 = v at *
  generalize (r.number l 1).2 = r2 at *
  have e3 : (v : Int) % 256 = (v : Int) := by omega
  by_cases h : lo ≤ v
  · have e1 : (decide (lo ≤ v) && decide (v ≤ hi)) = decide ((v : Int) ≤ (hi : Int)) := by
      rw [decide_eq_true h, Bool.true_and]
      exact decide_eq_decide.2 (by omega)
    rw [e1]
    repeat' (first | ((with_reducible apply T.mv); apply rfl; apply rfl) | ((with_reducible apply T.leq); apply rfl; apply rfl; apply rfl) | ((with_reducible apply T.pickT); apply rfl; apply rfl; apply rfl) | ((with_reducible apply T.ung); apply rfl) | ((with_reducible apply T.gcase); apply rfl; apply rfl; all_goals (intro _; try (exfalso; omega))) | fail)
    refine T.call rfl rfl (needR_spec (r := r2) (by omega) hb) ?_
    rintro _ _ ⟨rfl, rfl⟩
    repeat' (first | ((with_reducible apply T.convMU8); apply rfl; apply rfl; rw [e3]) | ((with_reducible apply T.mv); apply rfl; apply rfl) | ((with_reducible apply T.asn); apply rfl; apply rfl) | with_reducible refine Sr.nil ?_ | with_reducible refine S.seq ?_ | with_reducible refine S.reg ?_ | ((with_reducible apply T.retW); apply rfl) | (with_reducible apply T.ofRet) | fail)
    exact ⟨_, PSub.refl _, rfl, rfl⟩
  · have e1 : (decide (lo ≤ v) && decide (v ≤ hi)) = false := by rw [decide_eq_false h, Bool.false_and]
    rw [e1]
    repeat' (first | ((with_reducible apply T.pickF); apply rfl; apply rfl; apply rfl) | ((with_reducible apply T.skip); apply rfl; apply rfl; apply rfl) | ((with_reducible apply T.gcase); apply rfl; apply rfl; all_goals (intro _; try (exfalso; omega))) | fail)
    refine T.call rfl rfl (needR_spec (r := r2) (by omega) hb) ?_
    rintro _ _ ⟨rfl, rfl⟩
    repeat' (first | ((with_reducible apply T.convMU8); apply rfl; apply rfl; rw [e3]) | ((with_reducible apply T.mv); apply rfl; apply rfl) | ((with_reducible apply T.asn); apply rfl; apply rfl) | with_reducible refine Sr.nil ?_ | with_reducible refine S.seq ?_ | with_reducible refine S.reg ?_ | ((with_reducible apply T.retW); apply rfl) | (with_reducible apply T.ofRet) | fail)
    exact ⟨_, PSub.refl _, rfl, rfl⟩
/-- A number of 64 bits, with its sign. -/
def toI (n : Nat) : Int := if n < 9223372036854775808 then n else (n : Int) - 18446744073709551616
theorem toI_wrap {n : Nat} (h : n < 18446744073709551616) : IntKind.i64.wrap (n : Int) = toI n := by
  rw [IntKind.wrap_i64]
  unfold toI
  split <;> omega
theorem toI_range {n : Nat} (h : n < 18446744073709551616) : -9223372036854775808 ≤ toI n ∧ toI n ≤ 9223372036854775807 := by
  unfold toI
  split <;> omega
theorem wf_i64 {z : Int} : (Lit.int .i64 z).wf = true ↔ -9223372036854775808 ≤ z ∧ z ≤ 9223372036854775807 := by
  simp only [Lit.wf, IntKind.min, IntKind.max, IntKind.bits, IntKind.signed]
  simp
def gtB (a b : List UInt8) : Bool := !(Op.bytesLess a b || decide (a = b))
theorem gtB_eq (a b : List UInt8) : gtB a b = decide (b < a) := by
  unfold gtB
  rw [Go.Proofs.bytesLess_eq]
  by_cases h1 : a < b
  · rw [decide_eq_true h1, Bool.true_or, decide_eq_false (fun h2 => lt_irr a (List.lt_trans h1 h2))]
    rfl
  · by_cases h2 : a = b
    · subst h2
      rw [decide_eq_true rfl, Bool.or_true, decide_eq_false (lt_irr a)]
      rfl
    · rw [decide_eq_false h1, decide_eq_false h2, decide_eq_true (lt_tri h1 h2)]
      rfl
theorem need_ok {r : Rr} {ok : Bool} {n : Nat} (h : (r.need ok n).bad = false) : r.bad = false ∧ ok = true ∧ r.need ok n = r := by
  unfold Rr.need at h ⊢
  split at h
  · cases h
  · rename_i h1
    rw [if_neg h1]
    cases ok with
    | true => exact ⟨h, rfl, rfl⟩
    | false => exact absurd ⟨h, rfl⟩ h1
/-- What entry reads: the name, the reader, the book. -/
def entryR (l : List UInt8) (r : Rr) (k : Bk) (first : Bool) (ahead : List UInt8) : List UInt8 × Rr × Bk :=
  let r2 := (r.number l 2).2.need (decide ((r.number l 2).1 ≤ 1024)) 2
  if r2.bad = true then ([], r2, k) else
  let name := (r2.take l (r.number l 2).1).1
  let r4 := (r2.take l (r.number l 2).1).2.need (first || gtB name ahead) (r.number l 2).1
  let z := toI (r4.number l 8).1
  let r6 := (r4.number l 8).2.need (decide (k.last ≤ z)) 8
  if r6.bad = true then (name, r6, k) else (name, r6, ⟨k.has, k.last, eput k.ends name z⟩)
theorem entryR_spec {F : World} {M : List Nat} {H : List Res} {p q mb c : Nat} {b : Option Addr} {l : List UInt8} {r : Rr} {k : Bk} {first : Bool} {ahead : List UInt8} [hR : Rd F M H b (l.map bV)] (hl : l.length ≤ 1000000000000000) (hc : l.length ≤ c) (hp : r.pos ≤ l.length) (hk : k.ends.length ≤ 1000000) :
    Meets Try.prog 37 [.pointer (some ⟨p, 0, none⟩), .pointer (some ⟨q, 0, none⟩), .bool first, sV ahead] F M (.blk p (rdV b l.length c r) 74 :: .blk q (bkV mb k) 63 :: bkM mb k :: H) (fun e H' => e = .returned (sV (entryR l r k first ahead).1) ∧ H' = .blk p (rdV b l.length c (entryR l r k first ahead).2.1) 74 :: .blk q (bkV mb (entryR l r k first ahead).2.2) 63 :: bkM mb (entryR l r k first ahead).2.2 :: H) := by
  generalize hE : entryR l r k first ahead = E
  obtain ⟨nm, r', k'⟩ := E
  unfold entryR at hE
  dsimp only at hE ⊢
  refine Meets.enter Try.func37 rfl rfl ?_
  repeat' (first | ((with_reducible apply T.mv); apply rfl; apply rfl) | ((with_reducible apply T.asn); apply rfl; apply rfl) | with_reducible refine Sr.nil ?_ | with_reducible refine S.seq ?_ | with_reducible refine S.reg ?_ | fail)
  refine T.call rfl rfl (numberR_spec (n := 2) (r := r) (l := l) hl hc hp (by omega)) ?_
  rintro _ _ ⟨rfl, rfl⟩
  have hb := number_back (l := l) (r := r) (n := 2)
  have hq := number_pos (n := 2) hp
  have hv := number_lt256 (l := l) (r := r) (n := 2)
  repeat' (first | ((with_reducible apply T.mv); apply rfl; apply rfl) | ((with_reducible apply T.asn); apply rfl; apply rfl) | ((with_reducible apply T.leq); apply rfl; apply rfl; apply rfl) | ((with_reducible apply T.convI64); apply rfl; omega; apply rfl) | with_reducible refine Sr.nil ?_ | with_reducible refine S.seq ?_ | with_reducible refine S.reg ?_ | (with_reducible apply T.ofRet) | fail)
  generalize (r.number l 2).1 = v at *
  generalize (r.number l 2).2 = r1 at *
  have e1 : decide (v ≤ 1024) = decide ((v : Int) ≤ 1024) := decide_eq_decide.2 (by omega)
  rw [e1] at hE
  refine T.call rfl rfl (needR_spec (r := r1) (by omega) hb) ?_
  rintro _ _ ⟨rfl, rfl⟩
  have hq2 : (r1.need (decide ((v : Int) ≤ 1024)) 2).pos ≤ l.length := Nat.le_trans need_pos hq
  have hok := need_ok (r := r1) (ok := decide ((v : Int) ≤ 1024)) (n := 2)
  repeat' (first | ((with_reducible apply T.mv); apply rfl; apply rfl) | ((with_reducible apply T.nilCheck); apply rfl; apply rfl) | ((with_reducible apply T.fieldAddrZ); apply rfl; apply rfl) | ((with_reducible apply T.load); apply rfl; apply rfl; infer_instance; apply rfl; apply rfl) | with_reducible refine Sr.nil ?_ | with_reducible refine S.seq ?_ | with_reducible refine S.reg ?_ | (with_reducible apply T.ofRet) | fail)
  generalize r1.need (decide ((v : Int) ≤ 1024)) 2 = r2 at *
  by_cases h2 : r2.bad = true
  · rw [if_pos h2] at hE
    simp only [Prod.mk.injEq] at hE
    obtain ⟨rfl, rfl, rfl⟩ := hE
    rw [h2]
    repeat' (first | ((with_reducible apply T.asn); apply rfl; apply rfl) | with_reducible refine Sr.nil ?_ | with_reducible refine S.seq ?_ | with_reducible refine S.reg ?_ | ((with_reducible apply S.condT); apply rfl) | ((with_reducible apply T.retW); apply rfl) | fail)
    exact ⟨_, PSub.refl _, rfl, rfl⟩
  rw [if_neg h2] at hE
  rw [Bool.not_eq_true] at h2
  obtain ⟨h3, h4, rfl⟩ := hok h2
  have hv2 : v ≤ 1024 := by
    have := of_decide_eq_true h4
    omega
  rw [h2]
  repeat' (first | ((with_reducible apply T.mv); apply rfl; apply rfl) | with_reducible refine S.seq ?_ | with_reducible refine S.reg ?_ | with_reducible refine S.skip ?_ | ((with_reducible apply S.condF); apply rfl) | fail)
  refine T.call rfl rfl (takeR_spec (n := v) (r := r2) (l := l) hl hc hq2 (by omega)) ?_
  rintro _ _ ⟨t0, ta, tc, rfl, rfl, i1⟩
  have hnl : (r2.take l v).1.length = v := take_len
  have hb3 := take_back (l := l) (r := r2) (n := v)
  have hq3 : (r2.take l v).2.pos ≤ l.length := take_pos hq2
  with_reducible apply T.ofRet
  with_reducible apply T.convS
  apply rfl
  exact i1
  exact hnl
  apply rfl
  generalize (r2.take l v).1 = name at *
  generalize (r2.take l v).2 = r3 at *
  repeat' (first | ((with_reducible apply T.mv); apply rfl; apply rfl) | ((with_reducible apply T.asn); apply rfl; apply rfl) | with_reducible refine Sr.nil ?_ | with_reducible refine S.seq ?_ | with_reducible refine S.reg ?_ | fail)
  have hq4 : (r3.need (first || gtB name ahead) v).pos ≤ l.length := Nat.le_trans need_pos hq3
  cases first with
  | true =>
    repeat' (first | ((with_reducible apply T.mv); apply rfl; apply rfl) | ((with_reducible apply T.pickT); apply rfl; apply rfl; apply rfl) | ((with_reducible apply T.skip); apply rfl; apply rfl; apply rfl) | fail)
    refine Sr.drop ?_
    refine T.call rfl rfl (needR_spec (r := r3) (ok := true || gtB name ahead) (by omega) hb3) ?_
    rintro _ _ ⟨rfl, rfl⟩
    repeat' (first | ((with_reducible apply T.mv); apply rfl; apply rfl) | with_reducible refine Sr.nil ?_ | with_reducible refine S.seq ?_ | with_reducible refine S.reg ?_ | (with_reducible apply T.ofRet) | fail)
    generalize r3.need (true || gtB name ahead) v = r4 at *
    refine T.call rfl rfl (numberR_spec (n := 8) (r := r4) (l := l) hl hc hq4 (by omega)) ?_
    rintro _ _ ⟨rfl, rfl⟩
    have hb5 := number_back (l := l) (r := r4) (n := 8)
    have hq5 := number_pos (n := 8) hq4
    have hv5 := number_lt (l := l) (r := r4) (n := 8) (by omega)
    generalize (r4.number l 8).1 = ev at *
    generalize (r4.number l 8).2 = r5 at *
    with_reducible apply T.ofRet
    with_reducible apply T.conv
    apply rfl
    exact toI_wrap hv5
    apply rfl
    repeat' (first | ((with_reducible apply T.mv); apply rfl; apply rfl) | ((with_reducible apply T.asn); apply rfl; apply rfl) | ((with_reducible apply T.nilCheck); apply rfl; apply rfl) | ((with_reducible apply T.fieldAddrZ); apply rfl; apply rfl) | ((with_reducible apply T.load); apply rfl; apply rfl; infer_instance; apply rfl; apply rfl) | ((with_reducible apply T.geq); apply rfl; apply rfl; apply rfl) | with_reducible refine Sr.nil ?_ | with_reducible refine S.seq ?_ | with_reducible refine S.reg ?_ | fail)
    refine T.call rfl rfl (needR_spec (r := r5) (ok := decide (k.last ≤ toI ev)) (by omega) hb5) ?_
    rintro _ _ ⟨rfl, rfl⟩
    generalize r5.need (decide (k.last ≤ toI ev)) 8 = r6 at *
    by_cases h6 : r6.bad = true
    · rw [if_pos h6] at hE
      simp only [Prod.mk.injEq] at hE
      obtain ⟨rfl, rfl, rfl⟩ := hE
      repeat' (first | ((with_reducible apply T.mv); apply rfl; apply rfl) | ((with_reducible apply T.nilCheck); apply rfl; apply rfl) | ((with_reducible apply T.fieldAddrZ); apply rfl; apply rfl) | ((with_reducible apply T.load); apply rfl; apply rfl; infer_instance; apply rfl; apply rfl) | ((with_reducible apply T.notB); apply rfl; apply rfl) | with_reducible refine Sr.nil ?_ | with_reducible refine S.seq ?_ | with_reducible refine S.reg ?_ | (with_reducible apply T.ofRet) | fail)
      rw [h6]
      repeat' (first | ((with_reducible apply T.mv); apply rfl; apply rfl) | ((with_reducible apply T.asn); apply rfl; apply rfl) | with_reducible refine Sr.nil ?_ | with_reducible refine S.seq ?_ | with_reducible refine S.reg ?_ | with_reducible refine S.skip ?_ | ((with_reducible apply S.condF); apply rfl) | ((with_reducible apply T.retW); apply rfl) | fail)
      exact ⟨_, PSub.refl _, rfl, rfl⟩
    · rw [if_neg h6] at hE
      simp only [Prod.mk.injEq] at hE
      obtain ⟨rfl, rfl, rfl⟩ := hE
      rw [Bool.not_eq_true] at h6
      repeat' (first | ((with_reducible apply T.mv); apply rfl; apply rfl) | ((with_reducible apply T.nilCheck); apply rfl; apply rfl) | ((with_reducible apply T.fieldAddrZ); apply rfl; apply rfl) | ((with_reducible apply T.load); apply rfl; apply rfl; infer_instance; apply rfl; apply rfl) | ((with_reducible apply T.notB); apply rfl; apply rfl) | with_reducible refine Sr.nil ?_ | with_reducible refine S.seq ?_ | with_reducible refine S.reg ?_ | (with_reducible apply T.ofRet) | fail)
      rw [h6]
      repeat' (first | ((with_reducible apply T.mv); apply rfl; apply rfl) | ((with_reducible apply T.nilCheck); apply rfl; apply rfl) | ((with_reducible apply T.fieldAddrZ); apply rfl; apply rfl) | ((with_reducible apply T.load); apply rfl; apply rfl; infer_instance; apply rfl; apply rfl) | with_reducible refine S.reg ?_ | ((with_reducible apply S.condT); apply rfl) | fail)
      refine Sr.front mb ?_
      refine T.mapPutT rfl rfl rfl (by simp only [maxLen]; omega) (by simp only [maxLen]; omega) (wf_i64.2 (toI_range hv5)) ?_
      repeat' (first | ((with_reducible apply T.mv); apply rfl; apply rfl) | ((with_reducible apply T.asn); apply rfl; apply rfl) | with_reducible refine Sr.nil ?_ | with_reducible refine S.seq ?_ | with_reducible refine S.reg ?_ | ((with_reducible apply T.retW); apply rfl) | fail)
      exact ⟨_, by ((repeat (first | dsimp only [List.set_cons_zero] | dsimp only [List.set_cons_succ])); repeat' first | exact PSub.refl _ | exact PSub.nil | ((with_reducible apply PSub.take); (repeat' first | (with_reducible exact pick_hd) | (with_reducible apply pick_tl))) | (with_reducible apply PSub.drop) | ((apply PSub.take); (repeat' first | exact pick_hd | (apply pick_tl)))), rfl, rfl⟩
  | false =>
    repeat' (first | ((with_reducible apply T.sgtr); apply rfl; apply rfl; apply rfl) | ((with_reducible apply T.mv); apply rfl; apply rfl) | ((with_reducible apply T.pickF); apply rfl; apply rfl; apply rfl) | ((with_reducible apply T.ung); apply rfl) | fail)
    refine Sr.drop ?_
    refine T.call rfl rfl (needR_spec (r := r3) (ok := false || gtB name ahead) (by omega) hb3) ?_
    rintro _ _ ⟨rfl, rfl⟩
    repeat' (first | ((with_reducible apply T.mv); apply rfl; apply rfl) | with_reducible refine Sr.nil ?_ | with_reducible refine S.seq ?_ | with_reducible refine S.reg ?_ | (with_reducible apply T.ofRet) | fail)
    generalize r3.need (false || gtB name ahead) v = r4 at *
    refine T.call rfl rfl (numberR_spec (n := 8) (r := r4) (l := l) hl hc hq4 (by omega)) ?_
    rintro _ _ ⟨rfl, rfl⟩
    have hb5 := number_back (l := l) (r := r4) (n := 8)
    have hq5 := number_pos (n := 8) hq4
    have hv5 := number_lt (l := l) (r := r4) (n := 8) (by omega)
    generalize (r4.number l 8).1 = ev at *
    generalize (r4.number l 8).2 = r5 at *
    with_reducible apply T.ofRet
    with_reducible apply T.conv
    apply rfl
    exact toI_wrap hv5
    apply rfl
    repeat' (first | ((with_reducible apply T.mv); apply rfl; apply rfl) | ((with_reducible apply T.asn); apply rfl; apply rfl) | ((with_reducible apply T.nilCheck); apply rfl; apply rfl) | ((with_reducible apply T.fieldAddrZ); apply rfl; apply rfl) | ((with_reducible apply T.load); apply rfl; apply rfl; infer_instance; apply rfl; apply rfl) | ((with_reducible apply T.geq); apply rfl; apply rfl; apply rfl) | with_reducible refine Sr.nil ?_ | with_reducible refine S.seq ?_ | with_reducible refine S.reg ?_ | fail)
    refine T.call rfl rfl (needR_spec (r := r5) (ok := decide (k.last ≤ toI ev)) (by omega) hb5) ?_
    rintro _ _ ⟨rfl, rfl⟩
    generalize r5.need (decide (k.last ≤ toI ev)) 8 = r6 at *
    by_cases h6 : r6.bad = true
    · rw [if_pos h6] at hE
      simp only [Prod.mk.injEq] at hE
      obtain ⟨rfl, rfl, rfl⟩ := hE
      repeat' (first | ((with_reducible apply T.mv); apply rfl; apply rfl) | ((with_reducible apply T.nilCheck); apply rfl; apply rfl) | ((with_reducible apply T.fieldAddrZ); apply rfl; apply rfl) | ((with_reducible apply T.load); apply rfl; apply rfl; infer_instance; apply rfl; apply rfl) | ((with_reducible apply T.notB); apply rfl; apply rfl) | with_reducible refine Sr.nil ?_ | with_reducible refine S.seq ?_ | with_reducible refine S.reg ?_ | (with_reducible apply T.ofRet) | fail)
      rw [h6]
      repeat' (first | ((with_reducible apply T.mv); apply rfl; apply rfl) | ((with_reducible apply T.asn); apply rfl; apply rfl) | with_reducible refine Sr.nil ?_ | with_reducible refine S.seq ?_ | with_reducible refine S.reg ?_ | with_reducible refine S.skip ?_ | ((with_reducible apply S.condF); apply rfl) | ((with_reducible apply T.retW); apply rfl) | fail)
      exact ⟨_, PSub.refl _, rfl, rfl⟩
    · rw [if_neg h6] at hE
      simp only [Prod.mk.injEq] at hE
      obtain ⟨rfl, rfl, rfl⟩ := hE
      rw [Bool.not_eq_true] at h6
      repeat' (first | ((with_reducible apply T.mv); apply rfl; apply rfl) | ((with_reducible apply T.nilCheck); apply rfl; apply rfl) | ((with_reducible apply T.fieldAddrZ); apply rfl; apply rfl) | ((with_reducible apply T.load); apply rfl; apply rfl; infer_instance; apply rfl; apply rfl) | ((with_reducible apply T.notB); apply rfl; apply rfl) | with_reducible refine Sr.nil ?_ | with_reducible refine S.seq ?_ | with_reducible refine S.reg ?_ | (with_reducible apply T.ofRet) | fail)
      rw [h6]
      repeat' (first | ((with_reducible apply T.mv); apply rfl; apply rfl) | ((with_reducible apply T.nilCheck); apply rfl; apply rfl) | ((with_reducible apply T.fieldAddrZ); apply rfl; apply rfl) | ((with_reducible apply T.load); apply rfl; apply rfl; infer_instance; apply rfl; apply rfl) | with_reducible refine S.reg ?_ | ((with_reducible apply S.condT); apply rfl) | fail)
      refine Sr.front mb ?_
      refine T.mapPutT rfl rfl rfl (by simp only [maxLen]; omega) (by simp only [maxLen]; omega) (wf_i64.2 (toI_range hv5)) ?_
      repeat' (first | ((with_reducible apply T.mv); apply rfl; apply rfl) | ((with_reducible apply T.asn); apply rfl; apply rfl) | with_reducible refine Sr.nil ?_ | with_reducible refine S.seq ?_ | with_reducible refine S.reg ?_ | ((with_reducible apply T.retW); apply rfl) | fail)
      exact ⟨_, by ((repeat (first | dsimp only [List.set_cons_zero] | dsimp only [List.set_cons_succ])); repeat' first | exact PSub.refl _ | exact PSub.nil | ((with_reducible apply PSub.take); (repeat' first | (with_reducible exact pick_hd) | (with_reducible apply pick_tl))) | (with_reducible apply PSub.drop) | ((apply PSub.take); (repeat' first | exact pick_hd | (apply pick_tl)))), rfl, rfl⟩
end Go.Proofs.Ytcojlgkfkifhmaa
