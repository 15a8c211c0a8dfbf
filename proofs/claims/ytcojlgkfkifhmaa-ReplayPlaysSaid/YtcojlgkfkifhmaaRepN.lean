/- What was taken: the last end of a name, how many live; the walks of live and count. -/
import Derived.Test.YtcojlgkfkifhmaaRepM
/- maps -/
namespace Go.Proofs.Ytcojlgkfkifhmaa
open Sg Go.IntWalk
set_option maxRecDepth 100000
set_option maxHeartbeats 1000000
/-- The last end of a name. -/
def lastE (n : List UInt8) : Ents → Option Int
  | [] => none
  | x :: r => match lastE n r with
    | some e => some e
    | none => if x.1 = n then some x.2 else none
/-- The last entry of each name. -/
def lasts : Ents → Ents
  | [] => []
  | x :: r => if r.any (fun p => decide (p.1 = x.1)) = true then lasts r else x :: lasts r
def liveM (es : Ents) (n : List UInt8) (now : Int) : Bool := match lastE n es with
  | some e => decide (now ≤ e)
  | none => false
theorem lastE_append (n : List UInt8) : ∀ (a b : Ents), lastE n (a ++ b) = match lastE n b with
    | some e => some e
    | none => lastE n a
  | [], b => by cases h : lastE n b <;> simp [lastE, h]
  | x :: a, b => by
    rw [List.cons_append, lastE, lastE_append n a b, lastE]
    cases lastE n b <;> rfl
theorem lasts_mem {p : List UInt8 × Int} : ∀ {es : Ents}, p ∈ lasts es → p ∈ es
  | x :: r, h => by
    unfold lasts at h
    split at h
    · exact List.mem_cons_of_mem _ (lasts_mem h)
    · rcases List.mem_cons.1 h with rfl | h
      · exact List.mem_cons_self ..
      · exact List.mem_cons_of_mem _ (lasts_mem h)
theorem lasts_once : ∀ es : Ents, Once (lasts es)
  | [] => List.Pairwise.nil
  | x :: r => by
    unfold lasts
    split
    · exact lasts_once r
    · rename_i h
      refine List.pairwise_cons.2 ⟨fun p hp he => h ?_, lasts_once r⟩
      rw [List.any_eq_true]
      exact ⟨p, lasts_mem hp, decide_eq_true he.symm⟩
theorem eget_cons (x : List UInt8 × Int) (m : Ents) (n : List UInt8) : eget (x :: m) n = if x.1 = n then some x.2 else eget m n := by
  unfold eget
  rw [List.find?_cons]
  by_cases h : x.1 = n
  · rw [if_pos h, show (x.1 == n) = true by simpa using h]
    rfl
  · rw [if_neg h, show (x.1 == n) = false by simpa using h]
theorem eget_none {m : Ents} {n : List UInt8} (h : ∀ p ∈ m, p.1 ≠ n) : eget m n = none := by
  unfold eget
  rw [List.find?_eq_none.2 fun p hp => by simpa using h p hp]
  rfl
theorem lastE_none {n : List UInt8} : ∀ {es : Ents}, lastE n es = none ↔ ∀ p ∈ es, p.1 ≠ n
  | [] => by simp [lastE]
  | x :: r => by
    have ih := lastE_none (n := n) (es := r)
    unfold lastE
    cases h : lastE n r with
    | some e =>
      rw [h] at ih
      constructor
      · intro h; cases h
      · intro h2
        have := ih.2 fun p hp => h2 p (List.mem_cons_of_mem _ hp)
        cases this
    | none =>
      have h3 := ih.1 h
      by_cases hx : x.1 = n
      · simp [hx]
      · simp only [hx, if_false, List.mem_cons, forall_eq_or_imp, true_iff]
        exact ⟨hx, h3⟩
theorem eget_lasts (n : List UInt8) : ∀ es : Ents, eget (lasts es) n = lastE n es
  | [] => rfl
  | x :: r => by
    have ih := eget_lasts n r
    unfold lasts lastE
    split
    · rename_i h
      rw [ih]
      cases hr : lastE n r with
      | some e => rfl
      | none =>
        have h2 := lastE_none.1 hr
        rw [List.any_eq_true] at h
        obtain ⟨p, hp, he⟩ := h
        have hx : x.1 ≠ n := fun hx => h2 p hp ((of_decide_eq_true he).trans hx)
        rw [if_neg hx]
    · rename_i h
      rw [eget_cons, ih]
      cases hr : lastE n r with
      | some e =>
        have hx : x.1 ≠ n := fun hx => by
          have h2 : lastE n r = none := lastE_none.2 fun p hp he => h (List.any_eq_true.2 ⟨p, hp, decide_eq_true (he.trans hx.symm)⟩)
          rw [hr] at h2
          cases h2
        rw [if_neg hx]
      | none => rfl
theorem once_mem {m : Ents} (h : Once m) {p : List UInt8 × Int} : p ∈ m ↔ eget m p.1 = some p.2 := by
  constructor
  · exact once_get h
  · intro hg
    unfold eget at hg
    cases hf : m.find? fun q => q.1 == p.1 with
    | none => rw [hf] at hg; cases hg
    | some q =>
      rw [hf] at hg
      have h1 := List.mem_of_find?_eq_some hf
      have h2 := List.find?_some hf
      simp only [beq_iff_eq] at h2
      simp only [Option.map_some, Option.some.injEq] at hg
      obtain ⟨a, b⟩ := q
      obtain ⟨c, d⟩ := p
      simp only at h2 hg
      subst h2 hg
      exact h1
theorem once_same {a b : Ents} (ha : Once a) (hb : Once b) (h : ∀ n, eget a n = eget b n) : a.length = b.length := by
  have na : a.Nodup := ha.imp fun {p q} hpq he => hpq (by rw [he])
  have nb : b.Nodup := hb.imp fun {p q} hpq he => hpq (by rw [he])
  refine ((List.perm_ext_iff_of_nodup na nb).2 fun p => ?_).length_eq
  rw [once_mem ha, once_mem hb, h]
theorem eget_live {m : Ents} (h : Once m) (now : Int) (n : List UInt8) : eget (live now m) n = (eget m n).filter fun e => decide (now ≤ e) := by
  have hl : Once (live now m) := h.filter _
  cases hm : eget m n with
  | none =>
    show _ = none
    cases hq : eget (live now m) n with
    | none => rfl
    | some e =>
      have := (once_mem hl (p := (n, e))).2 hq
      have := (once_mem h (p := (n, e))).1 (List.mem_filter.1 this).1
      rw [hm] at this
      cases this
  | some e =>
    have hmem := (once_mem h (p := (n, e))).2 hm
    by_cases hd : now ≤ e
    · rw [Option.filter_some, if_pos (decide_eq_true hd)]
      exact (once_mem hl (p := (n, e))).1 (List.mem_filter.2 ⟨hmem, decide_eq_true hd⟩)
    · rw [Option.filter_some, if_neg (by simpa using hd)]
      cases hq : eget (live now m) n with
      | none => rfl
      | some e2 =>
        have h1 := List.mem_filter.1 ((once_mem hl (p := (n, e2))).2 hq)
        have h2 := (once_mem h (p := (n, e2))).1 h1.1
        rw [hm] at h2
        simp only [Option.some.injEq] at h2
        subst h2
        exact absurd (of_decide_eq_true h1.2) hd
/- Walks. -/
abbrev enV (p : List UInt8 × Int) : List Value := [sV p.1, .int .i64 p.2]
theorem live_spec {F : World} {M : List Nat} {H : List Res} {c : Nat} {b : Option Addr} {es : Ents} {n : List UInt8} {now : Int} [hR : Rd F M H b (es.flatMap enV)] (hl : es.length ≤ 1000000) :
    Meets Try.prog 25 [.slice b es.length c, sV n, .int .i64 now] F M H (fun e H' => e = .returned (.bool (liveM es n now)) ∧ H' = H) := by
  refine Meets.enter Try.func25 rfl rfl ?_
  repeat' (first | ((with_reducible apply T.mv); apply rfl; apply rfl) | ((with_reducible apply T.asn); apply rfl; apply rfl) | ((with_reducible apply T.len); apply rfl; apply rfl) | ((with_reducible apply T.subI); apply rfl; apply rfl; omega; apply rfl) | with_reducible refine Sr.nil ?_ | with_reducible refine S.seq ?_ | with_reducible refine S.block ?_ | with_reducible refine S.reg ?_ | fail)
  refine S.loopE 0 [0, 1, 2] (fun R b' μ H' e => ∃ (m : Nat) (z : Int), H' = R ∧ e = (7, .int .i64 z) :: b' ∧ (z = (m : Int) - 1 ∧ m ≤ es.length ∧ lastE n (es.drop m) = none) ∧ μ = m) rfl rfl ?_ _ _ ⟨es.length, (es.length : Int) - 1, rfl, rfl, ⟨rfl, Nat.le_refl _, by rw [List.drop_length]; rfl⟩, rfl⟩ (by repeat' first | exact trivial | refine And.intro rfl ?_)
  rintro m _ _ ⟨_, z, rfl, rfl, ⟨hz, hm, hd⟩, rfl⟩ ih
  cases m with
  | zero =>
    rw [List.drop_zero] at hd
    repeat' (first | ((with_reducible apply T.mv); apply rfl; apply rfl) | ((with_reducible apply T.asn); apply rfl; apply rfl) | ((with_reducible apply T.geq); apply rfl; apply rfl; apply rfl) | with_reducible refine Sr.nil ?_ | with_reducible refine S.seq ?_ | with_reducible refine S.reg ?_ | ((with_reducible apply S.exit); apply rfl) | ((with_reducible apply T.retW); apply rfl) | ((with_reducible apply S.condQ); apply rfl; all_goals (intro _; try (exfalso; omega))) | fail)
    refine ⟨_, PSub.refl _, ?_, rfl⟩
    unfold liveM
    rw [hd]
  | succ i =>
    have hz' : z = (i : Int) := by omega
    subst hz'
    obtain ⟨x, hx⟩ : ∃ x, es[i]? = some x := ⟨_, List.getElem?_eq_getElem (by omega)⟩
    have hg : es.getD i default = x := by rw [List.getD_eq_getElem?_getD, hx]; rfl
    have hdr : es.drop i = x :: es.drop (i + 1) := by
      rw [List.drop_eq_getElem_cons (by omega)]
      rw [List.getElem?_eq_getElem (by omega), Option.some.injEq] at hx
      rw [hx]
    have hsp : es = es.take i ++ es.drop i := (List.take_append_drop i es).symm
    rw [← hg] at hdr
    repeat' (first | ((with_reducible apply T.seql); apply rfl; apply rfl; apply rfl) | ((with_reducible apply T.mv); apply rfl; apply rfl) | ((with_reducible apply T.asn); apply rfl; apply rfl) | ((with_reducible apply T.geq); apply rfl; apply rfl; apply rfl) | ((with_reducible apply T.subI); apply rfl; apply rfl; omega; apply rfl) | ((with_reducible apply T.ixF); apply rfl; apply rfl; infer_instance; exact (fun _ => rfl); apply rfl; omega; omega; apply rfl) | ((with_reducible apply T.fieldAddrF); apply rfl; infer_instance; exact (fun _ => rfl); apply rfl; omega; apply rfl) | ((with_reducible apply T.loadF); apply rfl; apply rfl; infer_instance; exact (fun _ => rfl); apply rfl; exact getD_some (by omega); apply rfl; apply rfl) | with_reducible refine Sr.nil ?_ | with_reducible refine S.seq ?_ | with_reducible refine S.block ?_ | with_reducible refine S.reg ?_ | with_reducible refine S.skip ?_ | with_reducible refine S.inBlock ?_ | ((with_reducible apply S.condT); apply rfl) | ((with_reducible apply T.retW); apply rfl) | ((with_reducible apply S.condQ); apply rfl; all_goals (intro _; try (exfalso; omega))) | fail)
    · rename_i he
      have hlv : liveM es n now = decide (now ≤ (es.getD i default).2) := by
        unfold liveM
        rw [hsp, lastE_append, hdr, lastE, hd, if_pos he]
        rw [← hdr, List.take_append_drop]
      exact ⟨_, PSub.refl _, by rw [hlv], rfl⟩
    · rename_i he
      exact ih _ _ _ _ ⟨i, _, rfl, rfl, ⟨rfl, by omega, by rw [hdr, lastE, hd, if_neg he]⟩, rfl⟩ (by omega) (by repeat' first | exact trivial | refine And.intro rfl ?_)
theorem count_spec {F : World} {M : List Nat} {H : List Res} {c : Nat} {b : Option Addr} {es : Ents} {now : Int} [hR : Rd F M H b (es.flatMap enV)] (hl : es.length ≤ 1000000) :
    Meets Try.prog 26 [.slice b es.length c, .int .i64 now] F M H (fun e H' => e = .returned (.int .i64 ((live now (lasts es)).length : Nat)) ∧ H' = H) := by
  refine Meets.enter Try.func26 rfl rfl ?_
  repeat' (first | ((with_reducible apply T.asn); apply rfl; apply rfl) | with_reducible refine Sr.nil ?_ | with_reducible refine S.seq ?_ | with_reducible refine S.block ?_ | with_reducible refine S.reg ?_ | fail)
  refine S.loopE 0 [0, 1] (fun R b' μ H' e => ∃ (i n : Nat), H' = R ∧ e = (5, .int .i64 n) :: (6, .int .i64 i) :: b' ∧ (i ≤ es.length ∧ n + (live now (lasts (es.drop i))).length = (live now (lasts es)).length ∧ n ≤ i) ∧ μ = es.length - i) rfl rfl ?_ _ _ ⟨0, 0, rfl, rfl, ⟨by omega, by simp, by omega⟩, rfl⟩ (by repeat' first | exact trivial | refine And.intro rfl ?_)
  rintro _ _ _ ⟨i, n, rfl, rfl, ⟨hi, hc, hni⟩, rfl⟩ ih
  by_cases h1 : i < es.length
  · obtain ⟨x, hx⟩ : ∃ x, es[i]? = some x := ⟨_, List.getElem?_eq_getElem h1⟩
    have hg : es.getD i default = x := by rw [List.getD_eq_getElem?_getD, hx]; rfl
    have hdr : es.drop i = x :: es.drop (i + 1) := by
      rw [List.drop_eq_getElem_cons h1]
      rw [List.getElem?_eq_getElem h1, Option.some.injEq] at hx
      rw [hx]
    rw [hdr, lasts] at hc
    repeat' (first | ((with_reducible apply T.mv); apply rfl; apply rfl) | ((with_reducible apply T.asn); apply rfl; apply rfl) | ((with_reducible apply T.len); apply rfl; apply rfl) | ((with_reducible apply T.lss); apply rfl; apply rfl; apply rfl) | ((with_reducible apply T.addI); apply rfl; apply rfl; omega; apply rfl) | with_reducible refine Sr.nil ?_ | with_reducible refine S.seq ?_ | with_reducible refine S.block ?_ | with_reducible refine S.reg ?_ | with_reducible refine S.skip ?_ | ((with_reducible apply S.condQ); apply rfl; all_goals (intro _; try (exfalso; omega))) | fail)
    refine S.loopE 0 [0, 1, 5, 6] (fun R b' μ H' e => ∃ (k : Nat) (fl : Bool), H' = R ∧ e = (7, .bool fl) :: (8, .int .i64 k) :: b' ∧ (i + 1 ≤ k ∧ k ≤ es.length ∧ fl = !((es.drop (i + 1)).take (k - (i + 1))).any fun p => decide (p.1 = x.1)) ∧ μ = es.length - k) rfl rfl ?_ _ _ ⟨i + 1, true, rfl, rfl, ⟨by omega, by omega, by simp⟩, rfl⟩ (by repeat' first | exact trivial | refine And.intro rfl ?_)
    rintro _ _ _ ⟨k, fl, rfl, rfl, ⟨hk1, hk2, hfl⟩, rfl⟩ ih2
    by_cases h2 : k < es.length
    · obtain ⟨y, hy⟩ : ∃ y, es[k]? = some y := ⟨_, List.getElem?_eq_getElem h2⟩
      have hgy : es.getD k default = y := by rw [List.getD_eq_getElem?_getD, hy]; rfl
      have htk : (es.drop (i + 1)).take (k + 1 - (i + 1)) = (es.drop (i + 1)).take (k - (i + 1)) ++ [y] := by
        rw [show k + 1 - (i + 1) = (k - (i + 1)) + 1 by omega, List.take_add_one, List.getElem?_drop, show i + 1 + (k - (i + 1)) = k by omega, hy]
        rfl
      have hgx : (es.getD k default).1 = (es.getD i default).1 ↔ y.1 = x.1 := by rw [hg, hgy]
      repeat' (first | ((with_reducible apply T.seql); apply rfl; apply rfl; apply rfl) | ((with_reducible apply T.mv); apply rfl; apply rfl) | ((with_reducible apply T.asn); apply rfl; apply rfl) | ((with_reducible apply T.len); apply rfl; apply rfl) | ((with_reducible apply T.lss); apply rfl; apply rfl; apply rfl) | ((with_reducible apply T.addI); apply rfl; apply rfl; omega; apply rfl) | ((with_reducible apply T.ixF); apply rfl; apply rfl; infer_instance; exact (fun _ => rfl); apply rfl; omega; omega; apply rfl) | ((with_reducible apply T.fieldAddrF); apply rfl; infer_instance; exact (fun _ => rfl); apply rfl; omega; apply rfl) | ((with_reducible apply T.loadF); apply rfl; apply rfl; infer_instance; exact (fun _ => rfl); apply rfl; exact getD_some (by omega); apply rfl; apply rfl) | with_reducible refine Sr.nil ?_ | with_reducible refine S.seq ?_ | with_reducible refine S.block ?_ | with_reducible refine S.reg ?_ | with_reducible refine S.skip ?_ | with_reducible refine S.inBlock ?_ | ((with_reducible apply S.quiet); apply rfl; kernel_rfl) | ((with_reducible apply S.condQ); apply rfl; all_goals (intro _; try (exfalso; omega))) | fail)
      · rename_i he
        refine ih2 _ _ _ _ ⟨k + 1, false, rfl, rfl, ⟨by omega, by omega, ?_⟩, rfl⟩ (by omega) (by repeat' first | exact trivial | refine And.intro rfl ?_)
        rw [htk, List.any_append]
        simp [hgx.1 he]
      · rename_i he
        refine ih2 _ _ _ _ ⟨k + 1, fl, rfl, rfl, ⟨by omega, by omega, ?_⟩, rfl⟩ (by omega) (by repeat' first | exact trivial | refine And.intro rfl ?_)
        rw [htk, List.any_append, hfl]
        simp [mt hgx.2 he]
    · obtain rfl : k = es.length := by omega
      clear ih2
      rw [List.take_of_length_le (by rw [List.length_drop]; omega)] at hfl
      cases fl with
      | true =>
        have ha : ¬ ((es.drop (i + 1)).any fun p => decide (p.1 = x.1)) = true := fun h => by rw [h] at hfl; cases hfl
        rw [if_neg ha, live, List.filter_cons, ← live, ← hg] at hc
        repeat' (first | ((with_reducible apply T.mv); apply rfl; apply rfl) | ((with_reducible apply T.asn); apply rfl; apply rfl) | ((with_reducible apply T.len); apply rfl; apply rfl) | ((with_reducible apply T.lss); apply rfl; apply rfl; apply rfl) | ((with_reducible apply T.geq); apply rfl; apply rfl; apply rfl) | ((with_reducible apply T.addI); apply rfl; apply rfl; omega; apply rfl) | ((with_reducible apply T.ixF); apply rfl; apply rfl; infer_instance; exact (fun _ => rfl); apply rfl; omega; omega; apply rfl) | ((with_reducible apply T.fieldAddrF); apply rfl; infer_instance; exact (fun _ => rfl); apply rfl; omega; apply rfl) | ((with_reducible apply T.loadF); apply rfl; apply rfl; infer_instance; exact (fun _ => rfl); apply rfl; exact getD_some (by omega); apply rfl; apply rfl) | ((with_reducible apply T.pickT); apply rfl; apply rfl; apply rfl) | with_reducible refine Sr.nil ?_ | with_reducible refine S.seq ?_ | with_reducible refine S.reg ?_ | with_reducible refine S.skip ?_ | with_reducible refine S.inBlock ?_ | ((with_reducible apply S.exit); apply rfl) | ((with_reducible apply T.ung); apply rfl) | ((with_reducible apply S.condQ); apply rfl; all_goals (intro _; try (exfalso; omega))) | fail)
        · rename_i he
          rw [if_pos (decide_eq_true he), List.length_cons] at hc
          exact ih _ _ _ _ ⟨i + 1, n + 1, rfl, rfl, ⟨by omega, by omega, by omega⟩, rfl⟩ (by omega) (by repeat' first | exact trivial | refine And.intro rfl ?_)
        · rename_i he
          rw [if_neg (by simpa using he)] at hc
          exact ih _ _ _ _ ⟨i + 1, n, rfl, rfl, ⟨by omega, by omega, by omega⟩, rfl⟩ (by omega) (by repeat' first | exact trivial | refine And.intro rfl ?_)
      | false =>
        have ha : ((es.drop (i + 1)).any fun p => decide (p.1 = x.1)) = true := by
          cases hq : (es.drop (i + 1)).any fun p => decide (p.1 = x.1) with
          | true => rfl
          | false => rw [hq] at hfl; cases hfl
        rw [if_pos ha] at hc
        repeat' (first | ((with_reducible apply T.mv); apply rfl; apply rfl) | ((with_reducible apply T.asn); apply rfl; apply rfl) | ((with_reducible apply T.len); apply rfl; apply rfl) | ((with_reducible apply T.lss); apply rfl; apply rfl; apply rfl) | ((with_reducible apply T.addI); apply rfl; apply rfl; omega; apply rfl) | ((with_reducible apply T.pickF); apply rfl; apply rfl; apply rfl) | with_reducible refine Sr.nil ?_ | with_reducible refine S.seq ?_ | with_reducible refine S.reg ?_ | with_reducible refine S.skip ?_ | with_reducible refine S.inBlock ?_ | ((with_reducible apply S.exit); apply rfl) | ((with_reducible apply T.skip); apply rfl; apply rfl; apply rfl) | ((with_reducible apply S.condF); apply rfl) | ((with_reducible apply S.condQ); apply rfl; all_goals (intro _; try (exfalso; omega))) | fail)
        exact ih _ _ _ _ ⟨i + 1, n, rfl, rfl, ⟨by omega, by omega, by omega⟩, rfl⟩ (by omega) (by repeat' first | exact trivial | refine And.intro rfl ?_)
  · obtain rfl : i = es.length := by omega
    rw [List.drop_length] at hc
    have hn : n = (live now (lasts es)).length := by
      rw [← hc]
      rfl
    rw [← hn]
    repeat' (first | ((with_reducible apply T.mv); apply rfl; apply rfl) | ((with_reducible apply T.asn); apply rfl; apply rfl) | ((with_reducible apply T.len); apply rfl; apply rfl) | ((with_reducible apply T.lss); apply rfl; apply rfl; apply rfl) | with_reducible refine Sr.nil ?_ | with_reducible refine S.seq ?_ | with_reducible refine S.reg ?_ | ((with_reducible apply S.exit); apply rfl) | ((with_reducible apply T.retW); apply rfl) | ((with_reducible apply S.condQ); apply rfl; all_goals (intro _; try (exfalso; omega))) | fail)
    exact ⟨_, PSub.refl _, rfl, rfl⟩
end Go.Proofs.Ytcojlgkfkifhmaa
