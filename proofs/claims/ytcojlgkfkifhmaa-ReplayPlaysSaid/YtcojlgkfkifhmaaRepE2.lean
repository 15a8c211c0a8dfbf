/- The walks of the document's own answer: a name's end, New, Has, Take. -/
import Derived.Test.YtcojlgkfkifhmaaRepB2
import Derived.Test.YtcojlgkfkifhmaaRepO
/- maps -/
namespace Go.Proofs.Ytcojlgkfkifhmaa
open Sg Go.IntWalk
set_option maxRecDepth 100000
set_option maxHeartbeats 2000000
theorem rise_ext : ∀ {a b : Ents}, Rise a → Rise b → (∀ p, p ∈ a ↔ p ∈ b) → a = b
  | [], [], _, _, _ => rfl
  | [], y :: s, _, _, h => absurd ((h y).2 (List.mem_cons_self ..)) List.not_mem_nil
  | x :: r, [], _, _, h => absurd ((h x).1 (List.mem_cons_self ..)) List.not_mem_nil
  | x :: r, y :: s, ha, hb, h => by
    obtain ⟨a1, a2⟩ := List.pairwise_cons.1 ha
    obtain ⟨b1, b2⟩ := List.pairwise_cons.1 hb
    have hxy : x = y := by
      rcases List.mem_cons.1 ((h x).1 (List.mem_cons_self ..)) with h1 | h1
      · exact h1
      rcases List.mem_cons.1 ((h y).2 (List.mem_cons_self ..)) with h2 | h2
      · exact h2.symm
      exact absurd (List.lt_trans (b1 x h1) (a1 y h2)) (lt_irr _)
    subst hxy
    have hrs : r = s := rise_ext a2 b2 fun p => by
      constructor
      · intro hp
        rcases List.mem_cons.1 ((h p).1 (List.mem_cons_of_mem _ hp)) with h1 | h1
        · subst h1
          exact absurd (a1 p hp) (lt_irr _)
        · exact h1
      · intro hp
        rcases List.mem_cons.1 ((h p).2 (List.mem_cons_of_mem _ hp)) with h1 | h1
        · subst h1
          exact absurd (b1 p hp) (lt_irr _)
        · exact h1
    rw [hrs]
theorem fold_mem {p : List UInt8 × Int} : ∀ {l acc : Ents}, p ∈ l.foldl (fun o x => eins x o) acc ↔ p ∈ l ∨ p ∈ acc
  | [], acc => by simp
  | x :: r, acc => by
    rw [List.foldl_cons, fold_mem, eins_mem, List.mem_cons]
    constructor
    · rintro (h | h | h) <;> simp [h]
    · rintro ((h | h) | h) <;> simp [h]
theorem fold_rises : ∀ {l acc : Ents}, Once l → Rise acc → (∀ p ∈ acc, ∀ q ∈ l, p.1 ≠ q.1) → Rise (l.foldl (fun o x => eins x o) acc)
  | [], acc, _, h, _ => h
  | x :: r, acc, hl, h, hd => by
    obtain ⟨h1, h2⟩ := List.pairwise_cons.1 hl
    rw [List.foldl_cons]
    refine fold_rises h2 (eins_rise h fun p hp => hd p hp x (List.mem_cons_self ..)) fun p hp q hq => ?_
    rcases eins_mem.1 hp with rfl | hp
    · exact h1 q hq
    · exact hd p hp q (List.mem_cons_of_mem _ hq)
/-- What is kept of all, by its ends. -/
theorem keptM_of {clock : Int} {all m : Ents} (hm : Rise m) (h : ∀ n, eget m n = (lastE n all).filter fun e => decide (clock ≤ e)) : keptM clock all = m := by
  have ho : Once (live clock (lasts all)) := (lasts_once all).filter _
  refine rise_ext (fold_rises ho List.Pairwise.nil fun p hp => absurd hp List.not_mem_nil) hm fun p => ?_
  unfold keptM
  rw [fold_mem, once_mem ho, once_mem hm.once, h, lasts_live]
  simp
theorem lastE_once {m : Ents} (h : Once m) (n : List UInt8) : lastE n m = eget m n := by
  have := eget_lasts n m
  rw [lasts_self h] at this
  exact this.symm
theorem tinv_self {k : Bk} (h : k.good) : TInv k k.ends := ⟨h, fun n => by
    rw [lastE_once h.ok.rise.once]
    cases hq : eget k.ends n with
    | none => rfl
    | some e =>
      have hm := (once_mem h.ok.rise.once (p := (n, e))).2 hq
      rw [Option.filter_some, if_pos (decide_eq_true (h.ends _ hm).1)], fun hb => (h.fresh hb).2⟩
/-- The program's book and the document's. -/
structure MInv (k : Bk) (all : Ents) : Prop where
  inv : TInv k all
  len : all.length ≤ 4097
theorem MInv.kept {k : Bk} {all : Ents} (h : MInv k all) : keptM k.last all = k.ends := keptM_of h.inv.good.ok.rise h.inv.same
theorem MInv.self {k : Bk} (h : k.good) : MInv k k.ends := ⟨tinv_self h, Nat.le_succ_of_le h.ok.len⟩
theorem MInv.late {k : Bk} {all : Ents} (h : MInv k all) {now : Int} (hc : ¬ (k.has = true ∧ now < k.last)) : keptM now all = live now k.ends := keptM_of (h.inv.good.ok.rise.filter _) fun n => tinv_live h.inv hc n
theorem live_live (now : Int) (m : Ents) : live now (live now m) = live now m := List.filter_eq_self.2 fun p hp => (List.mem_filter.1 hp).2
theorem late_good {k : Bk} (h : k.good) {now : Int} (hw : (Lit.int .i64 now).wf = true) : Bk.good ⟨true, now, live now k.ends⟩ := by
  rw [wf_i64] at hw
  exact ⟨live_ok h.ok true now, fun hb => (by cases hb), hw, fun p hp => ⟨of_decide_eq_true (List.mem_filter.1 hp).2, (h.ends p (List.mem_filter.1 hp).1).2⟩⟩
theorem MInv.put {k : Bk} (h : k.good) {n : List UInt8} {til now : Int} (ht : ¬ til < now) (hw : (Lit.int .i64 now).wf = true) (hg : Bk.good ⟨true, now, eput (live now k.ends) n til⟩) (hl : (live now k.ends).length ≠ 4096) : MInv ⟨true, now, eput (live now k.ends) n til⟩ (live now k.ends ++ [(n, til)]) := by
  have hlg := late_good h hw
  have hle : (live now k.ends).length ≤ 4096 := hlg.ok.len
  refine ⟨?_, by rw [List.length_append, List.length_singleton]; omega⟩
  have := tinv_put (k := ⟨true, now, live now k.ends⟩) (es := live now k.ends) (n := n) (til := til) (now := now) (tinv_self hlg) (fun hq => absurd hq.2 (Int.lt_irrefl _)) (by omega) (by rw [live_live]; exact hg)
  rwa [live_live] at this
theorem end_spec {F : World} {M : List Nat} {H : List Res} {pm ac : Nat} {aa : Option Addr} {all : Ents} {has : Bool} {clock : Int} {n : List UInt8} [hB : InB H pm (mdV aa all.length ac has clock) 81] [hR : Rd F M H aa (all.flatMap enV)] (hl : all.length ≤ 1000000) :
    Meets Try.prog 53 [.pointer (some ⟨pm, 0, none⟩), sV n] F M H (fun e H' => (∃ z, e = .returned (.tuple ⟨[.int .i64 z, .bool (liveM all n clock)]⟩)) ∧ H' = H) := by
  refine Meets.enter Try.func53 rfl rfl ?_
  repeat' (first | ((with_reducible apply T.mv); apply rfl; apply rfl) | ((with_reducible apply T.asn); apply rfl; apply rfl) | ((with_reducible apply T.len); apply rfl; apply rfl) | ((with_reducible apply T.nilCheck); apply rfl; apply rfl) | ((with_reducible apply T.fieldAddrZ); apply rfl; apply rfl) | ((with_reducible apply T.load); apply rfl; apply rfl; infer_instance; apply rfl; apply rfl) | ((with_reducible apply T.subI); apply rfl; apply rfl; omega; apply rfl) | with_reducible refine Sr.nil ?_ | with_reducible refine S.seq ?_ | with_reducible refine S.block ?_ | with_reducible refine S.reg ?_ | fail)
  refine S.loopE 0 [0, 1] (fun R b' μ H' e => ∃ (m : Nat) (z : Int), H' = R ∧ e = (6, .int .i64 z) :: b' ∧ (z = (m : Int) - 1 ∧ m ≤ all.length ∧ lastE n (all.drop m) = none) ∧ μ = m) rfl rfl ?_ _ _ ⟨all.length, (all.length : Int) - 1, rfl, rfl, ⟨rfl, Nat.le_refl _, by rw [List.drop_length]; rfl⟩, rfl⟩ (by repeat' first | exact trivial | refine And.intro rfl ?_)
  rintro m _ _ ⟨_, z, rfl, rfl, ⟨hz, hm, hd⟩, rfl⟩ ih
  cases m with
  | zero =>
    rw [List.drop_zero] at hd
    repeat' (first | ((with_reducible apply T.mv); apply rfl; apply rfl) | ((with_reducible apply T.asn); apply rfl; apply rfl) | ((with_reducible apply T.geq); apply rfl; apply rfl; apply rfl) | with_reducible refine Sr.nil ?_ | with_reducible refine S.seq ?_ | with_reducible refine S.reg ?_ | ((with_reducible apply S.exit); apply rfl) | ((with_reducible apply T.retW); apply rfl) | ((with_reducible apply S.condQ); apply rfl; all_goals (intro _; try (exfalso; omega))) | fail)
    refine ⟨_, PSub.refl _, ⟨0, ?_⟩, rfl⟩
    unfold liveM
    rw [hd]
  | succ i =>
    have hz' : z = (i : Int) := by omega
    subst hz'
    obtain ⟨x, hx⟩ : ∃ x, all[i]? = some x := ⟨_, List.getElem?_eq_getElem (by omega)⟩
    have hg : all.getD i default = x := by rw [List.getD_eq_getElem?_getD, hx]; rfl
    have hdr : all.drop i = x :: all.drop (i + 1) := by
      rw [List.drop_eq_getElem_cons (by omega)]
      rw [List.getElem?_eq_getElem (by omega), Option.some.injEq] at hx
      rw [hx]
    have hsp : all = all.take i ++ all.drop i := (List.take_append_drop i all).symm
    rw [← hg] at hdr
    repeat' (first | ((with_reducible apply T.seql); apply rfl; apply rfl; apply rfl) | ((with_reducible apply T.mv); apply rfl; apply rfl) | ((with_reducible apply T.asn); apply rfl; apply rfl) | ((with_reducible apply T.nilCheck); apply rfl; apply rfl) | ((with_reducible apply T.fieldAddrZ); apply rfl; apply rfl) | ((with_reducible apply T.load); apply rfl; apply rfl; infer_instance; apply rfl; apply rfl) | ((with_reducible apply T.geq); apply rfl; apply rfl; apply rfl) | ((with_reducible apply T.subI); apply rfl; apply rfl; omega; apply rfl) | ((with_reducible apply T.ixF); apply rfl; apply rfl; infer_instance; exact (fun _ => rfl); apply rfl; omega; omega; apply rfl) | ((with_reducible apply T.fieldAddrF); apply rfl; infer_instance; exact (fun _ => rfl); apply rfl; omega; apply rfl) | ((with_reducible apply T.loadF); apply rfl; apply rfl; infer_instance; exact (fun _ => rfl); apply rfl; exact getD_some (by omega); apply rfl; apply rfl) | with_reducible refine Sr.nil ?_ | with_reducible refine S.seq ?_ | with_reducible refine S.block ?_ | with_reducible refine S.reg ?_ | with_reducible refine S.skip ?_ | with_reducible refine S.inBlock ?_ | ((with_reducible apply S.quiet); apply rfl; kernel_rfl) | ((with_reducible apply S.condT); apply rfl) | ((with_reducible apply T.retW); apply rfl) | ((with_reducible apply S.condQ); apply rfl; all_goals (intro _; try (exfalso; omega))) | fail)
    · rename_i he
      have hlv : liveM all n clock = decide (clock ≤ (all.getD i default).2) := by
        unfold liveM
        rw [hsp, lastE_append, hdr, lastE, hd, if_pos he]
        rw [← hdr, List.take_append_drop]
      exact ⟨_, PSub.refl _, ⟨_, by rw [hlv]⟩, rfl⟩
    · rename_i he
      exact ih _ _ _ _ ⟨i, _, rfl, rfl, ⟨rfl, by omega, by rw [hdr, lastE, hd, if_neg he]⟩, rfl⟩ (by omega) (by repeat' first | exact trivial | refine And.intro rfl ?_)
theorem mhas_spec {F : World} {M : List Nat} {H : List Res} {pm ac : Nat} {aa : Option Addr} {all : Ents} {has : Bool} {clock : Int} {n : List UInt8} [hB : InB H pm (mdV aa all.length ac has clock) 81] [hR : Rd F M H aa (all.flatMap enV)] (hl : all.length ≤ 1000000) :
    Meets Try.prog 47 [.pointer (some ⟨pm, 0, none⟩), sV n] F M H (fun e H' => e = .returned (.bool (liveM all n clock)) ∧ H' = H) := by
  refine Meets.enter Try.func47 rfl rfl ?_
  repeat' (first | ((with_reducible apply T.mv); apply rfl; apply rfl) | ((with_reducible apply T.asn); apply rfl; apply rfl) | with_reducible refine Sr.nil ?_ | with_reducible refine S.seq ?_ | with_reducible refine S.reg ?_ | fail)
  refine T.call rfl rfl (end_spec (all := all) (has := has) (clock := clock) (ac := ac) (aa := aa) hl) ?_
  rintro _ _ ⟨⟨z, rfl⟩, rfl⟩
  repeat' (first | ((with_reducible apply T.mv); apply rfl; apply rfl) | ((with_reducible apply T.asn); apply rfl; apply rfl) | ((with_reducible apply T.extract); apply rfl; apply rfl; apply rfl) | with_reducible refine Sr.nil ?_ | with_reducible refine S.seq ?_ | with_reducible refine S.reg ?_ | ((with_reducible apply T.retW); apply rfl) | (with_reducible apply T.ofRet) | fail)
  exact ⟨_, PSub.refl _, rfl, rfl⟩
theorem mnew_spec {F : World} {M : List Nat} {H : List Res} : Meets Try.prog 45 [] F M H (fun e H' => ∃ pm, e = .returned (.pointer (some ⟨pm, 0, none⟩)) ∧ H' = .blk pm (mdV none 0 0 false 0) 81 :: H) := by
  refine Meets.enter Try.func45 rfl rfl ?_
  repeat' (first | ((with_reducible apply T.asn); apply rfl; apply rfl) | ((with_reducible apply T.buildL); apply rfl; apply rfl; apply rfl) | ((with_reducible apply T.box); apply rfl; apply rfl; intro nb) | with_reducible refine Sr.nil ?_ | with_reducible refine S.seq ?_ | with_reducible refine S.reg ?_ | ((with_reducible apply T.retW); apply rfl) | fail)
  exact ⟨_, PSub.refl _, nb, rfl, rfl⟩
theorem mlen_at {F : World} {M : List Nat} {H : List Res} {pm ac : Nat} {aa : Option Addr} {all m : Ents} {has : Bool} {clock : Int} [hB : InB H pm (mdV aa all.length ac has clock) 81] [hR : Rd F M H aa (all.flatMap enV)] (hl : all.length ≤ 1000000) (he : keptM clock all = m) :
    Meets Try.prog 42 [.pointer (some ⟨pm, 0, none⟩)] F M H (fun e H' => e = .returned (.int .i64 (m.length : Nat)) ∧ H' = H) :=
  mlen_spec (k := ⟨has, clock, m⟩) (all := all) (ac := ac) (aa := aa) hl he
theorem mtake_spec {F : World} {M : List Nat} {H : List Res} {pm ac c : Nat} {aa : Option Addr} {all : Ents} {k k2 : Bk} {n : List UInt8} {til now : Int} (hm : MInv k all) (hT : k.take n til now = (c, k2)) (hn : n.length ≤ maxLen) (ht : (Lit.int .i64 til).wf = true) (hw : (Lit.int .i64 now).wf = true) :
    Meets Try.prog 46 [.pointer (some ⟨pm, 0, none⟩), sV n, .int .i64 til, .int .i64 now] F M (.blk pm (mdV aa all.length ac k.has k.last) 81 :: .row aa ac 85 2 all.length (all.flatMap enV) :: H) (fun e H' => ∃ all2 aa2 ac2, MInv k2 all2 ∧ e = .returned (.int .i64 (c : Nat)) ∧ H' = .blk pm (mdV aa2 all2.length ac2 k2.has k2.last) 81 :: .row aa2 ac2 85 2 all2.length (all2.flatMap enV) :: H) := by
  have why := take_why k n til now
  have htg := take_good hm.inv.good n ht hw
  rw [hT] at why htg
  simp only [Prod.mk.injEq] at why
  dsimp only at htg
  have hal := hm.len
  clear hT
  refine Meets.enter Try.func46 rfl rfl ?_
  rcases why with ⟨c1, rfl, rfl⟩ | ⟨c1, c2, rfl, rfl⟩ | ⟨c1, c2, why⟩
  · repeat' (first | ((with_reducible apply T.slen); apply rfl; apply rfl) | ((with_reducible apply T.mv); apply rfl; apply rfl) | ((with_reducible apply T.asn); apply rfl; apply rfl) | ((with_reducible apply T.gtr); apply rfl; apply rfl; apply rfl) | with_reducible refine Sr.nil ?_ | with_reducible refine S.seq ?_ | with_reducible refine S.reg ?_ | ((with_reducible apply T.retW); apply rfl) | ((with_reducible apply S.condQ); apply rfl; all_goals (intro _; try (exfalso; omega))) | fail)
    exact ⟨_, PSub.refl _, all, aa, ac, hm, rfl, rfl⟩
  · obtain ⟨hb, cl⟩ := c2
    generalize hs : k2.has = bh at *
    subst hb
    repeat' (first | ((with_reducible apply T.slen); apply rfl; apply rfl) | ((with_reducible apply T.mv); apply rfl; apply rfl) | ((with_reducible apply T.asn); apply rfl; apply rfl) | ((with_reducible apply T.nilCheck); apply rfl; apply rfl) | ((with_reducible apply T.fieldAddrZ); apply rfl; apply rfl) | ((with_reducible apply T.load); apply rfl; apply rfl; infer_instance; apply rfl; apply rfl) | ((with_reducible apply T.lss); apply rfl; apply rfl; apply rfl) | ((with_reducible apply T.gtr); apply rfl; apply rfl; apply rfl) | ((with_reducible apply T.pickT); apply rfl; apply rfl; apply rfl) | with_reducible refine Sr.nil ?_ | with_reducible refine S.seq ?_ | with_reducible refine S.reg ?_ | with_reducible refine S.skip ?_ | ((with_reducible apply T.ung); apply rfl) | ((with_reducible apply T.retW); apply rfl) | ((with_reducible apply S.condQ); apply rfl; all_goals (intro _; try (exfalso; omega))) | fail)
    exact ⟨_, PSub.refl _, all, aa, ac, hm, rfl, rfl⟩
  · have hk1 := hm.late c2
    have hlg := late_good hm.inv.good hw
    have hle : (live now k.ends).length ≤ 4096 := hlg.ok.len
    have hks := keptM_good hlg
    have hhas := tinv_has (tinv_self hlg) n
    dsimp only at hks hhas
    repeat' (first | ((with_reducible apply T.slen); apply rfl; apply rfl) | ((with_reducible apply T.mv); apply rfl; apply rfl) | ((with_reducible apply T.asn); apply rfl; apply rfl) | ((with_reducible apply T.gtr); apply rfl; apply rfl; apply rfl) | with_reducible refine Sr.nil ?_ | with_reducible refine S.seq ?_ | with_reducible refine S.reg ?_ | fail)
    refine S.condP rfl (fun h => absurd h (by omega)) (fun _ => ?_)
    repeat' (first | with_reducible refine S.skip ?_ | fail)
    refine S.seq ?_
    refine S.cut (fun H' e' => H' = .blk pm (mdV aa all.length ac k.has k.last) 81 :: .row aa ac 85 2 all.length (all.flatMap enV) :: H ∧ e' = [(0, .pointer (some ⟨pm, 0, none⟩)), (1, sV n), (2, .int .i64 til), (3, .int .i64 now)]) ?_ ?_
    · intro k' hrest
      cases hb : k.has with
      | true =>
        have cl : ¬ now < k.last := fun h => c2 ⟨hb, h⟩
        rw [hb] at hrest
        repeat' (first | ((with_reducible apply T.mv); apply rfl; apply rfl) | ((with_reducible apply T.nilCheck); apply rfl; apply rfl) | ((with_reducible apply T.fieldAddrZ); apply rfl; apply rfl) | ((with_reducible apply T.load); apply rfl; apply rfl; infer_instance; apply rfl; apply rfl) | ((with_reducible apply T.lss); apply rfl; apply rfl; apply rfl) | ((with_reducible apply T.pickT); apply rfl; apply rfl; apply rfl) | with_reducible refine Sr.nil ?_ | with_reducible refine S.seq ?_ | with_reducible refine S.reg ?_ | with_reducible refine S.skip ?_ | ((with_reducible apply T.ung); apply rfl) | ((with_reducible apply S.condQ); apply rfl; all_goals (intro _; try (exfalso; omega))) | fail)
        exact hrest _ _ _ ⟨rfl, rfl⟩ (by repeat' first | exact trivial | refine And.intro rfl ?_)
      | false =>
        rw [hb] at hrest
        repeat' (first | ((with_reducible apply T.mv); apply rfl; apply rfl) | ((with_reducible apply T.nilCheck); apply rfl; apply rfl) | ((with_reducible apply T.fieldAddrZ); apply rfl; apply rfl) | ((with_reducible apply T.load); apply rfl; apply rfl; infer_instance; apply rfl; apply rfl) | ((with_reducible apply T.pickF); apply rfl; apply rfl; apply rfl) | with_reducible refine Sr.nil ?_ | with_reducible refine S.seq ?_ | with_reducible refine S.reg ?_ | with_reducible refine S.skip ?_ | ((with_reducible apply T.skip); apply rfl; apply rfl; apply rfl) | ((with_reducible apply S.condF); apply rfl) | fail)
        exact hrest _ _ _ ⟨rfl, rfl⟩ (by repeat' first | exact trivial | refine And.intro rfl ?_)
    rintro _ _ ⟨rfl, rfl⟩
    repeat' (first | ((with_reducible apply T.mv); apply rfl; apply rfl) | ((with_reducible apply T.nilCheck); apply rfl; apply rfl) | ((with_reducible apply T.fieldAddrZ); apply rfl; apply rfl) | ((with_reducible apply T.store); apply rfl; apply rfl; infer_instance; (first | decide | (simp; omega) | simp); apply rfl) | with_reducible refine Sr.nil ?_ | with_reducible refine S.seq ?_ | with_reducible refine S.reg ?_ | fail)
    refine T.call rfl rfl (kept_spec (all := all) (has := true) (clock := now) (ac := ac) (aa := aa) (by omega)) ?_
    rintro _ _ ⟨oa, oc, rfl, rfl⟩
    rw [hk1]
    by_cases c3 : til < now
    · obtain ⟨-, rfl, rfl⟩ | ⟨c4, -⟩ := why
      · repeat' (first | ((with_reducible apply T.mv); apply rfl; apply rfl) | ((with_reducible apply T.asn); apply rfl; apply rfl) | ((with_reducible apply T.nilCheck); apply rfl; apply rfl) | ((with_reducible apply T.fieldAddrZ); apply rfl; apply rfl) | ((with_reducible apply T.lss); apply rfl; apply rfl; apply rfl) | ((with_reducible apply T.store); apply rfl; apply rfl; infer_instance; (first | decide | (simp; omega) | simp); apply rfl) | with_reducible refine Sr.nil ?_ | with_reducible refine S.seq ?_ | with_reducible refine S.reg ?_ | ((with_reducible apply T.retW); apply rfl) | (with_reducible apply T.ofRet) | ((with_reducible apply S.condQ); apply rfl; all_goals (intro _; try (exfalso; omega))) | fail)
        exact ⟨.blk pm (mdV oa (live now k.ends).length oc true now) 81 :: .row oa oc 85 2 (live now k.ends).length ((live now k.ends).flatMap enV) :: H, by ((repeat (first | dsimp only [List.set_cons_zero] | dsimp only [List.set_cons_succ])); repeat' first | exact PSub.refl _ | exact PSub.nil | ((with_reducible apply PSub.take); (repeat' first | (with_reducible exact pick_hd) | (with_reducible apply pick_tl))) | (with_reducible apply PSub.drop) | ((apply PSub.take); (repeat' first | exact pick_hd | (apply pick_tl)))), live now k.ends, oa, oc, MInv.self hlg, rfl, rfl⟩
      · exact absurd c3 c4
    obtain ⟨c4, -⟩ | ⟨-, why⟩ := why
    · exact absurd c4 c3
    repeat' (first | ((with_reducible apply T.mv); apply rfl; apply rfl) | ((with_reducible apply T.nilCheck); apply rfl; apply rfl) | ((with_reducible apply T.fieldAddrZ); apply rfl; apply rfl) | ((with_reducible apply T.lss); apply rfl; apply rfl; apply rfl) | ((with_reducible apply T.store); apply rfl; apply rfl; infer_instance; (first | decide | (simp; omega) | simp); apply rfl) | with_reducible refine Sr.nil ?_ | with_reducible refine S.seq ?_ | with_reducible refine S.reg ?_ | with_reducible refine S.skip ?_ | (with_reducible apply T.ofRet) | ((with_reducible apply S.condQ); apply rfl; all_goals (intro _; try (exfalso; omega))) | fail)
    refine T.call rfl rfl (mhas_spec (all := live now k.ends) (has := true) (clock := now) (ac := oc) (aa := oa) (by omega)) ?_
    rintro _ _ ⟨rfl, rfl⟩
    rw [← hhas]
    rcases why with ⟨c5, rfl, rfl⟩ | ⟨c5, why⟩
    · rw [c5]
      repeat' (first | ((with_reducible apply T.asn); apply rfl; apply rfl) | with_reducible refine Sr.nil ?_ | with_reducible refine S.seq ?_ | with_reducible refine S.reg ?_ | ((with_reducible apply S.condT); apply rfl) | ((with_reducible apply T.retW); apply rfl) | (with_reducible apply T.ofRet) | fail)
      exact ⟨.blk pm (mdV oa (live now k.ends).length oc true now) 81 :: .row oa oc 85 2 (live now k.ends).length ((live now k.ends).flatMap enV) :: H, by ((repeat (first | dsimp only [List.set_cons_zero] | dsimp only [List.set_cons_succ])); repeat' first | exact PSub.refl _ | exact PSub.nil | ((with_reducible apply PSub.take); (repeat' first | (with_reducible exact pick_hd) | (with_reducible apply pick_tl))) | (with_reducible apply PSub.drop) | ((apply PSub.take); (repeat' first | exact pick_hd | (apply pick_tl)))), live now k.ends, oa, oc, MInv.self hlg, rfl, rfl⟩
    rw [c5]
    repeat' (first | ((with_reducible apply T.mv); apply rfl; apply rfl) | with_reducible refine Sr.nil ?_ | with_reducible refine S.seq ?_ | with_reducible refine S.reg ?_ | with_reducible refine S.skip ?_ | ((with_reducible apply S.condF); apply rfl) | (with_reducible apply T.ofRet) | fail)
    refine T.call rfl rfl (mlen_at (has := true) (all := live now k.ends) (ac := oc) (aa := oa) (by omega) hks) ?_
    rintro _ _ ⟨rfl, rfl⟩
    rcases why with ⟨c6, rfl, rfl⟩ | ⟨c6, rfl, rfl⟩
    · repeat' (first | ((with_reducible apply T.asn); apply rfl; apply rfl) | ((with_reducible apply T.geq); apply rfl; apply rfl; apply rfl) | with_reducible refine Sr.nil ?_ | with_reducible refine S.seq ?_ | with_reducible refine S.reg ?_ | ((with_reducible apply T.retW); apply rfl) | (with_reducible apply T.ofRet) | ((with_reducible apply S.condQ); apply rfl; all_goals (intro _; try (exfalso; omega))) | fail)
      exact ⟨.blk pm (mdV oa (live now k.ends).length oc true now) 81 :: .row oa oc 85 2 (live now k.ends).length ((live now k.ends).flatMap enV) :: H, by ((repeat (first | dsimp only [List.set_cons_zero] | dsimp only [List.set_cons_succ])); repeat' first | exact PSub.refl _ | exact PSub.nil | ((with_reducible apply PSub.take); (repeat' first | (with_reducible exact pick_hd) | (with_reducible apply pick_tl))) | (with_reducible apply PSub.drop) | ((apply PSub.take); (repeat' first | exact pick_hd | (apply pick_tl)))), live now k.ends, oa, oc, MInv.self hlg, rfl, rfl⟩
    · have hput := MInv.put hm.inv.good c3 hw htg c6
      have hlen : (live now k.ends).length + 1 = (live now k.ends ++ [(n, til)]).length := by simp
      repeat' (first | (refine T.appendF (g := enV) (n, til) rfl rfl rfl inferInstance (fun _ => rfl) rfl rfl rfl (by constructor <;> omega) rfl ?_; intro na nc) | ((with_reducible apply T.mv); apply rfl; apply rfl) | ((with_reducible apply T.asn); apply rfl; apply rfl) | ((with_reducible apply T.nilCheck); apply rfl; apply rfl) | ((with_reducible apply T.fieldAddrZ); apply rfl; apply rfl) | ((with_reducible apply T.load); apply rfl; apply rfl; infer_instance; apply rfl; apply rfl) | ((with_reducible apply T.geq); apply rfl; apply rfl; apply rfl) | ((with_reducible apply T.buildL); apply rfl; apply rfl; apply rfl) | ((with_reducible apply T.store); apply rfl; apply rfl; infer_instance; (first | decide | (simp; omega) | simp); apply rfl) | ((with_reducible apply T.bsL); apply rfl; apply rfl; apply rfl; apply rfl; apply rfl; intro nb) | with_reducible refine Sr.nil ?_ | with_reducible refine S.seq ?_ | with_reducible refine S.reg ?_ | with_reducible refine S.skip ?_ | ((with_reducible apply T.retW); apply rfl) | (with_reducible apply T.ofRet) | ((with_reducible apply S.condQ); apply rfl; all_goals (intro _; try (exfalso; omega))) | fail)
      rw [hlen]
      exact ⟨.blk pm (mdV na (live now k.ends ++ [(n, til)]).length nc true now) 81 :: .row na nc 85 2 (live now k.ends ++ [(n, til)]).length ((live now k.ends ++ [(n, til)]).flatMap enV) :: H, by ((repeat (first | dsimp only [List.set_cons_zero] | dsimp only [List.set_cons_succ])); repeat' first | exact PSub.refl _ | exact PSub.nil | ((with_reducible apply PSub.take); (repeat' first | (with_reducible exact pick_hd) | (with_reducible apply pick_tl))) | (with_reducible apply PSub.drop) | ((apply PSub.take); (repeat' first | exact pick_hd | (apply pick_tl)))), _, na, nc, hput, rfl, rfl⟩
end Go.Proofs.Ytcojlgkfkifhmaa
