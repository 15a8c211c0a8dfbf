/- The walk of the program's book: Take. -/
import Derived.Test.YtcojlgkfkifhmaaRepB
/- maps -/
namespace Go.Proofs.Ytcojlgkfkifhmaa
open Sg Go.IntWalk
set_option maxRecDepth 100000
set_option maxHeartbeats 1000000
/-- What lives at a clock. -/
def live (now : Int) (m : Ents) : Ents := m.filter fun p => decide (now ≤ p.2)
/-- Take: the code, the book. -/
def Bk.take (k : Bk) (name : List UInt8) (til now : Int) : Nat × Bk :=
  if 1024 < name.length then (10, k) else if k.has = true ∧ now < k.last then (162, k) else
  if til < now then (134, ⟨true, now, live now k.ends⟩) else if (eget (live now k.ends) name).isSome = true then (160, ⟨true, now, live now k.ends⟩) else
  if (live now k.ends).length = 4096 then (161, ⟨true, now, live now k.ends⟩) else (0, ⟨true, now, eput (live now k.ends) name til⟩)
theorem take_spec {F : World} {M : List Nat} {H : List Res} {p mb : Nat} {k : Bk} {name : List UInt8} {til now : Int} (hn : name.length ≤ maxLen) (hk : k.ends.length ≤ 1000000000) (ht : (Lit.int .i64 til).wf = true) :
    Meets Try.prog 12 [.pointer (some ⟨p, 0, none⟩), sV name, .int .i64 til, .int .i64 now] F M (.blk p (bkV mb k) 63 :: bkM mb k :: H) (fun e H' => e = .returned (.int .i64 ((k.take name til now).1 : Nat)) ∧ H' = .blk p (bkV mb (k.take name til now).2) 63 :: bkM mb (k.take name til now).2 :: H) := by
  refine Meets.enter Try.func12 rfl rfl ?_
  refine S.once (b := mb) (k := 9) inferInstance fun ho => ?_
  obtain ⟨has, last, ends⟩ := k
  unfold Bk.take
  simp only at ho hk
  dsimp only [bkV]
  by_cases h1 : 1024 < name.length
  · rw [if_pos h1]
    repeat' (first | ((with_reducible apply T.slen); apply rfl; apply rfl) | ((with_reducible apply T.mv); apply rfl; apply rfl) | ((with_reducible apply T.asn); apply rfl; apply rfl) | ((with_reducible apply T.gtr); apply rfl; apply rfl; apply rfl) | with_reducible refine Sr.nil ?_ | with_reducible refine S.seq ?_ | with_reducible refine S.block ?_ | with_reducible refine S.reg ?_ | ((with_reducible apply T.retW); apply rfl) | ((with_reducible apply S.condQ); apply rfl; all_goals (intro _; try (exfalso; omega))) | fail)
    exact ⟨_, PSub.refl _, rfl, rfl⟩
  rw [if_neg h1]
  by_cases h2 : has = true ∧ now < last
  · rw [if_pos h2]
    obtain ⟨rfl, h3⟩ := h2
    repeat' (first | ((with_reducible apply T.slen); apply rfl; apply rfl) | ((with_reducible apply T.mv); apply rfl; apply rfl) | ((with_reducible apply T.asn); apply rfl; apply rfl) | ((with_reducible apply T.nilCheck); apply rfl; apply rfl) | ((with_reducible apply T.fieldAddrZ); apply rfl; apply rfl) | ((with_reducible apply T.load); apply rfl; apply rfl; infer_instance; apply rfl; apply rfl) | ((with_reducible apply T.lss); apply rfl; apply rfl; apply rfl) | ((with_reducible apply T.gtr); apply rfl; apply rfl; apply rfl) | ((with_reducible apply T.pickT); apply rfl; apply rfl; apply rfl) | with_reducible refine Sr.nil ?_ | with_reducible refine S.seq ?_ | with_reducible refine S.block ?_ | with_reducible refine S.reg ?_ | ((with_reducible apply T.ung); apply rfl) | ((with_reducible apply T.retW); apply rfl) | ((with_reducible apply S.condQ); apply rfl; all_goals (intro _; try (exfalso; omega))) | fail)
    exact ⟨_, PSub.refl _, rfl, rfl⟩
  rw [if_neg h2]
  refine S.seq ?_
  repeat' (first | ((with_reducible apply T.asn); apply rfl; apply rfl) | with_reducible refine Sr.nil ?_ | with_reducible refine S.reg ?_ | fail)
  refine S.seq ?_
  refine S.cut (fun H' e' => H' = .blk p [.bool has, .int .i64 last, .map (some mb)] 63 :: bkM mb ⟨has, last, ends⟩ :: H ∧ e' = [(0, .pointer (some ⟨p, 0, none⟩)), (1, sV name), (2, .int .i64 til), (3, .int .i64 now)]) ?_ ?_
  · intro k' hrest
    cases has with
    | true =>
      have h3 : ¬ now < last := fun h => h2 ⟨rfl, h⟩
      repeat' (first | ((with_reducible apply T.slen); apply rfl; apply rfl) | ((with_reducible apply T.mv); apply rfl; apply rfl) | ((with_reducible apply T.asn); apply rfl; apply rfl) | ((with_reducible apply T.nilCheck); apply rfl; apply rfl) | ((with_reducible apply T.fieldAddrZ); apply rfl; apply rfl) | ((with_reducible apply T.load); apply rfl; apply rfl; infer_instance; apply rfl; apply rfl) | ((with_reducible apply T.lss); apply rfl; apply rfl; apply rfl) | ((with_reducible apply T.gtr); apply rfl; apply rfl; apply rfl) | ((with_reducible apply T.pickT); apply rfl; apply rfl; apply rfl) | with_reducible refine Sr.nil ?_ | with_reducible refine S.seq ?_ | with_reducible refine S.block ?_ | with_reducible refine S.reg ?_ | with_reducible refine S.skip ?_ | with_reducible refine S.inBlock ?_ | ((with_reducible apply T.ung); apply rfl) | ((with_reducible apply S.condQ); apply rfl; all_goals (intro _; try (exfalso; omega))) | fail)
      exact hrest _ _ _ ⟨rfl, rfl⟩ (by repeat' first | exact trivial | refine And.intro rfl ?_)
    | false =>
      repeat' (first | ((with_reducible apply T.slen); apply rfl; apply rfl) | ((with_reducible apply T.mv); apply rfl; apply rfl) | ((with_reducible apply T.asn); apply rfl; apply rfl) | ((with_reducible apply T.nilCheck); apply rfl; apply rfl) | ((with_reducible apply T.fieldAddrZ); apply rfl; apply rfl) | ((with_reducible apply T.load); apply rfl; apply rfl; infer_instance; apply rfl; apply rfl) | ((with_reducible apply T.gtr); apply rfl; apply rfl; apply rfl) | ((with_reducible apply T.pickF); apply rfl; apply rfl; apply rfl) | with_reducible refine Sr.nil ?_ | with_reducible refine S.seq ?_ | with_reducible refine S.block ?_ | with_reducible refine S.reg ?_ | with_reducible refine S.skip ?_ | with_reducible refine S.inBlock ?_ | ((with_reducible apply T.skip); apply rfl; apply rfl; apply rfl) | ((with_reducible apply S.condF); apply rfl) | ((with_reducible apply S.condQ); apply rfl; all_goals (intro _; try (exfalso; omega))) | fail)
      all_goals exact hrest _ _ _ ⟨rfl, rfl⟩ (by repeat' first | exact trivial | refine And.intro rfl ?_)
  rintro _ _ ⟨rfl, rfl⟩
  refine S.front mb ?_
  repeat' (first | ((with_reducible apply T.mv); apply rfl; apply rfl) | ((with_reducible apply T.nilCheck); apply rfl; apply rfl) | ((with_reducible apply T.fieldAddrZ); apply rfl; apply rfl) | ((with_reducible apply T.load); apply rfl; apply rfl; infer_instance; apply rfl; apply rfl) | ((with_reducible apply T.store); apply rfl; apply rfl; infer_instance; (first | decide | (simp; omega) | simp); apply rfl) | with_reducible refine Sr.nil ?_ | with_reducible refine S.seq ?_ | with_reducible refine S.reg ?_ | fail)
  refine T.mapRange rfl rfl ?_
  intro r
  repeat' (first | with_reducible refine Sr.nil ?_ | with_reducible refine S.block ?_ | fail)
  refine S.loopE 1 [0, 1, 2, 3, 41] (fun R b' μ H' e => ∃ left m', H' = .ex2 mb r (rngQ Try.prog 9 2 mb ends.length (mapD m') left μ) :: R ∧ e = b' ∧ m' = ends.filter fun p => left (.string p.1) || decide (now ≤ p.2)) rfl rfl ?_ ends.length _ ⟨Maps.has (mapD ends), ends, rfl, rfl, ?_⟩ (by repeat' first | exact trivial | refine And.intro rfl ?_)
  · rintro μ _ _ ⟨left, m', rfl, rfl, hm⟩ ih
    repeat' (first | with_reducible refine S.seq ?_ | with_reducible refine S.reg ?_ | fail)
    refine T.mapNext rfl rfl (fun hl => ?_) (fun kk z cnt' hl hg hkk hc => ?_)
    · have hm2 : m' = live now ends := by
        rw [hm]
        exact List.filter_congr fun q _ => by rw [hl]; simp
      subst hm2
      repeat' (first | (with_reducible apply S.endRange) | ((with_reducible apply T.mapOk); apply rfl; apply rfl; infer_instance; (first | assumption | (simp only [maxLen]; omega) | omega); apply rfl) | ((with_reducible apply T.mv); apply rfl; apply rfl) | ((with_reducible apply T.asn); apply rfl; apply rfl) | ((with_reducible apply T.nilCheck); apply rfl; apply rfl) | ((with_reducible apply T.fieldAddrZ); apply rfl; apply rfl) | ((with_reducible apply T.load); apply rfl; apply rfl; infer_instance; apply rfl; apply rfl) | ((with_reducible apply T.lss); apply rfl; apply rfl; apply rfl) | ((with_reducible apply T.extract); apply rfl; apply rfl; apply rfl) | with_reducible refine Sr.nil ?_ | with_reducible refine S.seq ?_ | with_reducible refine S.block ?_ | with_reducible refine S.reg ?_ | ((with_reducible apply S.exit); apply rfl) | ((with_reducible apply S.condF); apply rfl) | fail)
      refine S.front p ?_
      by_cases h3 : til < now
      · rw [if_pos h3]
        repeat' (first | ((with_reducible apply T.asn); apply rfl; apply rfl) | with_reducible refine Sr.nil ?_ | with_reducible refine S.seq ?_ | with_reducible refine S.reg ?_ | ((with_reducible apply T.retW); apply rfl) | ((with_reducible apply S.condQ); apply rfl; all_goals (intro _; try (exfalso; omega))) | fail)
        exact ⟨_, PSub.refl _, rfl, rfl⟩
      rw [if_neg h3]
      by_cases h4 : (eget (live now ends) name).isSome = true
      · rw [if_pos h4]
        rw [h4]
        repeat' (first | ((with_reducible apply T.mv); apply rfl; apply rfl) | ((with_reducible apply T.asn); apply rfl; apply rfl) | with_reducible refine Sr.nil ?_ | with_reducible refine S.seq ?_ | with_reducible refine S.reg ?_ | ((with_reducible apply S.condT); apply rfl) | ((with_reducible apply T.retW); apply rfl) | ((with_reducible apply S.condQ); apply rfl; all_goals (intro _; try (exfalso; omega))) | fail)
        exact ⟨_, PSub.refl _, rfl, rfl⟩
      rw [if_neg h4]
      rw [Bool.not_eq_true] at h4
      rw [h4]
      by_cases h5 : (live now ends).length = 4096
      · rw [if_pos h5]
        repeat' (first | ((with_reducible apply T.mapLen); apply rfl; infer_instance; apply rfl) | ((with_reducible apply T.mv); apply rfl; apply rfl) | ((with_reducible apply T.asn); apply rfl; apply rfl) | ((with_reducible apply T.nilCheck); apply rfl; apply rfl) | ((with_reducible apply T.fieldAddrZ); apply rfl; apply rfl) | ((with_reducible apply T.load); apply rfl; apply rfl; infer_instance; apply rfl; apply rfl) | ((with_reducible apply T.eql); apply rfl; apply rfl; apply rfl) | with_reducible refine Sr.nil ?_ | with_reducible refine S.seq ?_ | with_reducible refine S.reg ?_ | ((with_reducible apply S.condF); apply rfl) | ((with_reducible apply T.retW); apply rfl) | ((with_reducible apply S.condQ); apply rfl; all_goals (intro _; try (exfalso; omega))) | fail)
        exact ⟨_, PSub.refl _, rfl, rfl⟩
      rw [if_neg h5]
      repeat' (first | ((with_reducible apply T.mapLen); apply rfl; infer_instance; apply rfl) | ((with_reducible apply T.mv); apply rfl; apply rfl) | ((with_reducible apply T.asn); apply rfl; apply rfl) | ((with_reducible apply T.nilCheck); apply rfl; apply rfl) | ((with_reducible apply T.fieldAddrZ); apply rfl; apply rfl) | ((with_reducible apply T.load); apply rfl; apply rfl; infer_instance; apply rfl; apply rfl) | ((with_reducible apply T.eql); apply rfl; apply rfl; apply rfl) | with_reducible refine Sr.nil ?_ | with_reducible refine S.seq ?_ | with_reducible refine S.reg ?_ | with_reducible refine S.skip ?_ | with_reducible refine S.inBlock ?_ | ((with_reducible apply S.condF); apply rfl) | ((with_reducible apply S.condQ); apply rfl; all_goals (intro _; try (exfalso; omega))) | fail)
      refine Sr.front mb ?_
      refine T.mapPutT rfl rfl rfl (by simp only [maxLen]; omega) ?_ ht ?_
      · have : (live now ends).length ≤ ends.length := List.length_filter_le _ _
        simp only [maxLen]
        omega
      refine Sr.front p ?_
      repeat' (first | ((with_reducible apply T.asn); apply rfl; apply rfl) | with_reducible refine Sr.nil ?_ | with_reducible refine S.seq ?_ | with_reducible refine S.reg ?_ | ((with_reducible apply T.retW); apply rfl) | fail)
      exact ⟨_, PSub.refl _, rfl, rfl⟩
    · by_cases h3 : z < now
      · repeat' (first | ((with_reducible apply T.mapEntry); apply rfl; apply rfl) | ((with_reducible apply T.mv); apply rfl; apply rfl) | ((with_reducible apply T.asn); apply rfl; apply rfl) | ((with_reducible apply T.nilCheck); apply rfl; apply rfl) | ((with_reducible apply T.fieldAddrZ); apply rfl; apply rfl) | ((with_reducible apply T.load); apply rfl; apply rfl; infer_instance; apply rfl; apply rfl) | ((with_reducible apply T.lss); apply rfl; apply rfl; apply rfl) | ((with_reducible apply T.extract); apply rfl; apply rfl; apply rfl) | with_reducible refine Sr.nil ?_ | with_reducible refine S.seq ?_ | with_reducible refine S.block ?_ | with_reducible refine S.reg ?_ | with_reducible refine S.skip ?_ | ((with_reducible apply S.condT); apply rfl) | ((with_reducible apply S.condQ); apply rfl; all_goals (intro _; try (exfalso; omega))) | fail)
        refine Sr.uncur ?_
        refine T.mapRangeDel rfl rfl hkk ?_
        intro c2 hc2
        repeat' (first | with_reducible refine Sr.nil ?_ | with_reducible refine S.inBlock ?_ | fail)
        refine ih _ _ _ _ ⟨_, _, rfl, rfl, ?_⟩ (by omega) (by repeat' first | exact trivial | refine And.intro rfl ?_)
        rw [hm]
        rw [hm] at hg
        exact range_drop ho hl hg (by omega)
      · repeat' (first | ((with_reducible apply T.mapEntry); apply rfl; apply rfl) | ((with_reducible apply T.mv); apply rfl; apply rfl) | ((with_reducible apply T.asn); apply rfl; apply rfl) | ((with_reducible apply T.lss); apply rfl; apply rfl; apply rfl) | ((with_reducible apply T.extract); apply rfl; apply rfl; apply rfl) | with_reducible refine Sr.nil ?_ | with_reducible refine S.seq ?_ | with_reducible refine S.block ?_ | with_reducible refine S.reg ?_ | with_reducible refine S.skip ?_ | with_reducible refine S.inBlock ?_ | ((with_reducible apply S.condT); apply rfl) | ((with_reducible apply S.condQ); apply rfl; all_goals (intro _; try (exfalso; omega))) | fail)
        refine S.uncur ?_
        refine ih _ _ _ _ ⟨_, _, rfl, rfl, ?_⟩ (by omega) (by repeat' first | exact trivial | refine And.intro rfl ?_)
        rw [hm]
        rw [hm] at hg
        exact range_keep ho hl hg (by omega)
  · exact (List.filter_eq_self.2 fun q hq => by rw [mapD_has, once_get ho hq]; rfl).symm
end Go.Proofs.Ytcojlgkfkifhmaa
