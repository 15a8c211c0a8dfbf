/- Texts put together by a program: SerC SerD Law LawS. -/
import Derived.Test.YtddbdgmaaogclaaGreatDoorMh
import Derived.Test.YtddbdgmaaogclaaGreatDoorMj
import Derived.Test.YtddbdgmaaogclaaGreatDoorRecs
import Derived.ProofKit
import Derived.Carry
import Derived.LaidMore
import Derived.OpenShut
import Derived.Stop.Joined
import Derived.SizedLaws
import Derived.Handed
import Derived.Shelf.Vars
/- The walks of the document's forms. -/
namespace Go.Proofs.YtddbdgmaaogclaaGreatDoor
open Sg Go.IntWalk
set_option maxRecDepth 100000
set_option maxHeartbeats 4000000
section
variable {F : World} {M : List Nat} {H : List Res} {v : List Nd} {p : Nat} {oa : Option Addr} {oc n : Nat}
theorem dots_spec {s : List UInt8} (hl : s.length ≤ 1000000000) : Meets Tryz.prog 80 [sV s] F M H (fun e H' => e = .returned (.int .i64 (s.count 46 : Nat)) ∧ H' = H) := by
  refine Meets.enter Tryz.func80 rfl rfl ?_
  repeat' (first | (apply T.asn; apply rfl; apply rfl) | with_reducible refine Sr.nil ?_ | with_reducible refine S.seq ?_ | with_reducible refine S.block ?_ | with_reducible refine S.reg ?_ | fail)
  refine S.loopE 0 [0] (fun R b' μ H' e => ∃ i : Nat, H' = R ∧ e = (3, .int .i64 ((s.take i).count 46 : Nat)) :: (4, .int .i64 i) :: b' ∧ i ≤ s.length ∧ μ = s.length - i) rfl rfl ?_ _ _ ⟨0, rfl, rfl, Nat.zero_le _, rfl⟩ (by repeat' first | exact trivial | refine And.intro rfl ?_)
  rintro _ _ _ ⟨i, rfl, rfl, h1, rfl⟩ ih
  have hcl : (s.take i).count 46 ≤ i := Nat.le_trans List.count_le_length (by rw [List.length_take]; omega)
  by_cases h2 : i < s.length
  · have hg : s[i] = s.getD i 0 := by simp [List.getD, h2]
    have hst : (s.take (i + 1)).count 46 = (s.take i).count 46 + if s.getD i 0 = 46 then 1 else 0 := by
      rw [List.take_succ_eq_append_getElem h2, List.count_append, hg]
      by_cases h : s.getD i 0 = 46
      · rw [h]; rfl
      · rw [if_neg h, List.count_singleton, if_neg (by simpa using h)]
    by_cases h3 : (s.getD i 0).toNat = 46
    · rw [if_pos (UInt8.toNat_inj.1 h3)] at hst
      have e1 : (((s.take i).count 46 : Nat) : Int) + 1 = (((s.take (i + 1)).count 46 : Nat) : Int) := by omega
      repeat' (first | (apply T.addI; apply rfl; apply rfl; omega; apply rfl; try rw [e1]) | (apply T.slen; apply rfl; apply rfl) | (apply T.sidx; apply rfl; apply rfl; omega; apply rfl) | (apply T.mv; apply rfl; apply rfl) | (apply T.asn; apply rfl; apply rfl) | (apply T.lss; apply rfl; apply rfl; apply rfl) | (apply T.eql; apply rfl; apply rfl; apply rfl) | with_reducible refine Sr.nil ?_ | with_reducible refine S.seq ?_ | with_reducible refine S.block ?_ | with_reducible refine S.reg ?_ | with_reducible refine S.skip ?_ | with_reducible refine S.inBlock ?_ | (apply S.condQ; apply rfl; all_goals (intro _; try (exfalso; first | omega | with_reducible contradiction))) | fail)
      exact ih _ _ _ _ ⟨i + 1, rfl, rfl, by omega, rfl⟩ (by omega) (by repeat' first | exact trivial | refine And.intro rfl ?_)
    · rw [if_neg (fun h => h3 (by rw [h]; rfl)), Nat.add_zero] at hst
      repeat' (first | (apply T.slen; apply rfl; apply rfl) | (apply T.sidx; apply rfl; apply rfl; omega; apply rfl) | (apply T.mv; apply rfl; apply rfl) | (apply T.asn; apply rfl; apply rfl) | (apply T.lss; apply rfl; apply rfl; apply rfl) | (apply T.eql; apply rfl; apply rfl; apply rfl) | (apply T.addI; apply rfl; apply rfl; omega; apply rfl) | with_reducible refine Sr.nil ?_ | with_reducible refine S.seq ?_ | with_reducible refine S.block ?_ | with_reducible refine S.reg ?_ | with_reducible refine S.skip ?_ | with_reducible refine S.inBlock ?_ | (apply S.condQ; apply rfl; all_goals (intro _; try (exfalso; first | omega | with_reducible contradiction))) | fail)
      refine ih _ _ _ _ ⟨i + 1, rfl, rfl, by omega, rfl⟩ (by omega) ?_
      rw [hst]
      exact (by repeat' first | exact trivial | refine And.intro rfl ?_)
  · obtain rfl : i = s.length := by omega
    rw [List.take_length]
    repeat' (first | (apply T.slen; apply rfl; apply rfl) | (apply T.mv; apply rfl; apply rfl) | (apply T.asn; apply rfl; apply rfl) | (apply T.lss; apply rfl; apply rfl; apply rfl) | with_reducible refine Sr.nil ?_ | with_reducible refine S.seq ?_ | with_reducible refine S.reg ?_ | (apply S.exit; apply rfl) | (apply S.condQ; apply rfl; all_goals (intro _; try (exfalso; first | omega | with_reducible contradiction))) | (apply T.retW; apply rfl) | fail)
    exact ⟨_, PSub.refl _, rfl, rfl⟩
theorem count_mem {s : List UInt8} : 0 < s.count 46 ↔ (46 : UInt8) ∈ s := List.count_pos_iff
/-- What a string without a dot answers. -/
def StO : Option (List UInt8) → Ending → Prop
  | some s => fun e => e = .returned (.tuple ⟨[sV s, .bool true]⟩)
  | none => fun e => e = .returned (.tuple ⟨[sV [], .bool false]⟩)
theorem str_spec {nm : List UInt8} [hRv : Rd F M H oa (v.flatMap ndV)] (hn : v.length = n) (hl : n ≤ 1000000) (ha : IsAt v p) (hB : ∀ x ∈ v, x.text.length ≤ 2000000) :
    Meets Tryz.prog 39 [.slice oa n oc, .int .i64 p, sV nm] F M H (fun e H' => StO (strX v p nm) e ∧ H' = H) := by
  subst hn
  refine Meets.enter Tryz.func39 rfl rfl ?_
  have hsx : strX v p nm = if memI v p nm < 0 then none else strN (nodeAt v (memI v p nm).toNat) := rfl
  generalize strX v p nm = Q at *
  repeat' (first | (apply T.mv; apply rfl; apply rfl) | (apply T.asn; apply rfl; apply rfl) | with_reducible refine Sr.nil ?_ | with_reducible refine S.seq ?_ | with_reducible refine S.reg ?_ | fail)
  refine T.call rfl rfl (refMemberI_spec rfl hl ha) ?_
  rintro _ _ ⟨rfl, hH⟩
  have hH2 := hH.symm
  subst hH2
  rcases memI_of ha nm with g6 | ⟨q, g6, g7⟩
  · rw [if_pos (by omega)] at hsx
    rw [hsx, g6]
    repeat' (first | (apply T.mv; apply rfl; apply rfl) | (apply T.asn; apply rfl; apply rfl) | (apply T.lss; apply rfl; apply rfl; apply rfl) | (apply T.pickT; apply rfl; apply rfl; apply rfl) | with_reducible refine Sr.nil ?_ | with_reducible refine S.seq ?_ | with_reducible refine S.reg ?_ | (apply T.skip; apply rfl; (first | with_reducible rfl | decide); apply rfl) | (apply S.condTV; apply rfl; (first | with_reducible rfl | decide)) | (apply T.retW; apply rfl) | (with_reducible apply T.ofRet) | fail)
    exact ⟨_, PSub.refl _, rfl, rfl⟩
  · have g8 := g7.lt
    have g9 : (q : Int).toNat = q := by omega
    rw [g6, if_neg (by omega), g9, nodeAt_getD g8] at hsx
    unfold strN at hsx
    have hpl : (v.getD q default).text.length ≤ 2000000 := by have := nodeAt_len hB q; rwa [nodeAt_getD g8] at this
    rw [g6]
    by_cases k1 : (v.getD q default).kind = 5
    · have hcm := count_mem (s := (v.getD q default).text)
      repeat' (first | (apply T.mv; apply rfl; apply rfl) | (apply T.asn; apply rfl; apply rfl) | (apply T.lss; apply rfl; apply rfl; apply rfl) | (apply T.neq; apply rfl; apply rfl; apply rfl) | (apply T.ixF; apply rfl; apply rfl; infer_instance; exact (fun _ => rfl); apply rfl; omega; omega; apply rfl) | (apply T.fieldAddrF; apply rfl; infer_instance; exact (fun _ => rfl); apply rfl; omega; apply rfl) | (apply T.loadF; apply rfl; apply rfl; infer_instance; exact (fun _ => rfl); apply rfl; exact getD_some (by omega); apply rfl; apply rfl) | (apply T.pickF; apply rfl; apply rfl; apply rfl) | with_reducible refine Sr.nil ?_ | with_reducible refine S.seq ?_ | with_reducible refine S.reg ?_ | (apply T.ungV; apply rfl; (first | with_reducible rfl | decide)) | (apply T.gcase; apply rfl; apply rfl; all_goals (intro _; try (exfalso; first | omega | with_reducible contradiction))) | (with_reducible apply T.ofRet) | fail)
      refine T.call rfl rfl (dots_spec (by omega)) ?_
      rintro _ _ ⟨rfl, rfl⟩
      by_cases k2 : 46 ∈ (v.getD q default).text
      · have k3 := hcm.2 k2
        rw [if_neg (fun h => h.2 k2)] at hsx
        rw [hsx]
        repeat' (first | (apply T.asn; apply rfl; apply rfl) | (apply T.gtr; apply rfl; apply rfl; apply rfl) | (apply T.pickF; apply rfl; apply rfl; apply rfl) | with_reducible refine Sr.nil ?_ | with_reducible refine S.seq ?_ | with_reducible refine S.reg ?_ | (apply T.ungV; apply rfl; (first | with_reducible rfl | decide)) | (apply S.condQ; apply rfl; all_goals (intro _; try (exfalso; first | omega | with_reducible contradiction))) | (apply T.retW; apply rfl) | (with_reducible apply T.ofRet) | fail)
        exact ⟨_, PSub.refl _, rfl, rfl⟩
      · have k3 : ¬ 0 < (v.getD q default).text.count 46 := fun h => k2 (hcm.1 h)
        rw [if_pos ⟨k1, k2⟩] at hsx
        rw [hsx]
        repeat' (first | (apply T.mv; apply rfl; apply rfl) | (apply T.asn; apply rfl; apply rfl) | (apply T.gtr; apply rfl; apply rfl; apply rfl) | (apply T.ixF; apply rfl; apply rfl; infer_instance; exact (fun _ => rfl); apply rfl; omega; omega; apply rfl) | (apply T.fieldAddrF; apply rfl; infer_instance; exact (fun _ => rfl); apply rfl; omega; apply rfl) | (apply T.loadF; apply rfl; apply rfl; infer_instance; exact (fun _ => rfl); apply rfl; exact getD_some (by omega); apply rfl; apply rfl) | (apply T.pickF; apply rfl; apply rfl; apply rfl) | with_reducible refine Sr.nil ?_ | with_reducible refine S.seq ?_ | with_reducible refine S.reg ?_ | with_reducible refine S.skip ?_ | (apply T.ungV; apply rfl; (first | with_reducible rfl | decide)) | (apply S.condQ; apply rfl; all_goals (intro _; try (exfalso; first | omega | with_reducible contradiction))) | (apply T.retW; apply rfl) | (with_reducible apply T.ofRet) | fail)
        exact ⟨_, PSub.refl _, rfl, rfl⟩
    · rw [if_neg (fun h => k1 h.1)] at hsx
      rw [hsx]
      repeat' (first | (apply T.mv; apply rfl; apply rfl) | (apply T.asn; apply rfl; apply rfl) | (apply T.lss; apply rfl; apply rfl; apply rfl) | (apply T.neq; apply rfl; apply rfl; apply rfl) | (apply T.ixF; apply rfl; apply rfl; infer_instance; exact (fun _ => rfl); apply rfl; omega; omega; apply rfl) | (apply T.fieldAddrF; apply rfl; infer_instance; exact (fun _ => rfl); apply rfl; omega; apply rfl) | (apply T.loadF; apply rfl; apply rfl; infer_instance; exact (fun _ => rfl); apply rfl; exact getD_some (by omega); apply rfl; apply rfl) | (apply T.pickT; apply rfl; apply rfl; apply rfl) | (apply T.pickF; apply rfl; apply rfl; apply rfl) | with_reducible refine Sr.nil ?_ | with_reducible refine S.seq ?_ | with_reducible refine S.reg ?_ | (apply T.ungV; apply rfl; (first | with_reducible rfl | decide)) | (apply T.skip; apply rfl; (first | with_reducible rfl | decide); apply rfl) | (apply S.condTV; apply rfl; (first | with_reducible rfl | decide)) | (apply T.gcase; apply rfl; apply rfl; all_goals (intro _; try (exfalso; first | omega | with_reducible contradiction))) | (apply T.retW; apply rfl) | (with_reducible apply T.ofRet) | fail)
      exact ⟨_, PSub.refl _, rfl, rfl⟩
theorem StO.uni {o : Option (List UInt8)} {e : Ending} (h : StO o e) : e = .returned (.tuple ⟨[sV (o.getD []), .bool o.isSome]⟩) := by
  cases o <;> exact h
theorem strU_spec {nm : List UInt8} [hRv : Rd F M H oa (v.flatMap ndV)] (hn : v.length = n) (hl : n ≤ 1000000) (ha : IsAt v p) (hB : ∀ x ∈ v, x.text.length ≤ 2000000) :
    Meets Tryz.prog 39 [.slice oa n oc, .int .i64 p, sV nm] F M H (fun e H' => e = .returned (.tuple ⟨[sV ((strX v p nm).getD []), .bool (strX v p nm).isSome]⟩) ∧ H' = H) :=
  (str_spec hn hl ha hB).mono fun _ _ ⟨h1, h2⟩ => ⟨h1.uni, h2⟩
theorem refTokens_spec {t : List UInt8} : Meets Tryz.prog 11 [sV t] F M H (TkE H (tokX t)) := by
  refine Meets.enter Tryz.func11 rfl rfl ?_
  unfold tokX
  refine S.nilrow 9 1 ?_
  repeat' (first | (apply T.mv; apply rfl; apply rfl) | (apply T.asn; apply rfl; apply rfl) | with_reducible refine Sr.nil ?_ | with_reducible refine S.seq ?_ | with_reducible refine S.reg ?_ | fail)
  refine T.call rfl rfl refParse_spec ?_
  cases hp : parseX wholeX t with
  | bad c b =>
    have hc : c ≠ 0 := parse_code hp
    rintro _ _ ⟨rfl, rfl⟩
    repeat' (first | (apply T.mv; apply rfl; apply rfl) | (apply T.asn; apply rfl; apply rfl) | (apply T.neq; apply rfl; apply rfl; apply rfl) | (apply T.extract; apply rfl; apply rfl; apply rfl) | with_reducible refine Sr.nil ?_ | with_reducible refine S.seq ?_ | with_reducible refine S.reg ?_ | (apply S.condQ; apply rfl; all_goals (intro _; try (exfalso; first | omega | with_reducible contradiction))) | (apply T.retW; apply rfl) | (with_reducible apply T.ofRet) | fail)
    exact ⟨_, PSub.refl _, none, 0, rfl, rfl⟩
  | ok a v =>
    have ha := IsAt.of_fo (parse_fo hp)
    obtain ⟨hs1, hs2, hs3⟩ := parse_sz hp
    have hlt := ha.lt
    have hB : ∀ x ∈ v, x.text.length ≤ 2000000 := fun x hx => by have := (hs2 x hx).text; omega
    rintro _ _ ⟨oa, oc, rfl, rfl⟩
    simp only
    generalize hQ : tokV v = Q
    unfold tokV at hQ
    repeat' (first | (apply T.mv; apply rfl; apply rfl) | (apply T.asn; apply rfl; apply rfl) | (apply T.neq; apply rfl; apply rfl; apply rfl) | (apply T.extract; apply rfl; apply rfl; apply rfl) | with_reducible refine Sr.nil ?_ | with_reducible refine S.seq ?_ | with_reducible refine S.reg ?_ | with_reducible refine S.skip ?_ | (apply S.condFV; apply rfl; (first | with_reducible rfl | decide)) | (with_reducible apply T.ofRet) | fail)
    refine T.call rfl rfl (str_spec (p := 0) (nm := nPay) rfl (by omega) ha hB) ?_
    cases h1 : strX v 0 nPay with
    | none =>
      rw [h1] at hQ
      rw [← hQ]
      rintro _ _ ⟨rfl, rfl⟩
      repeat' (first | (apply T.mv; apply rfl; apply rfl) | (apply T.asn; apply rfl; apply rfl) | (apply T.extract; apply rfl; apply rfl; apply rfl) | (apply T.notB; apply rfl; apply rfl) | with_reducible refine Sr.nil ?_ | with_reducible refine S.seq ?_ | with_reducible refine S.reg ?_ | (apply S.condTV; apply rfl; (first | with_reducible rfl | decide)) | (apply T.retW; apply rfl) | (with_reducible apply T.ofRet) | fail)
      exact ⟨_, PSub.drop (PSub.refl _), none, 0, rfl, rfl⟩
    | some pay =>
      rw [h1] at hQ
      simp only at hQ
      have hl1 := strX_len hB h1
      rintro _ _ ⟨rfl, rfl⟩
      repeat' (first | (apply T.mv; apply rfl; apply rfl) | (apply T.asn; apply rfl; apply rfl) | (apply T.extract; apply rfl; apply rfl; apply rfl) | with_reducible refine Sr.nil ?_ | (with_reducible apply T.ofRet) | fail)
      refine S.seq ?_
      refine S.seq ?_
      repeat' (first | (apply T.mv; apply rfl; apply rfl) | (apply T.notB; apply rfl; apply rfl) | with_reducible refine Sr.nil ?_ | with_reducible refine S.reg ?_ | with_reducible refine S.skip ?_ | (apply S.condFV; apply rfl; (first | with_reducible rfl | decide)) | fail)
      refine S.seq ?_
      repeat' (first | (apply T.mv; apply rfl; apply rfl) | with_reducible refine S.reg ?_ | fail)
      refine T.call rfl rfl (strU_spec (p := 0) (nm := nPro) rfl (by omega) ha hB) ?_
      rintro _ _ ⟨rfl, rfl⟩
      repeat' (first | (apply T.mv; apply rfl; apply rfl) | (apply T.asn; apply rfl; apply rfl) | (apply T.extract; apply rfl; apply rfl; apply rfl) | with_reducible refine Sr.nil ?_ | (with_reducible apply T.ofRet) | fail)
      refine S.seq ?_
      repeat' (first | (apply T.mv; apply rfl; apply rfl) | with_reducible refine S.reg ?_ | fail)
      refine T.call rfl rfl (strU_spec (p := 0) (nm := nSig) rfl (by omega) ha hB) ?_
      rintro _ _ ⟨rfl, rfl⟩
      repeat' (first | (apply T.mv; apply rfl; apply rfl) | (apply T.asn; apply rfl; apply rfl) | (apply T.extract; apply rfl; apply rfl; apply rfl) | with_reducible refine Sr.nil ?_ | (with_reducible apply T.ofRet) | fail)
      refine S.seq ?_
      refine S.cut (fun H' e' => H' = ouR oa oc v :: .row none 0 9 1 0 [] :: H ∧ e' = [(4, .slice oa v.length oc), (7, sV pay)] ∧ manyT v pay = Q) ?_ ?_
      · intro k' hrest
        rw [nodeAt_getD hlt] at hQ
        cases h2 : strX v 0 nPro with
        | none =>
          rw [h2] at hQ
          repeat' (first | (apply T.mv; apply rfl; apply rfl) | (apply T.pickF; apply rfl; apply rfl; apply rfl) | with_reducible refine Sr.nil ?_ | with_reducible refine S.seq ?_ | with_reducible refine S.reg ?_ | with_reducible refine S.skip ?_ | (apply T.skip; apply rfl; (first | with_reducible rfl | decide); apply rfl) | (apply S.condFV; apply rfl; (first | with_reducible rfl | decide)) | fail)
          exact hrest _ _ _ ⟨rfl, rfl, hQ⟩ (by repeat' first | exact trivial | refine And.intro rfl ?_)
        | some x2 =>
          have hl2 := strX_len hB h2
          cases h3 : strX v 0 nSig with
          | none =>
            rw [h2, h3] at hQ
            repeat' (first | (apply T.mv; apply rfl; apply rfl) | (apply T.pickT; apply rfl; apply rfl; apply rfl) | (apply T.pickF; apply rfl; apply rfl; apply rfl) | with_reducible refine Sr.nil ?_ | with_reducible refine S.seq ?_ | with_reducible refine S.reg ?_ | with_reducible refine S.skip ?_ | (apply T.skip; apply rfl; (first | with_reducible rfl | decide); apply rfl) | (apply S.condFV; apply rfl; (first | with_reducible rfl | decide)) | (apply T.ung; apply rfl) | fail)
            exact hrest _ _ _ ⟨rfl, rfl, hQ⟩ (by repeat' first | exact trivial | refine And.intro rfl ?_)
          | some x3 =>
            have hl3 := strX_len hB h3
            rw [h2, h3] at hQ
            simp only at hQ
            have u2 : (some x2).getD [] = x2 := rfl
            have u3 : (some x3).getD [] = x3 := rfl
            rw [u2, u3]
            by_cases h4 : (v.getD 0 default).kids = 3
            · rw [if_pos h4] at hQ
              rw [← hQ]
              repeat' (first | (refine T.ixF (g := ndV) (sz := 6) (i := 0) (xs := v) rfl rfl inferInstance (fun _ => rfl) rfl (by omega) (by omega) rfl ?_) | (apply T.sadd; apply rfl; apply rfl; (simp only [List.length_append, List.length_cons, List.length_nil]; omega); apply rfl) | (refine Sr.rowOf (n := 1) rfl (by decide) ?_) | (apply T.mv; apply rfl; apply rfl) | (apply T.asn; apply rfl; apply rfl) | (apply T.eql; apply rfl; apply rfl; apply rfl) | (apply T.fieldAddrF; apply rfl; infer_instance; exact (fun _ => rfl); apply rfl; omega; apply rfl) | (apply T.loadF; apply rfl; apply rfl; infer_instance; exact (fun _ => rfl); apply rfl; exact getD_some (by omega); apply rfl; apply rfl) | (apply T.pickT; apply rfl; apply rfl; apply rfl) | (apply T.bs; apply rfl; apply rfl; apply rfl; apply rfl; apply rfl; apply rfl; intro nb) | with_reducible refine Sr.nil ?_ | with_reducible refine S.seq ?_ | with_reducible refine S.reg ?_ | (apply S.condQ; apply rfl; all_goals (intro _; try (exfalso; first | omega | with_reducible contradiction))) | (apply T.retW; apply rfl) | (apply T.ung; apply rfl) | fail)
              exact ⟨_, PSub.take pick_hd (PSub.drop (PSub.drop (PSub.refl _))), _, _, rfl, rfl⟩
            · rw [if_neg h4] at hQ
              repeat' (first | (refine T.ixF (g := ndV) (sz := 6) (i := 0) (xs := v) rfl rfl inferInstance (fun _ => rfl) rfl (by omega) (by omega) rfl ?_) | (apply T.mv; apply rfl; apply rfl) | (apply T.eql; apply rfl; apply rfl; apply rfl) | (apply T.fieldAddrF; apply rfl; infer_instance; exact (fun _ => rfl); apply rfl; omega; apply rfl) | (apply T.loadF; apply rfl; apply rfl; infer_instance; exact (fun _ => rfl); apply rfl; exact getD_some (by omega); apply rfl; apply rfl) | (apply T.pickT; apply rfl; apply rfl; apply rfl) | with_reducible refine Sr.nil ?_ | with_reducible refine S.seq ?_ | with_reducible refine S.reg ?_ | with_reducible refine S.skip ?_ | (apply S.condQ; apply rfl; all_goals (intro _; try (exfalso; first | omega | with_reducible contradiction))) | (apply T.ung; apply rfl) | fail)
              exact hrest _ _ _ ⟨rfl, rfl, hQ⟩ (by repeat' first | exact trivial | refine And.intro rfl ?_)
      rintro _ _ ⟨rfl, rfl, hQ⟩
      repeat' (first | (apply T.mv; apply rfl; apply rfl) | with_reducible refine S.seq ?_ | with_reducible refine S.reg ?_ | fail)
      refine T.call rfl rfl (refMemberI_spec (p := 0) (key := nSigs) rfl (by omega) ha) ?_
      rintro _ _ ⟨rfl, rfl⟩
      have hmt : manyT v pay = if memI v 0 nSigs < 0 ∨ (nodeAt v (memI v 0 nSigs).toNat).kind ≠ 6 ∨ (nodeAt v 0).kids ≠ 2 ∨ (nodeAt v (memI v 0 nSigs).toNat).kids = 0 ∨ 16 < (nodeAt v (memI v 0 nSigs).toNat).kids then none
        else allO (itemT v pay) (offs ((memI v 0 nSigs).toNat + 1) (kidsOf v (memI v 0 nSigs).toNat)) := rfl
      rw [hmt, nodeAt_getD hlt] at hQ
      rcases memI_of ha nSigs with c3 | ⟨s, c3, hs⟩
      · rw [if_pos (.inl (by omega))] at hQ
        rw [← hQ, c3]
        repeat' (first | (apply T.mv; apply rfl; apply rfl) | (apply T.asn; apply rfl; apply rfl) | (apply T.lss; apply rfl; apply rfl; apply rfl) | (apply T.pickT; apply rfl; apply rfl; apply rfl) | with_reducible refine Sr.nil ?_ | with_reducible refine S.seq ?_ | with_reducible refine S.reg ?_ | (apply T.skip; apply rfl; (first | with_reducible rfl | decide); apply rfl) | (apply S.condTV; apply rfl; (first | with_reducible rfl | decide)) | (apply T.retW; apply rfl) | (with_reducible apply T.ofRet) | fail)
        exact ⟨_, PSub.drop (PSub.refl _), none, 0, rfl, rfl⟩
      have hsn : (memI v 0 nSigs).toNat = s := by omega
      have hsl := hs.lt
      rw [hsn, nodeAt_getD hsl] at hQ
      rw [c3]
      by_cases c7 : (v.getD s default).kind ≠ 6 ∨ (v.getD 0 default).kids ≠ 2 ∨ (v.getD s default).kids = 0 ∨ 16 < (v.getD s default).kids
      · rw [if_pos (.inr c7)] at hQ
        rw [← hQ]
        by_cases d1 : (v.getD s default).kind = 6
        · by_cases d2 : (v.getD 0 default).kids = 2
          · by_cases d3 : (v.getD s default).kids = 0
            · repeat' (first | (refine T.ixF (g := ndV) (sz := 6) (i := 0) (xs := v) rfl rfl inferInstance (fun _ => rfl) rfl (by omega) (by omega) rfl ?_) | (apply T.mv; apply rfl; apply rfl) | (apply T.asn; apply rfl; apply rfl) | (apply T.lss; apply rfl; apply rfl; apply rfl) | (apply T.eql; apply rfl; apply rfl; apply rfl) | (apply T.neq; apply rfl; apply rfl; apply rfl) | (apply T.ixF; apply rfl; apply rfl; infer_instance; exact (fun _ => rfl); apply rfl; omega; omega; apply rfl) | (apply T.fieldAddrF; apply rfl; infer_instance; exact (fun _ => rfl); apply rfl; omega; apply rfl) | (apply T.loadF; apply rfl; apply rfl; infer_instance; exact (fun _ => rfl); apply rfl; exact getD_some (by omega); apply rfl; apply rfl) | (apply T.pickT; apply rfl; apply rfl; apply rfl) | (apply T.pickF; apply rfl; apply rfl; apply rfl) | with_reducible refine Sr.nil ?_ | with_reducible refine S.seq ?_ | with_reducible refine S.reg ?_ | (apply T.ungV; apply rfl; (first | with_reducible rfl | decide)) | (apply T.skip; apply rfl; (first | with_reducible rfl | decide); apply rfl) | (apply S.condTV; apply rfl; (first | with_reducible rfl | decide)) | (apply T.gcase; apply rfl; apply rfl; all_goals (intro _; try (exfalso; first | omega | with_reducible contradiction))) | (apply T.retW; apply rfl) | (with_reducible apply T.ofRet) | fail)
              exact ⟨_, PSub.drop (PSub.refl _), none, 0, rfl, rfl⟩
            · have d4 : 16 < (v.getD s default).kids := by omega
              repeat' (first | (refine T.ixF (g := ndV) (sz := 6) (i := 0) (xs := v) rfl rfl inferInstance (fun _ => rfl) rfl (by omega) (by omega) rfl ?_) | (apply T.mv; apply rfl; apply rfl) | (apply T.asn; apply rfl; apply rfl) | (apply T.lss; apply rfl; apply rfl; apply rfl) | (apply T.gtr; apply rfl; apply rfl; apply rfl) | (apply T.eql; apply rfl; apply rfl; apply rfl) | (apply T.neq; apply rfl; apply rfl; apply rfl) | (apply T.ixF; apply rfl; apply rfl; infer_instance; exact (fun _ => rfl); apply rfl; omega; omega; apply rfl) | (apply T.fieldAddrF; apply rfl; infer_instance; exact (fun _ => rfl); apply rfl; omega; apply rfl) | (apply T.loadF; apply rfl; apply rfl; infer_instance; exact (fun _ => rfl); apply rfl; exact getD_some (by omega); apply rfl; apply rfl) | (apply T.pickF; apply rfl; apply rfl; apply rfl) | with_reducible refine Sr.nil ?_ | with_reducible refine S.seq ?_ | with_reducible refine S.reg ?_ | (apply T.ungV; apply rfl; (first | with_reducible rfl | decide)) | (apply S.condQ; apply rfl; all_goals (intro _; try (exfalso; first | omega | with_reducible contradiction))) | (apply T.gcase; apply rfl; apply rfl; all_goals (intro _; try (exfalso; first | omega | with_reducible contradiction))) | (apply T.retW; apply rfl) | (with_reducible apply T.ofRet) | fail)
              exact ⟨_, PSub.drop (PSub.refl _), none, 0, rfl, rfl⟩
          · repeat' (first | (refine T.ixF (g := ndV) (sz := 6) (i := 0) (xs := v) rfl rfl inferInstance (fun _ => rfl) rfl (by omega) (by omega) rfl ?_) | (apply T.mv; apply rfl; apply rfl) | (apply T.asn; apply rfl; apply rfl) | (apply T.lss; apply rfl; apply rfl; apply rfl) | (apply T.neq; apply rfl; apply rfl; apply rfl) | (apply T.ixF; apply rfl; apply rfl; infer_instance; exact (fun _ => rfl); apply rfl; omega; omega; apply rfl) | (apply T.fieldAddrF; apply rfl; infer_instance; exact (fun _ => rfl); apply rfl; omega; apply rfl) | (apply T.loadF; apply rfl; apply rfl; infer_instance; exact (fun _ => rfl); apply rfl; exact getD_some (by omega); apply rfl; apply rfl) | (apply T.pickT; apply rfl; apply rfl; apply rfl) | (apply T.pickF; apply rfl; apply rfl; apply rfl) | with_reducible refine Sr.nil ?_ | with_reducible refine S.seq ?_ | with_reducible refine S.reg ?_ | (apply T.ungV; apply rfl; (first | with_reducible rfl | decide)) | (apply T.skip; apply rfl; (first | with_reducible rfl | decide); apply rfl) | (apply S.condTV; apply rfl; (first | with_reducible rfl | decide)) | (apply T.gcase; apply rfl; apply rfl; all_goals (intro _; try (exfalso; first | omega | with_reducible contradiction))) | (apply T.retW; apply rfl) | (with_reducible apply T.ofRet) | fail)
            exact ⟨_, PSub.drop (PSub.refl _), none, 0, rfl, rfl⟩
        · repeat' (first | (apply T.mv; apply rfl; apply rfl) | (apply T.asn; apply rfl; apply rfl) | (apply T.lss; apply rfl; apply rfl; apply rfl) | (apply T.neq; apply rfl; apply rfl; apply rfl) | (apply T.ixF; apply rfl; apply rfl; infer_instance; exact (fun _ => rfl); apply rfl; omega; omega; apply rfl) | (apply T.fieldAddrF; apply rfl; infer_instance; exact (fun _ => rfl); apply rfl; omega; apply rfl) | (apply T.loadF; apply rfl; apply rfl; infer_instance; exact (fun _ => rfl); apply rfl; exact getD_some (by omega); apply rfl; apply rfl) | (apply T.pickT; apply rfl; apply rfl; apply rfl) | (apply T.pickF; apply rfl; apply rfl; apply rfl) | with_reducible refine Sr.nil ?_ | with_reducible refine S.seq ?_ | with_reducible refine S.reg ?_ | (apply T.ungV; apply rfl; (first | with_reducible rfl | decide)) | (apply T.skip; apply rfl; (first | with_reducible rfl | decide); apply rfl) | (apply S.condTV; apply rfl; (first | with_reducible rfl | decide)) | (apply T.gcase; apply rfl; apply rfl; all_goals (intro _; try (exfalso; first | omega | with_reducible contradiction))) | (apply T.retW; apply rfl) | (with_reducible apply T.ofRet) | fail)
          exact ⟨_, PSub.drop (PSub.refl _), none, 0, rfl, rfl⟩
      rw [if_neg (fun h => h.elim (by omega) c7)] at hQ
      have d1 : (v.getD s default).kind = 6 := Classical.not_not.1 fun h => c7 (.inl h)
      have d2 : (v.getD 0 default).kids = 2 := Classical.not_not.1 fun h => c7 (.inr (.inl h))
      have d3 : ¬ (v.getD s default).kids = 0 := fun h => c7 (.inr (.inr (.inl h)))
      have d4 : ¬ 16 < (v.getD s default).kids := fun h => c7 (.inr (.inr (.inr h)))
      repeat' (first | (refine T.ixF (g := ndV) (sz := 6) (i := 0) (xs := v) rfl rfl inferInstance (fun _ => rfl) rfl (by omega) (by omega) rfl ?_) | (apply T.mv; apply rfl; apply rfl) | (apply T.asn; apply rfl; apply rfl) | (apply T.lss; apply rfl; apply rfl; apply rfl) | (apply T.gtr; apply rfl; apply rfl; apply rfl) | (apply T.eql; apply rfl; apply rfl; apply rfl) | (apply T.neq; apply rfl; apply rfl; apply rfl) | (apply T.ixF; apply rfl; apply rfl; infer_instance; exact (fun _ => rfl); apply rfl; omega; omega; apply rfl) | (apply T.fieldAddrF; apply rfl; infer_instance; exact (fun _ => rfl); apply rfl; omega; apply rfl) | (apply T.loadF; apply rfl; apply rfl; infer_instance; exact (fun _ => rfl); apply rfl; exact getD_some (by omega); apply rfl; apply rfl) | (apply T.pickF; apply rfl; apply rfl; apply rfl) | with_reducible refine Sr.nil ?_ | with_reducible refine S.seq ?_ | with_reducible refine S.reg ?_ | with_reducible refine S.skip ?_ | (apply T.ungV; apply rfl; (first | with_reducible rfl | decide)) | (apply S.condQ; apply rfl; all_goals (intro _; try (exfalso; first | omega | with_reducible contradiction))) | (apply T.gcase; apply rfl; apply rfl; all_goals (intro _; try (exfalso; first | omega | with_reducible contradiction))) | (with_reducible apply T.ofRet) | fail)
      refine T.call rfl rfl (refKidsI_spec rfl (by omega) hs) ?_
      rintro _ _ ⟨ka, kc, rfl, rfl⟩
      have hkl := hs.kids_len.2
      have hol := offs_len (s + 1) (kidsOf v s)
      have hki := hs.kid
      generalize offs (s + 1) (kidsOf v s) = ks at *
      rw [← hol] at hkl ⊢
      clear hol hmt
      refine Sr.frontR none ?_
      repeat' (first | (apply T.asn; apply rfl; apply rfl) | with_reducible refine Sr.nil ?_ | with_reducible refine S.seq ?_ | with_reducible refine S.block ?_ | with_reducible refine S.reg ?_ | fail)
      refine S.frontR none ?_
      refine S.loopE 1 [4, 7, 15] (fun R b' μ H' e => ∃ (i m rc : Nat) (ra : Option Addr) (ys : List (List UInt8)), H' = .row ra rc 9 1 m (ys.map sV) :: R ∧ e = (14, .slice ra m rc) :: (16, .int .i64 i) :: b' ∧ (i ≤ ks.length ∧ m = i ∧ ys.length = i ∧ addO ys (allO (itemT v pay) (ks.drop i)) = Q) ∧ μ = ks.length - i) rfl rfl ?_ _ _ ⟨0, 0, 0, none, [], rfl, rfl, ⟨Nat.zero_le _, rfl, rfl, by rw [List.drop_zero, addO_nil]; exact hQ⟩, rfl⟩ (by repeat' first | exact trivial | refine And.intro rfl ?_)
      rintro _ _ _ ⟨i, m, rc, ra, ys, rfl, rfl, ⟨g1, rfl, g3, g4⟩, rfl⟩ ih
      by_cases g5 : m < ks.length
      · have hd : ks.drop m = ks.getD m 0 :: ks.drop (m + 1) := by
          rw [List.drop_eq_getElem_cons g5]
          simp [List.getD, g5]
        have hkm : IsAt v (ks.getD m 0) := hki _ (by simp [List.getD, g5])
        rw [hd] at g4
        repeat' (first | (apply T.mv; apply rfl; apply rfl) | (apply T.len; apply rfl; apply rfl) | (apply T.lss; apply rfl; apply rfl; apply rfl) | (apply T.ixN; apply rfl; apply rfl; infer_instance; omega; (first | omega | (simp only [List.length_map]; omega) | (simp; omega)); apply rfl) | (apply T.loadNat; apply rfl; infer_instance; (first | omega | (simp only [List.length_map]; omega) | (simp; omega)); apply rfl) | with_reducible refine Sr.nil ?_ | with_reducible refine S.seq ?_ | with_reducible refine S.block ?_ | with_reducible refine S.reg ?_ | with_reducible refine S.skip ?_ | (apply S.condQ; apply rfl; all_goals (intro _; try (exfalso; first | omega | with_reducible contradiction))) | fail)
        refine T.call rfl rfl (strU_spec (nm := nPro) rfl (by omega) hkm hB) ?_
        rintro _ _ ⟨rfl, rfl⟩
        repeat' (first | (apply T.mv; apply rfl; apply rfl) | (apply T.asn; apply rfl; apply rfl) | (apply T.extract; apply rfl; apply rfl; apply rfl) | (apply T.ixN; apply rfl; apply rfl; infer_instance; omega; (first | omega | (simp only [List.length_map]; omega) | (simp; omega)); apply rfl) | (apply T.loadNat; apply rfl; infer_instance; (first | omega | (simp only [List.length_map]; omega) | (simp; omega)); apply rfl) | with_reducible refine Sr.nil ?_ | with_reducible refine S.seq ?_ | with_reducible refine S.reg ?_ | (with_reducible apply T.ofRet) | fail)
        refine T.call rfl rfl (strU_spec (nm := nSig) rfl (by omega) hkm hB) ?_
        rintro _ _ ⟨rfl, rfl⟩
        have hkl2 := hkm.lt
        have hit : itemT v pay (ks.getD m 0) = match strX v (ks.getD m 0) nPro, strX v (ks.getD m 0) nSig with
            | some h, some g => if (nodeAt v (ks.getD m 0)).kids = 2 then some (tok3 h pay g) else none
            | _, _ => none := rfl
        rw [nodeAt_getD hkl2] at hit
        cases h2 : strX v (ks.getD m 0) nPro with
        | none =>
          rw [h2] at hit
          rw [allO_stop hit] at g4
          rw [← g4]
          refine Sr.nilrow 9 1 ?_
          repeat' (first | (apply T.mv; apply rfl; apply rfl) | (apply T.asn; apply rfl; apply rfl) | (apply T.extract; apply rfl; apply rfl; apply rfl) | (apply T.notB; apply rfl; apply rfl) | (apply T.pickT; apply rfl; apply rfl; apply rfl) | with_reducible refine Sr.nil ?_ | with_reducible refine S.seq ?_ | with_reducible refine S.reg ?_ | (apply T.skip; apply rfl; (first | with_reducible rfl | decide); apply rfl) | (apply S.condTV; apply rfl; (first | with_reducible rfl | decide)) | (apply T.retW; apply rfl) | fail)
          exact ⟨_, PSub.take pick_hd (PSub.drop (PSub.drop (PSub.drop (PSub.refl _)))), none, 0, rfl, rfl⟩
        | some th =>
          have hl2 := strX_len hB h2
          cases h3 : strX v (ks.getD m 0) nSig with
          | none =>
            rw [h2, h3] at hit
            rw [allO_stop hit] at g4
            rw [← g4]
            refine Sr.nilrow 9 1 ?_
            repeat' (first | (apply T.mv; apply rfl; apply rfl) | (apply T.asn; apply rfl; apply rfl) | (apply T.extract; apply rfl; apply rfl; apply rfl) | (apply T.notB; apply rfl; apply rfl) | (apply T.pickT; apply rfl; apply rfl; apply rfl) | (apply T.pickF; apply rfl; apply rfl; apply rfl) | with_reducible refine Sr.nil ?_ | with_reducible refine S.seq ?_ | with_reducible refine S.reg ?_ | (apply T.skip; apply rfl; (first | with_reducible rfl | decide); apply rfl) | (apply S.condTV; apply rfl; (first | with_reducible rfl | decide)) | (apply T.retW; apply rfl) | (apply T.ung; apply rfl) | fail)
            exact ⟨_, PSub.take pick_hd (PSub.drop (PSub.drop (PSub.drop (PSub.refl _)))), none, 0, rfl, rfl⟩
          | some tg =>
            have hl3 := strX_len hB h3
            rw [h2, h3] at hit
            simp only at hit
            have u2 : (some th).getD [] = th := rfl
            have u3 : (some tg).getD [] = tg := rfl
            rw [u2, u3]
            by_cases c8 : (v.getD (ks.getD m 0) default).kids = 2
            · rw [if_pos c8] at hit
              rw [allO_step hit] at g4
              repeat' (first | (apply T.sadd; apply rfl; apply rfl; (simp only [List.length_append, List.length_cons, List.length_nil]; omega); apply rfl) | (apply T.mv; apply rfl; apply rfl) | (apply T.asn; apply rfl; apply rfl) | (apply T.neq; apply rfl; apply rfl; apply rfl) | (apply T.addI; apply rfl; apply rfl; omega; apply rfl) | (apply T.extract; apply rfl; apply rfl; apply rfl) | (apply T.ixN; apply rfl; apply rfl; infer_instance; omega; (first | omega | (simp only [List.length_map]; omega) | (simp; omega)); apply rfl) | (apply T.ixF; apply rfl; apply rfl; infer_instance; exact (fun _ => rfl); apply rfl; omega; omega; apply rfl) | (apply T.fieldAddrF; apply rfl; infer_instance; exact (fun _ => rfl); apply rfl; omega; apply rfl) | (apply T.loadF; apply rfl; apply rfl; infer_instance; exact (fun _ => rfl); apply rfl; exact getD_some (by omega); apply rfl; apply rfl) | (apply T.loadNat; apply rfl; infer_instance; (first | omega | (simp only [List.length_map]; omega) | (simp; omega)); apply rfl) | (apply T.notB; apply rfl; apply rfl) | (apply T.pickF; apply rfl; apply rfl; apply rfl) | (apply T.bs; apply rfl; apply rfl; apply rfl; apply rfl; apply rfl; apply rfl; intro nb) | (apply T.append; apply rfl; apply rfl; infer_instance; (first | rfl | (simp; done)); (first | rfl | (simp; done)); apply rfl; apply rfl; (constructor <;> omega); apply rfl; intro na nc) | with_reducible refine Sr.nil ?_ | with_reducible refine S.seq ?_ | with_reducible refine S.reg ?_ | with_reducible refine S.skip ?_ | with_reducible refine S.inBlock ?_ | (apply S.condQ; apply rfl; all_goals (intro _; try (exfalso; first | omega | with_reducible contradiction))) | (with_reducible apply T.ofRet) | (apply T.ung; apply rfl) | fail)
              exact ih _ _ _ _ ⟨m + 1, m + 1, nc, na, ys ++ [tok3 th pay tg], by rw [List.map_append]; rfl, rfl, ⟨by omega, rfl, by rw [List.length_append, g3]; rfl, g4⟩, rfl⟩ (by omega) (by repeat' first | exact trivial | refine And.intro rfl ?_)
            · rw [if_neg c8] at hit
              rw [allO_stop hit] at g4
              rw [← g4]
              refine Sr.nilrow 9 1 ?_
              repeat' (first | (apply T.mv; apply rfl; apply rfl) | (apply T.asn; apply rfl; apply rfl) | (apply T.neq; apply rfl; apply rfl; apply rfl) | (apply T.extract; apply rfl; apply rfl; apply rfl) | (apply T.ixN; apply rfl; apply rfl; infer_instance; omega; (first | omega | (simp only [List.length_map]; omega) | (simp; omega)); apply rfl) | (apply T.ixF; apply rfl; apply rfl; infer_instance; exact (fun _ => rfl); apply rfl; omega; omega; apply rfl) | (apply T.fieldAddrF; apply rfl; infer_instance; exact (fun _ => rfl); apply rfl; omega; apply rfl) | (apply T.loadF; apply rfl; apply rfl; infer_instance; exact (fun _ => rfl); apply rfl; exact getD_some (by omega); apply rfl; apply rfl) | (apply T.loadNat; apply rfl; infer_instance; (first | omega | (simp only [List.length_map]; omega) | (simp; omega)); apply rfl) | (apply T.notB; apply rfl; apply rfl) | (apply T.pickF; apply rfl; apply rfl; apply rfl) | with_reducible refine Sr.nil ?_ | with_reducible refine S.seq ?_ | with_reducible refine S.reg ?_ | (apply S.condQ; apply rfl; all_goals (intro _; try (exfalso; first | omega | with_reducible contradiction))) | (apply T.retW; apply rfl) | (apply T.ung; apply rfl) | fail)
              exact ⟨_, PSub.take pick_hd (PSub.drop (PSub.drop (PSub.drop (PSub.refl _)))), none, 0, rfl, rfl⟩
      · obtain rfl : m = ks.length := by omega
        rw [List.drop_length] at g4
        have g6 : Q = some ys := by rw [← g4]; show some (ys ++ []) = some ys; rw [List.append_nil]
        rw [g6, ← g3]
        repeat' (first | (apply T.mv; apply rfl; apply rfl) | (apply T.asn; apply rfl; apply rfl) | (apply T.len; apply rfl; apply rfl) | (apply T.lss; apply rfl; apply rfl; apply rfl) | with_reducible refine Sr.nil ?_ | with_reducible refine S.seq ?_ | with_reducible refine S.reg ?_ | (apply S.exit; apply rfl) | (apply S.condQ; apply rfl; all_goals (intro _; try (exfalso; first | omega | with_reducible contradiction))) | (apply T.retW; apply rfl) | fail)
        exact ⟨_, PSub.take pick_hd (PSub.drop (PSub.drop (PSub.refl _))), ra, rc, rfl, rfl⟩
end
end Go.Proofs.YtddbdgmaaogclaaGreatDoor
/- The law of SerialReads: walked. -/
namespace Go.Proofs.YtddbdgmaaogclaaGreatDoor
open Sg Go.IntWalk
set_option maxRecDepth 100000
set_option maxHeartbeats 4000000
def spoiltT : List UInt8 := [115, 112, 111, 105, 108, 116]
def moreTx : List UInt8 := [109, 111, 114, 101]
theorem sub_app {A H : List Res} : PSub H (A ++ H) := ⟨A, List.perm_append_comm⟩
theorem sameTx_spec {F : World} {M : List Nat} {H : List Res} {a b : Option Addr} {ca cb : Nat} {xs : List (List UInt8)} (ha : Rd F M H a (xs.map sV)) (hb : Rd F M H b (xs.map sV)) (hn : xs.length ≤ 140737488355328) :
    Meets Tryz.prog 12 [.slice a xs.length ca, .slice b xs.length cb] F M H (fun e H' => e = .returned (.bool true) ∧ H' = H) := by
  refine Meets.enter Tryz.func12 rfl rfl ?_
  repeat' (first | (apply T.mv; apply rfl; apply rfl) | (apply T.asn; apply rfl; apply rfl) | (apply T.len; apply rfl; apply rfl) | (apply T.neq; apply rfl; apply rfl; apply rfl) | with_reducible refine Sr.nil ?_ | with_reducible refine S.seq ?_ | with_reducible refine S.block ?_ | with_reducible refine S.reg ?_ | with_reducible refine S.skip ?_ | (apply S.condQ; apply rfl; all_goals (intro _; try (exfalso; first | omega | with_reducible contradiction))) | fail)
  refine S.loopE 0 [0, 1] (fun R b' μ H' e => ∃ i : Nat, H' = R ∧ e = (5, .int .i64 i) :: b' ∧ i ≤ xs.length ∧ μ = xs.length - i) rfl rfl ?_ _ _ ⟨0, rfl, rfl, by omega, rfl⟩ (by repeat' first | exact trivial | refine And.intro rfl ?_)
  rintro _ _ _ ⟨i, rfl, rfl, hi, rfl⟩ ih
  by_cases h1 : i < xs.length
  · repeat' (first | (apply T.sneqR; apply rfl; apply rfl; apply rfl) | (apply T.loadS; apply rfl; infer_instance; (first | omega | (simp only [List.length_map]; omega)); apply rfl) | (apply T.mv; apply rfl; apply rfl) | (apply T.asn; apply rfl; apply rfl) | (apply T.len; apply rfl; apply rfl) | (apply T.lss; apply rfl; apply rfl; apply rfl) | (apply T.addI; apply rfl; apply rfl; omega; apply rfl) | (apply T.ixN; apply rfl; apply rfl; infer_instance; omega; (first | omega | (simp only [List.length_map]; omega) | (simp; omega)); apply rfl) | with_reducible refine Sr.nil ?_ | with_reducible refine S.seq ?_ | with_reducible refine S.block ?_ | with_reducible refine S.reg ?_ | with_reducible refine S.skip ?_ | with_reducible refine S.inBlock ?_ | (apply S.quiet; apply rfl; kernel_rfl) | (apply S.condFV; apply rfl; (first | with_reducible rfl | decide)) | (apply S.condQ; apply rfl; all_goals (intro _; try (exfalso; first | omega | with_reducible contradiction))) | fail)
    exact ih _ _ _ _ ⟨i + 1, rfl, rfl, by omega, rfl⟩ (by omega) (by repeat' first | exact trivial | refine And.intro rfl ?_)
  · repeat' (first | (apply T.mv; apply rfl; apply rfl) | (apply T.asn; apply rfl; apply rfl) | (apply T.len; apply rfl; apply rfl) | (apply T.lss; apply rfl; apply rfl; apply rfl) | with_reducible refine Sr.nil ?_ | with_reducible refine S.seq ?_ | with_reducible refine S.reg ?_ | (apply S.exit; apply rfl) | (apply S.condQ; apply rfl; all_goals (intro _; try (exfalso; first | omega | with_reducible contradiction))) | (apply T.retW; apply rfl) | fail)
    exact ⟨_, PSub.refl _, rfl, rfl⟩
theorem spoilTx_spec {F : World} {M : List Nat} {H : List Res} {la : Option Addr} {lc n : Nat} {l : List (List UInt8)} (hn : l.length = n) (hl : n ≤ 1000000) :
    Meets Tryz.prog 13 [.slice la n lc, sV spoiltT] F M (.row la lc 9 1 n (l.map sV) :: H) (fun e H' => e = .returned (.bool true) ∧ H' = H) := by
  subst hn
  refine Meets.enter Tryz.func13 rfl rfl ?_
  repeat' (first | (apply T.asn; apply rfl; apply rfl) | with_reducible refine Sr.nil ?_ | with_reducible refine S.seq ?_ | with_reducible refine S.block ?_ | with_reducible refine S.reg ?_ | fail)
  refine S.loopE 1 [0, 1] (fun R b' μ H' e => ∃ (i : Nat) (xs : List (List UInt8)), H' = .row la lc 9 1 l.length (xs.map sV) :: R ∧ e = (5, .int .i64 i) :: b' ∧ (xs = List.replicate i spoiltT ++ l.drop i ∧ i ≤ l.length) ∧ μ = l.length - i) rfl rfl ?_ _ _ ⟨0, l, rfl, rfl, ⟨rfl, Nat.zero_le _⟩, rfl⟩ (by repeat' first | exact trivial | refine And.intro rfl ?_)
  rintro _ _ _ ⟨i, xs, rfl, rfl, ⟨hxs, hi⟩, rfl⟩ ih
  have hxl : xs.length = l.length := by rw [hxs, List.length_append, List.length_replicate, List.length_drop]; omega
  by_cases h1 : i < l.length
  · have hset : (xs.map sV).set i (sV spoiltT) = (List.replicate (i + 1) spoiltT ++ l.drop (i + 1)).map sV := by
      rw [← List.map_set, hxs, List.set_append_right _ _ (by rw [List.length_replicate]; exact Nat.le_refl _), List.length_replicate, Nat.sub_self, List.drop_eq_getElem_cons h1, List.set_cons_zero, List.replicate_succ', List.append_assoc]
      rfl
    repeat' (first | (apply T.mv; apply rfl; apply rfl) | (apply T.asn; apply rfl; apply rfl) | (apply T.len; apply rfl; apply rfl) | (apply T.lss; apply rfl; apply rfl; apply rfl) | (apply T.addI; apply rfl; apply rfl; omega; apply rfl) | (apply T.ixN; apply rfl; apply rfl; infer_instance; omega; (first | omega | (simp only [List.length_map]; omega) | (simp; omega)); apply rfl) | (apply T.storeE; apply rfl; apply rfl; infer_instance; (first | omega | (simp only [List.length_map]; omega) | (simp; omega)); apply rfl) | with_reducible refine Sr.nil ?_ | with_reducible refine S.seq ?_ | with_reducible refine S.block ?_ | with_reducible refine S.reg ?_ | with_reducible refine S.skip ?_ | with_reducible refine S.inBlock ?_ | (apply S.condQ; apply rfl; all_goals (intro _; try (exfalso; first | omega | with_reducible contradiction))) | fail)
    rw [hset]
    exact ih _ _ _ _ ⟨i + 1, _, rfl, rfl, ⟨rfl, h1⟩, rfl⟩ (by omega) (by repeat' first | exact trivial | refine And.intro rfl ?_)
  · obtain rfl : i = l.length := by omega
    rw [List.drop_length, List.append_nil] at hxs
    subst hxs
    clear ih
    repeat' (first | (apply T.mv; apply rfl; apply rfl) | (apply T.asn; apply rfl; apply rfl) | (apply T.len; apply rfl; apply rfl) | (apply T.lss; apply rfl; apply rfl; apply rfl) | with_reducible refine Sr.nil ?_ | with_reducible refine S.seq ?_ | with_reducible refine S.block ?_ | with_reducible refine S.reg ?_ | (apply S.exit; apply rfl) | (apply S.condQ; apply rfl; all_goals (intro _; try (exfalso; first | omega | with_reducible contradiction))) | fail)
    refine S.loopE 1 [0, 1] (fun R b' μ H' e => ∃ (j : Nat) (ad : Option Addr) (cp : Nat) (X : List Res) (zs : List (List UInt8)), H' = .row ad cp 9 1 (l.length + j) (zs.map sV) :: (X ++ R) ∧ e = (6, .slice ad (l.length + j) cp) :: (7, .int .i64 j) :: b' ∧ zs = List.replicate l.length spoiltT ++ List.replicate j moreTx ∧
        (ad = la ∨ Rd F M (X ++ H) la ((List.replicate l.length spoiltT).map sV)) ∧ j ≤ 70 ∧ μ = 70 - j) rfl rfl ?_ _ _ ⟨0, la, lc, [], List.replicate l.length spoiltT, rfl, rfl, by rw [List.replicate_zero, List.append_nil], .inl rfl, by omega, rfl⟩ (by repeat' first | exact trivial | refine And.intro rfl ?_)
    rintro _ _ _ ⟨j, ad, cp, X, zs, rfl, rfl, hzs, hor, hj, rfl⟩ ih
    have hzl : zs.length = l.length + j := by rw [hzs, List.length_append, List.length_replicate, List.length_replicate]
    have htk : (zs.map sV).take l.length = (List.replicate l.length spoiltT).map sV := by
      rw [hzs, List.map_append, List.take_append_of_le_length (by simp), List.take_of_length_le (by simp)]
    by_cases h2 : j < 70
    · repeat' (first | (apply T.appendK1; apply rfl; apply rfl; apply rfl; apply rfl; (constructor <;> omega); apply rfl; intro na nc Y hY) | (apply T.mv; apply rfl; apply rfl) | (apply T.asn; apply rfl; apply rfl) | (apply T.lss; apply rfl; apply rfl; apply rfl) | (apply T.addI; apply rfl; apply rfl; omega; apply rfl) | (apply T.bs; apply rfl; apply rfl; apply rfl; apply rfl; apply rfl; apply rfl; intro nb) | with_reducible refine Sr.nil ?_ | with_reducible refine S.seq ?_ | with_reducible refine S.block ?_ | with_reducible refine S.reg ?_ | with_reducible refine S.skip ?_ | with_reducible refine S.inBlock ?_ | (apply S.condQ; apply rfl; all_goals (intro _; try (exfalso; first | omega | with_reducible contradiction))) | fail)
      have hz2 : zs.map sV ++ [sV moreTx] = (zs ++ [moreTx]).map sV := by rw [List.map_append]; rfl
      have hz3 : zs ++ [moreTx] = List.replicate l.length spoiltT ++ List.replicate (j + 1) moreTx := by rw [hzs, List.replicate_succ', List.append_assoc]
      rw [show Value.string { data := #[109, 111, 114, 101] } = sV moreTx from rfl, hz2, ← List.append_assoc]
      refine ih _ _ _ _ ⟨j + 1, na, nc, Y ++ X, zs ++ [moreTx], rfl, rfl, hz3, ?_, by omega, rfl⟩ (by omega) (by repeat' first | exact trivial | refine And.intro rfl ?_)
      rcases hY with ⟨rfl, rfl⟩ | rfl
      · exact hor
      · right
        rcases hor with rfl | hor
        · have h1 : Rd F M (.row ad cp 9 1 (l.length + j) (zs.map sV) :: (X ++ H)) ad (zs.map sV) := Rd.row
          have h2 := h1.take l.length
          rw [htk] at h2
          exact h2
        · show Rd F M (.row ad cp 9 1 (l.length + j) (zs.map sV) :: (X ++ H)) la _
          exact Rd.tl
    · obtain rfl : j = 70 := by omega
      clear ih
      have hRl : Rd F M (.row ad cp 9 1 (l.length + 70) (zs.map sV) :: (X ++ H)) la ((List.replicate l.length spoiltT).map sV) := by
        rcases hor with rfl | hor
        · have h1 : Rd F M (.row ad cp 9 1 (l.length + 70) (zs.map sV) :: (X ++ H)) ad (zs.map sV) := Rd.row
          have h2 := h1.take l.length
          rw [htk] at h2
          exact h2
        · exact Rd.tl
      clear hor htk
      repeat' (first | (apply T.mv; apply rfl; apply rfl) | (apply T.asn; apply rfl; apply rfl) | (apply T.lss; apply rfl; apply rfl; apply rfl) | with_reducible refine Sr.nil ?_ | with_reducible refine S.seq ?_ | with_reducible refine S.block ?_ | with_reducible refine S.reg ?_ | (apply S.exit; apply rfl) | (apply S.condFV; apply rfl; (first | with_reducible rfl | decide)) | fail)
      refine S.loopE 0 [0, 1, 6] (fun R b' μ H' e => ∃ i : Nat, H' = R ∧ e = (8, .int .i64 i) :: b' ∧ i ≤ l.length ∧ μ = l.length - i) rfl rfl ?_ _ _ ⟨0, rfl, rfl, by omega, rfl⟩ (by repeat' first | exact trivial | refine And.intro rfl ?_)
      rintro _ _ _ ⟨i, hR1, rfl, hi, rfl⟩ ih
      have hR2 := hR1.symm
      subst hR2
      by_cases h5 : i < l.length
      · have hv1 : ((List.replicate l.length spoiltT).map sV)[i]? = some (sV spoiltT) := by rw [List.getElem?_map, List.getElem?_replicate, if_pos h5]; rfl
        have hrl : ((List.replicate l.length spoiltT).map sV).length = l.length := by simp
        repeat' (first | (apply T.loadE; apply rfl; apply rfl; infer_instance; exact hv1; apply rfl) | (apply T.sneqR; apply rfl; apply rfl; apply rfl) | (apply T.mv; apply rfl; apply rfl) | (apply T.asn; apply rfl; apply rfl) | (apply T.len; apply rfl; apply rfl) | (apply T.lss; apply rfl; apply rfl; apply rfl) | (apply T.addI; apply rfl; apply rfl; omega; apply rfl) | (apply T.ixN; apply rfl; apply rfl; infer_instance; omega; (first | omega | (simp only [List.length_map]; omega) | (simp; omega)); apply rfl) | with_reducible refine Sr.nil ?_ | with_reducible refine S.seq ?_ | with_reducible refine S.block ?_ | with_reducible refine S.reg ?_ | with_reducible refine S.skip ?_ | with_reducible refine S.inBlock ?_ | (apply S.condFV; apply rfl; (first | with_reducible rfl | decide)) | (apply S.condQ; apply rfl; all_goals (intro _; try (exfalso; first | omega | with_reducible contradiction))) | fail)
        exact ih _ _ _ _ ⟨i + 1, rfl, rfl, by omega, rfl⟩ (by omega) (by repeat' first | exact trivial | refine And.intro rfl ?_)
      · obtain rfl : i = l.length := by omega
        clear ih
        repeat' (first | (apply T.mv; apply rfl; apply rfl) | (apply T.asn; apply rfl; apply rfl) | (apply T.len; apply rfl; apply rfl) | (apply T.lss; apply rfl; apply rfl; apply rfl) | with_reducible refine Sr.nil ?_ | with_reducible refine S.seq ?_ | with_reducible refine S.block ?_ | with_reducible refine S.reg ?_ | (apply S.exit; apply rfl) | (apply S.condQ; apply rfl; all_goals (intro _; try (exfalso; first | omega | with_reducible contradiction))) | fail)
        refine S.loopE 0 [6] (fun R b' μ H' e => ∃ i : Nat, H' = R ∧ e = (9, .int .i64 i) :: b' ∧ (l.length ≤ i ∧ i ≤ l.length + 70) ∧ μ = l.length + 70 - i) rfl rfl ?_ _ _ ⟨l.length, rfl, rfl, by omega, rfl⟩ (by repeat' first | exact trivial | refine And.intro rfl ?_)
        rintro _ _ _ ⟨i, hR1, rfl, hi, rfl⟩ ih
        have hR2 := hR1.symm
        subst hR2
        by_cases h6 : i < l.length + 70
        · have hv2 : (zs.map sV)[i]? = some (sV moreTx) := by
            rw [hzs, List.getElem?_map, List.getElem?_append_right (by simp; omega), List.getElem?_replicate, if_pos (by rw [List.length_replicate]; omega)]
            rfl
          have hzm : (zs.map sV).length = l.length + 70 := by rw [List.length_map, hzl]
          repeat' (first | (apply T.loadE; apply rfl; apply rfl; infer_instance; exact hv2; apply rfl) | (apply T.sneqR; apply rfl; apply rfl; apply rfl) | (apply T.mv; apply rfl; apply rfl) | (apply T.asn; apply rfl; apply rfl) | (apply T.len; apply rfl; apply rfl) | (apply T.lss; apply rfl; apply rfl; apply rfl) | (apply T.addI; apply rfl; apply rfl; omega; apply rfl) | (apply T.ixN; apply rfl; apply rfl; infer_instance; omega; (first | omega | (simp only [List.length_map]; omega) | (simp; omega)); apply rfl) | with_reducible refine Sr.nil ?_ | with_reducible refine S.seq ?_ | with_reducible refine S.block ?_ | with_reducible refine S.reg ?_ | with_reducible refine S.skip ?_ | with_reducible refine S.inBlock ?_ | (apply S.condFV; apply rfl; (first | with_reducible rfl | decide)) | (apply S.condQ; apply rfl; all_goals (intro _; try (exfalso; first | omega | with_reducible contradiction))) | fail)
          exact ih _ _ _ _ ⟨i + 1, rfl, rfl, by omega, rfl⟩ (by omega) (by repeat' first | exact trivial | refine And.intro rfl ?_)
        · repeat' (first | (apply T.mv; apply rfl; apply rfl) | (apply T.asn; apply rfl; apply rfl) | (apply T.len; apply rfl; apply rfl) | (apply T.lss; apply rfl; apply rfl; apply rfl) | with_reducible refine Sr.nil ?_ | with_reducible refine S.seq ?_ | with_reducible refine S.reg ?_ | (apply S.exit; apply rfl) | (apply S.condQ; apply rfl; all_goals (intro _; try (exfalso; first | omega | with_reducible contradiction))) | (apply T.retW; apply rfl) | fail)
          exact ⟨_, PSub.drop sub_app, rfl, rfl⟩
theorem tokX_len (t : List UInt8) : (tokX t).1.length ≤ 1000000 := by
  unfold tokX
  cases hp : parseX wholeX t with
  | bad c b => exact Nat.zero_le _
  | ok a v =>
    have ha := IsAt.of_fo (parse_fo hp)
    obtain ⟨hs1, hs2, hs3⟩ := parse_sz hp
    simp only
    cases hv : tokV v with
    | none => exact Nat.zero_le _
    | some l =>
      simp only
      have hm : ∀ pay l, manyT v pay = some l → l.length ≤ 1000000 := by
        intro pay l h
        have hmt : manyT v pay = if memI v 0 nSigs < 0 ∨ (nodeAt v (memI v 0 nSigs).toNat).kind ≠ 6 ∨ (nodeAt v 0).kids ≠ 2 ∨ (nodeAt v (memI v 0 nSigs).toNat).kids = 0 ∨ 16 < (nodeAt v (memI v 0 nSigs).toNat).kids then none
          else allO (itemT v pay) (offs ((memI v 0 nSigs).toNat + 1) (kidsOf v (memI v 0 nSigs).toNat)) := rfl
        rw [hmt] at h
        split at h
        · cases h
        · rename_i hc
          rcases memI_of ha nSigs with c3 | ⟨s, c3, hs⟩
          · exact absurd (.inl (by omega)) hc
          · have hsn : (memI v 0 nSigs).toNat = s := by omega
            rw [hsn] at h
            have h1 := allO_len h
            rw [offs_len] at h1
            have := hs.kids_len.2
            omega
      unfold tokV at hv
      split at hv
      · cases hv
      · split at hv
        · split at hv
          · cases hv
            exact (by decide : 1 ≤ 1000000)
          · exact hm _ _ hv
        · exact hm _ _ hv
theorem reads_walk {F : World} {t : List UInt8} (hT : Tabs F []) (h63 : t.length ≤ maxLen) : Meets Tryz.prog 3 [sV t] F [] [] (fun e _ => e = .returned (.bool true)) := by
  refine Meets.enter Tryz.func3 rfl rfl ?_
  have hll := tokX_len t
  have h1 := fun {X : List Res} => tokens_spec (H := X) hT h63
  have h2 := fun {X : List Res} => refTokens_spec (F := F) (M := []) (H := X) (t := t)
  unfold TkE at h1 h2
  generalize tokX t = r at *
  obtain ⟨l, code⟩ := r
  simp only at hll h1 h2
  repeat' (first | (apply T.mv; apply rfl; apply rfl) | (apply T.asn; apply rfl; apply rfl) | with_reducible refine Sr.nil ?_ | with_reducible refine S.seq ?_ | with_reducible refine S.reg ?_ | fail)
  refine T.call rfl rfl h1 ?_
  rintro _ _ ⟨a1, c1, rfl, rfl⟩
  repeat' (first | (apply T.mv; apply rfl; apply rfl) | (apply T.asn; apply rfl; apply rfl) | (apply T.extract; apply rfl; apply rfl; apply rfl) | with_reducible refine Sr.nil ?_ | with_reducible refine S.seq ?_ | with_reducible refine S.reg ?_ | (with_reducible apply T.ofRet) | fail)
  refine T.call rfl rfl h1 ?_
  rintro _ _ ⟨a2, c2, rfl, rfl⟩
  repeat' (first | (apply T.mv; apply rfl; apply rfl) | (apply T.asn; apply rfl; apply rfl) | (apply T.extract; apply rfl; apply rfl; apply rfl) | with_reducible refine Sr.nil ?_ | with_reducible refine S.seq ?_ | with_reducible refine S.reg ?_ | (with_reducible apply T.ofRet) | fail)
  refine T.call rfl rfl h2 ?_
  rintro _ _ ⟨a3, c3, rfl, rfl⟩
  repeat' (first | (apply T.mv; apply rfl; apply rfl) | (apply T.asn; apply rfl; apply rfl) | (apply T.extract; apply rfl; apply rfl; apply rfl) | with_reducible refine Sr.nil ?_ | with_reducible refine S.seq ?_ | with_reducible refine S.reg ?_ | (with_reducible apply T.ofRet) | fail)
  refine T.call rfl rfl (sameTx_spec inferInstance inferInstance (by omega)) ?_
  rintro _ _ ⟨rfl, rfl⟩
  repeat' (first | (apply T.mv; apply rfl; apply rfl) | (apply T.eql; apply rfl; apply rfl; apply rfl) | (apply T.pickT; apply rfl; apply rfl; apply rfl) | (apply T.ungV; apply rfl; (first | with_reducible rfl | decide)) | (apply T.gcase; apply rfl; apply rfl; all_goals (intro _; try (exfalso; first | omega | with_reducible contradiction))) | (with_reducible apply T.ofRet) | fail)
  refine Sr.frontR a1 ?_
  refine T.call rfl rfl (spoilTx_spec rfl hll) ?_
  rintro _ _ ⟨rfl, rfl⟩
  repeat' (first | (apply T.mv; apply rfl; apply rfl) | (apply T.pickT; apply rfl; apply rfl; apply rfl) | (apply T.ungV; apply rfl; (first | with_reducible rfl | decide)) | (with_reducible apply T.ofRet) | fail)
  refine T.call rfl rfl (sameTx_spec inferInstance inferInstance (by omega)) ?_
  rintro _ _ ⟨rfl, rfl⟩
  repeat' (first | (apply T.asn; apply rfl; apply rfl) | (apply T.pickT; apply rfl; apply rfl; apply rfl) | with_reducible refine Sr.nil ?_ | (apply T.retW; apply rfl) | (with_reducible apply T.ofRet) | fail)
  exact ⟨_, PSub.refl _, rfl⟩
end Go.Proofs.YtddbdgmaaogclaaGreatDoor
/- From a walk of a law to its row: the arguments opened, and read again behind the call; for every program. -/
namespace Sg
open Go Go.ChangeShapes Go.WideShapes Go.RowKit

theorem trodAll_below {H : Type} {enc : TypeId × Value → H} {P : Program} (hl : laidOutB P = true) {W W' : World} (hb : Below W.heap.size W W') : ∀ {ts : List TypeId} {vs : List Value} {ds : List (DataW H)} {ps : List MemPlace},
    ts.all (fun t => P.readableRec t && decide (t < P.types.size)) = true → DataW.TrodAll enc P W 0 (fun _ => true) true ts vs ds ps → (∀ x ∈ ps, x.block < W.heap.size) → DataW.TrodAll enc P W' 0 (fun b => decide (b < W.heap.size)) true ts vs ds ps
  | [], [], [], _, _, h, _ => h
  | t :: ts, v :: vs, d :: ds, ps, ht, h, hlt => by
    obtain ⟨p, q, h1, h2, rfl⟩ := h
    simp only [List.all_cons, Bool.and_eq_true, decide_eq_true_eq] at ht
    exact ⟨p, q, Below.trod hl ht.1.1 ht.1.2 h1 hb (fun x hx => hlt x (List.mem_append_left _ hx)), trodAll_below hl hb (by simpa using ht.2) h2 (fun x hx => hlt x (List.mem_append_right _ hx)), rfl⟩
  | [], _ :: _, _, _, _, h, _ => h.elim
  | [], [], _ :: _, _, _, h, _ => h.elim
  | _ :: _, [], _, _, _, h, _ => h.elim
  | _ :: _, _ :: _, [], _, _, h, _ => h.elim
theorem trodAll_len {H : Type} {enc : TypeId × Value → H} {P : Program} {W : World} {base : Nat} {sp : Nat → Bool} {held : Bool} : ∀ {ts : List TypeId} {vs : List Value} {ds : List (DataW H)} {ps : List MemPlace}, DataW.TrodAll enc P W base sp held ts vs ds ps → ds.length = ts.length
  | [], [], [], _, _ => rfl
  | t :: ts, v :: vs, d :: ds, ps, h => by
    obtain ⟨p, q, h1, h2, rfl⟩ := h
    rw [List.length_cons, List.length_cons, trodAll_len h2]
  | [], _ :: _, _, _, h => h.elim
  | [], [], _ :: _, _, h => h.elim
  | _ :: _, [], _, _, h => h.elim
  | _ :: _, _ :: _, [], _, h => h.elim
/- Arguments, opened. -/
theorem cell_lt {w : World} {a : Addr} {v : Value} (h : w.cell? a = some v) : a.block < w.heap.size := by
  rcases Nat.lt_or_ge a.block w.heap.size with h1 | h1
  · exact h1
  · simp [World.cell?, Array.getElem?_eq_none h1] at h
/-- Cells of the world at the beginning stay as long as nothing old may be written. -/
theorem Rd.ofF {F : World} {H : List Res} {ad : Option Addr} {vs : List Value} (h : ∀ j u, vs[j]? = some u → ∃ a, ad = some a ∧ F.cell? (a.add j) = some u) : Rd F [] H ad vs := ⟨fun w hw j u hu => by
  obtain ⟨a, ha, hc⟩ := h j u hu
  refine ⟨a, ha, ?_⟩
  have hlt := cell_lt hc
  have := hw.keep _ hlt (by simp)
  simp only [World.cell?] at hc ⊢
  rw [this]
  exact hc⟩
/- Listed arrays of numbers. -/
theorem laid_ints {P : Program} {W : World} {nm : String} {g T E n : Nat} {k : IntKind} {ns : List Int} {cs : Array Value} {fuel : Nat} {p : List MemPlace} {sp : Nat → Bool} (hg : P.globalNamed nm = some g) (hT : P.underlying T = some (.array n E)) (hE : P.underlying E = some (.int k)) (hc : P.cellsOf E = 1)
    (hv : W.var? P nm = some cs) (hd : DataW.trod (fun _ => ()) P W 0 sp false fuel T cs.toList = some (.agg (ns.map fun z => .lit (.int k z)), p)) : ∀ j z, ns[j]? = some z → W.cell? ⟨g, j, none⟩ = some (.int k z) := by
  intro j z hz
  obtain ⟨xs, m, rfl, hx, hlen, hn, hel⟩ := DataW.trod_array hT hd
  simp only [Prod.mk.injEq, DataW.agg.injEq] at hx
  have hj : j < ns.length := (List.getElem?_eq_some_iff.1 hz).1
  have hxl : xs.length = ns.length := by
    have := congrArg List.length hx.1
    simpa using this.symm
  have h1 := hel j (by omega)
  rw [hc, Nat.mul_one, List.getElem?_eq_getElem (by omega)] at h1
  obtain ⟨z', e1, e2, -⟩ := DataW.trod_int hE h1
  have h2 : (xs.map (·.1))[j]? = (ns.map fun z => (DataW.lit (.int k z) : DataW Unit))[j]? := by rw [hx.1]
  rw [List.getElem?_map, List.getElem?_map, hz, List.getElem?_eq_getElem (by omega), e2] at h2
  simp only [Option.map_some, Option.some.injEq, DataW.lit.injEq, Lit.int.injEq, true_and] at h2
  subst h2
  have h3 : cs[j]? = some (.int k z') := by
    have : (cs.toList.drop j).take 1 = [.int k z'] := e1
    have h4 : ((cs.toList.drop j).take 1)[0]? = some (.int k z') := by rw [this]; rfl
    rw [List.getElem?_take_of_lt (by omega), List.getElem?_drop] at h4
    simpa using h4
  rw [World.var?_cell hg hv j]
  exact h3
end Sg
/- From a walk of a law to its row, the world's shape handed on. -/
namespace Sg
open Go Go.ChangeShapes Go.WideShapes Go.RowKit
section
variable {H : Type} {enc : TypeId × Value → H}
theorem returns_shaped {a : Assume} {C : Checked} {os : Os} {f : FuncId} {fn : Func} {s : ChangeSpec} {conds : List PathCond} {apart fresh handsOn again : Bool} {X : World → Array Value → Prop}
    (hX : ∀ (w w' : World) (args : Array Value), w.heap = w'.heap → X w args → X w' args)
    (own : ownKnob C.prog.godebug = none) (started : os.Started) (noInit : C.prog.inits.idxOf? f = none) (hfn : C.prog.funcs[f]? = some fn)
    (witness : ∃ (w : World) (tape : Tape) (i : Input), w.os = os ∧ (w.forCall tape i).Shaped C.prog ∧ i.vars = [] ∧ Input.okWide C.prog (w.forCall tape i) .any w.heap.size f i ∧
      ((s.pre enc C.prog fn conds apart (w.forCall tape i).memory i.args ∧ X (w.forCall tape i).memory i.args) ∧ sizedMet enc C.prog fn (OpenSpec.ofChange s) apart (w.forCall tape i).memory i.args) ∧ a.holds C.prog (lone (Frame.enter C.prog f i.args .normal) [] (w.forCall tape i)))
    (contract : ∀ (W : World) (base : Nat) (args : Array Value) (ds gs : List (DataW H)) (before : List MemPlace),
      (∀ (j : Nat) t v, fn.params[j]? = some t → args[j]? = some v → Value.okWide C.prog W .any base t v) →
      DataW.Whole enc C.prog fn.params.toList s.vars apart W args.toList ds gs before →
      conds.all (PathCond.test C.prog ⟨fn.params.toList, ds, s.plain.varTypes C.prog, gs⟩) = true →
      (DataW.weightsEach C.prog (fn.params.toList ++ s.plain.varTypes C.prog) (ds ++ gs)).all (· ≤ reachBytes) = true → X W args → W.ShapedOpen C.prog →
      a.holds C.prog (lone (Frame.enter C.prog f args .normal) [] W) →
      Calls C.prog f args W fun e W' => ∃ v, e = .returned v ∧ s.post enc C.prog fn apart fresh handsOn again W args v W') :
    ReturnsInHanded a C os f .any (fun w args => (s.pre enc C.prog fn conds apart w args ∧ X w args) ∧ sizedMet enc C.prog fn (OpenSpec.ofChange s) apart w args) (s.post enc C.prog fn apart fresh handsOn again) := by
  refine returnsInHanded_of_calls own started noInit witness ?_
  intro w tape i _ hsh _ hok hpre hholds
  obtain ⟨_, _, _, fn', hfn', _, _, _, _, hval⟩ := hok
  have e : fn' = fn := Option.some.inj (hfn'.symm.trans hfn)
  subst e
  obtain ⟨⟨⟨ds, gs, before, hw, hc⟩, hx⟩, hz⟩ := hpre
  have hw' := DataW.Whole.of_heap (w' := w.forCall tape i) (by rfl) hw
  refine (contract (w.forCall tape i) w.heap.size i.args ds gs before hval hw' hc (hz.weights hw) (hX _ _ _ (by rfl) hx) hsh hholds).mono fun e W' ⟨v, he, hp⟩ => ?_
  subst he
  exact ChangeSpec.post_blind hp
end
/-- What a law's walk must show, where it asks for the world's shape. -/
def LawWalkS (P : Program) (f : FuncId) (fn : Func) (X : World → Prop) : Prop :=
  ∀ {H : Type} {enc : TypeId × Value → H} (W : World) (base : Nat) (args : Array Value) (ds : List (DataW H)) (p : List MemPlace), (∀ (j : Nat) t v, fn.params[j]? = some t → args[j]? = some v → Value.okWide P W .any base t v) →
    DataW.TrodAll enc P W 0 (fun _ => true) true fn.params.toList args.toList ds p → (DataW.weightsEach P fn.params.toList ds).all (· ≤ reachBytes) = true → X W → W.ShapedOpen P →
    Meets P f args.toList W [] [] (fun e _ => e = .returned (.bool true))
theorem law_lifted_shaped {C : Checked} {os : Os} {f : FuncId} {fn : Func} {s : ChangeSpec} {rt : TypeId} {X : World → Prop} {fresh handsOn : Bool} (H : Type) (enc : TypeId × Value → H) (hX : ∀ (w w' : World), w.heap = w'.heap → X w → X w') (own : ownKnob C.prog.godebug = none) (started : os.Started) (noInit : C.prog.inits.idxOf? f = none) (hfn : C.prog.funcs[f]? = some fn)
    (witness : ∃ (w : World) (tape : Tape) (i : Input), w.os = os ∧ (w.forCall tape i).Shaped C.prog ∧ i.vars = [] ∧ Input.okWide C.prog (w.forCall tape i) .any w.heap.size f i ∧
      ((s.pre enc C.prog fn [] false (w.forCall tape i).memory i.args ∧ X (w.forCall tape i).memory) ∧ sizedMet enc C.prog fn (OpenSpec.ofChange s) false (w.forCall tape i).memory i.args) ∧ ({} : Assume).holds C.prog (lone (Frame.enter C.prog f i.args .normal) [] (w.forCall tape i)))
    (hres : fn.resultTypes = #[rt]) (hrt : C.prog.underlying rt = some .bool) (hvars : s.vars = []) (hs : ∀ (H : Type) (ds : List (DataW H)), ds.length = fn.params.toList.length → s.fn H ds = { results := [.lit (.bool true)], args := ds })
    (hl : laidOutB C.prog = true) (hts : fn.params.toList.all (fun t => C.prog.readableRec t && decide (t < C.prog.types.size)) = true) (law : LawWalkS C.prog f fn X) :
    ReturnsInHanded {} C os f .any (fun w args => (s.pre enc C.prog fn [] false w args ∧ X w) ∧ sizedMet enc C.prog fn (OpenSpec.ofChange s) false w args) (s.post enc C.prog fn false fresh handsOn false) := by
  refine returns_shaped (X := fun w _ => X w) (fun w w' _ hh h => hX w w' hh h) own started noInit hfn witness ?_
  intro W base args ds gs before hval hW _ hz hx hsh _
  have hW' := hW
  obtain ⟨p, q, hA, hV, rfl, hfz, hnd⟩ := hW
  rw [hvars] at hV
  obtain ⟨rfl, rfl⟩ := trodVars_none hV
  have hvt : s.plain.varTypes C.prog = [] := by simp [DataSpec.varTypes, ChangeSpec.plain, hvars]
  rw [hvt, List.append_nil, List.append_nil] at hz
  have hlt : ∀ x ∈ p, x.block < W.heap.size := fun x hx => hW'.lt x (List.mem_append_left _ hx)
  have hlen := trodAll_len hA
  refine (law W base args ds p hval hA hz hx hsh W (St.refl W)).mono fun e W' ⟨H', he, hst⟩ => ?_
  subst he
  have hb : Below W.heap.size W W' := ⟨hst.os, hst.tape, hst.output, hst.size, fun k hk => hst.keep k hk (by simp)⟩
  refine ⟨_, rfl, ds, [], _, [], p, [], hW', ?_, ?_, ?_, Below.frame hb _, fun h => by cases h⟩
  · rw [List.append_nil, hs H ds hlen, hres]
    exact trodAll_mk1 (shut_bool hrt true)
  · rw [List.append_nil, hs H ds hlen]
    exact trodAll_below hl hb hts hA hlt
  · rw [hvars, List.append_nil, hs H ds hlen]
    rfl
theorem laid_find {P : Program} {W : World} {nm : String} {d : DataW Unit} : ∀ {l : List (String × DataW Unit)} {ps : List MemPlace}, DataW.LaidVars P W l ps → (nm, d) ∈ l →
    ∃ g t cs fuel p, P.globalNamed nm = some g ∧ (P.globals[g]?).map (·.type) = some t ∧ W.var? P nm = some cs ∧ DataW.trod (fun _ => ()) P W 0 (fun _ => true) false fuel t cs.toList = some (d, p)
  | [], _, _, hm => by cases hm
  | (n, e) :: r, ps, h, hm => by
    obtain ⟨g, t, cs, fuel, p, q, h1, h2, h3, h4, h5, -⟩ := h
    rcases List.mem_cons.1 hm with hm | hm
    · simp only [Prod.mk.injEq] at hm
      obtain ⟨rfl, rfl⟩ := hm
      exact ⟨g, t, cs, fuel, p, h1, h2, h3, h4⟩
    · exact laid_find h5 hm
end Sg
