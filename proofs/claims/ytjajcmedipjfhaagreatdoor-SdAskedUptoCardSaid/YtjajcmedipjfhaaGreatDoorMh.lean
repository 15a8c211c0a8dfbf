/- Texts put together by a program: RevB RevC RevD RevE B64P B64D. -/
import Derived.Test.YtjajcmedipjfhaaGreatDoorMg
import Derived.Test.YtjajcmedipjfhaaGreatDoorMe
import Derived.Test.YtjajcmedipjfhaaGreatDoorMd
import Derived.Test.YtjajcmedipjfhaaGreatDoorMa
import Derived.Lib.Bytealg
/- The walks of the revealing: lists. -/
/- ptrs -/
namespace Go.Proofs.YtjajcmedipjfhaaGreatDoor
open Sg Go.IntWalk
set_option maxRecDepth 100000
set_option maxHeartbeats 4000000
section
variable {F : World} {M : List Nat} {H : List Res} {p bb sb : Nat} {B E : Ents} {met : List Dg} {oa : Option Addr} {oc : Nat} {o : List Nd} {ds : List Dc} {d : Dg}
theorem rd_dc {a : Option Addr} {vs : List Value} : ∀ (ds : List Dc), Rd F M H a vs → Rd F M (dcR met ds H) a vs
 | [], h => h
 | _ :: r, h => have := rd_dc r h; Rd.tl
instance Rd.dc {a : Option Addr} {vs : List Value} [h : Rd F M H a vs] : Rd F M (dcR met ds H) a vs := rd_dc ds h
theorem dcR_base (x : Res) (H : List Res) : ∀ ds : List Dc, (x :: dcR met ds H).Perm (dcR met ds (x :: H))
 | [] => List.Perm.refl _
 | _ :: r => (List.Perm.swap _ _ _).trans ((dcR_base x H r).cons _)
theorem dcR_sub (x : Res) (H : List Res) (ds : List Dc) : PSub (dcR met ds H) (dcR met ds (x :: H)) := ⟨[x], (dcR_base x H ds).symm.trans (List.perm_append_comm (l₁ := [x]))⟩
def RevO (p bb sb : Nat) (B : Ents) (ds : List Dc) (H : List Res) (o : List Nd) : Option (List Dg × List Nd) → Ending → List Res → Prop
 | some (m, y) => fun e H' => ∃ E' oa' oc', Bk2 B E' ds m ∧ e = .returned (.tuple ⟨[]⟩) ∧ H' = wkR p bb sb B E' m oa' oc' (o ++ y) ds H
 | none => fun e H' => e = .panicked [sdFault] ∧ H' = H
def ValS (F : World) (M : List Nat) (p bb sb : Nat) (B : Ents) (ds : List Dc) (f : Nat) : Prop := ∀ (H : List Res) (E : Ents) (met : List Dg) (oa : Option Addr) (oc : Nat) (o v : List Nd) (va : Option Addr) (vc q : Nat) (key : List UInt8) (top : Bool),
 Rd F M H va (v.flatMap ndV) → NGood v → IsAt v q → key.length ≤ maxLen → (∀ x ∈ ds, Rd F M H x.va (x.s.value.flatMap ndV)) → Bk2 B E ds met → (valAt v q).length + pend (ds.map (·.s)) met < f → o.length + (valAt v q).length + met.length + pend (ds.map (·.s)) met ≤ 1000000000 →
 Meets Tryz.prog 29 [.pointer (some ⟨p, 0, none⟩), .slice va v.length vc, .int .i64 q, sV key, .bool top] F M (wkR p bb sb B E met oa oc o ds H) (RevO p bb sb B ds H o (revV f (ds.map (·.s)) top met (valAt v q) key))
abbrev hdN (k : Int) (key : List UInt8) : Nd := ⟨k, key, [], false, 0, 0⟩
abbrev kiR (v : List Nd) (q : Nat) (ka : Option Addr) (kc : Nat) : Res := .row ka kc 3 1 (kidsOf v q).length ((offs (q + 1) (kidsOf v q)).map nV)
theorem list_spec {f : Nat} (hv : ValS F M p bb sb B ds f) (hG : ∀ x ∈ ds, NGood x.s.value ∧ Fo 1 x.s.value) {v : List Nd} {va : Option Addr} {vc q : Nat} {key : List UInt8} (hR : Rd F M H va (v.flatMap ndV)) (hg : NGood v) (ha : IsAt v q) (hkl : key.length ≤ maxLen) (hD : ∀ x ∈ ds, Rd F M H x.va (x.s.value.flatMap ndV)) (hB : Bk2 B E ds met)
  (hf : (valAt v q).length + pend (ds.map (·.s)) met < f + 1) (hn : o.length + (valAt v q).length + met.length + pend (ds.map (·.s)) met ≤ 1000000000) :
  Meets Tryz.prog 54 [.pointer (some ⟨p, 0, none⟩), .slice va v.length vc, .int .i64 q, sV key] F M (wkR p bb sb B E met oa oc o ds H)
   (RevO p bb sb B ds H o (rowO key (itemsA (revV f (ds.map (·.s)) false) (ds.map (·.s)) met [] (kidsOf v q)))) := by
 refine Meets.enter Tryz.func54 rfl rfl ?_
 have hlt := ha.lt
 have hvl := hg.len
 obtain ⟨hk1, hk2⟩ := ha.kids_len
 generalize hL : ds.map (·.s) = L at *
 have hLv : ∀ s ∈ L, Vl s.value := fun s hs => by
  rw [← hL] at hs
  obtain ⟨x, hx, rfl⟩ := List.mem_map.1 hs
  exact ⟨(hG x hx).2, (hG x hx).1.flat⟩
 have hval : (valAt v q).length = (kidsOf v q).flatten.length + 1 := rfl
 generalize hQ : itemsA (revV f L false) L met [] (kidsOf v q) = Q
 unfold wkR
 repeat' (first | (apply Sr.same; refine T.appendF (g := ndV) (hdN 6 key) rfl rfl rfl inferInstance (fun _ => rfl) rfl rfl rfl (by constructor <;> omega) rfl ?_; intro oa' oc') | ((first | apply T.mv | apply T.asn | apply T.len | apply T.nilCheck | apply T.fieldAddrZ); apply rfl; apply rfl) | (apply T.load; apply rfl; apply rfl; infer_instance; apply rfl; apply rfl) | (apply T.buildL; (iterate 3 apply rfl)) | (apply T.store; apply rfl; apply rfl; infer_instance; (first | decide | (simp; omega) | simp); apply rfl) | (apply T.bsL; (iterate 5 apply rfl); intro nb) | (with_reducible first | refine Sr.nil ?_ | refine S.seq ?_ | refine S.reg ?_) | fail)
 have hol : (o ++ [hdN 6 key]).length = o.length + 1 := by simp
 refine T.call rfl rfl (kidsI_spec rfl hvl ha) ?_
 rintro _ _ ⟨ka, kc, rfl, rfl⟩
 dsimp only [wkV, List.set_cons_zero, List.set_cons_succ]
 repeat' (first | ((first | apply T.mv | apply T.len); apply rfl; apply rfl) | (with_reducible first | refine Sr.nil ?_ | refine S.block ?_) | (with_reducible apply T.ofRet) | fail)
 refine S.perm ?_ (((((List.Perm.swap _ _ _).trans (((List.Perm.swap _ _ _).trans (((List.Perm.swap _ _ _).trans (((List.Perm.swap _ _ _).trans ((dcR_base _ H ds).cons _)).cons _)).cons _)).cons _)))))
 have hRd : ∀ x ∈ ds, Rd F M (kiR v q ka kc :: H) x.va (x.s.value.flatMap ndV) := fun x hx => by
  have := hD x hx
  exact Rd.tl
 have hRv : Rd F M (kiR v q ka kc :: H) va (v.flatMap ndV) := Rd.tl
 have hK : ∃ K, K = (kidsOf v q).flatten.length + met.length + pend L met := ⟨_, rfl⟩
 obtain ⟨K, hK⟩ := hK
 refine S.loopE 4 [0, 1, 8, 33, 34] (fun R b' μ H' e => ∃ (i k : Nat) (E' : Ents) (mt : List Dg) (xa : Option Addr) (xc : Nat) (ys : List (List Nd)), H' = wkR p bb sb B E' mt xa xc (o ++ hdN 6 key :: ys.flatten) ds (kiR v q ka kc :: H) ∧ e = (9, .int .i64 k) :: (35, .int .i64 i) :: b' ∧
  (i ≤ (kidsOf v q).length ∧ k ≤ i ∧ ys.length = k ∧ Bk2 B E' ds mt ∧ itemsA (revV f L false) L mt ys ((kidsOf v q).drop i) = Q ∧ ys.flatten.length + ((kidsOf v q).drop i).flatten.length + mt.length + pend L mt ≤ K ∧ ((kidsOf v q).drop i).flatten.length + pend L mt < f) ∧ μ = (kidsOf v q).length - i) rfl rfl ?_ _ _
  ⟨0, 0, E, met, oa', oc', [], by simp, rfl, ⟨Nat.zero_le _, Nat.le_refl _, rfl, hB, by simpa using hQ, by rw [List.drop_zero, List.flatten_nil, List.length_nil]; omega, by rw [List.drop_zero]; omega⟩, rfl⟩ (by repeat' first | exact trivial | refine And.intro rfl ?_)
 rintro _ _ _ ⟨i, k, E', mt, xa, xc, ys, rfl, rfl, ⟨g1, g2, g7, g3, g4, g5, g6⟩, rfl⟩ ih
 have hoy : (o ++ hdN 6 key :: ys.flatten).length = o.length + 1 + ys.flatten.length := by simp; omega
 by_cases h1 : i < (kidsOf v q).length
 ·rw [kid_drop ha h1] at g4 g5 g6
  rw [flat_cons_len] at g5 g6
  have hol2 : (offs (q + 1) (kidsOf v q)).length = (kidsOf v q).length := offs_len ..
  have hi2 := kid_is ha h1
  have hvx := hg.vl hi2
  unfold wkR
  repeat' (first | ((first | apply T.mv | apply T.asn); apply rfl; apply rfl) | (apply T.lss; (iterate 3 apply rfl)) | (apply T.ixN; apply rfl; apply rfl; infer_instance; omega; (first | omega | (simp only [List.length_map]; omega) | (simp; omega)); apply rfl) | (apply T.loadNat; apply rfl; infer_instance; (first | omega | (simp only [List.length_map]; omega) | (simp; omega)); apply rfl) | (with_reducible first | refine Sr.nil ?_ | refine S.seq ?_ | refine S.block ?_ | refine S.reg ?_ | refine S.skip ?_) | (apply S.condQ; apply rfl; all_goals (intro _; try (exfalso; first | omega | with_reducible contradiction))) | fail)
  generalize (offs (q + 1) (kidsOf v q)).getD i 0 = qi at *
  have hqlt := hi2.lt
  refine T.call rfl rfl (memberI_spec (v := v) (key := dotsN) rfl hvl hi2) ?_
  rintro _ _ ⟨rfl, rfl⟩
  rcases memI_valAt hi2 dotsN with ⟨m1, m2⟩ | ⟨qd, m1, md, m2⟩
  ·rw [itemsA, m2] at g4
   simp only at g4
   rw [m1]
   repeat' (first | ((first | apply T.mv | apply T.asn); apply rfl; apply rfl) | (apply T.lss; (iterate 3 apply rfl)) | (with_reducible first | refine Sr.nil ?_ | refine S.seq ?_ | refine S.reg ?_) | (apply S.condTV; apply rfl; (first | with_reducible rfl | decide)) | (with_reducible apply T.ofRet) | fail)
   have hc := hv _ E' mt xa xc (o ++ hdN 6 key :: ys.flatten) v va vc qi [] false hRv hg hi2 (by simp [maxLen]) hRd g3 (by rw [hL]; omega) (by rw [hL]; omega)
   rw [hL] at hc
   refine T.call rfl rfl hc ?_
   clear hc
   cases hr : revV f L false mt (valAt v qi) [] with
   | none =>
    rw [hr] at g4
    simp only at g4
    rintro _ _ ⟨rfl, rfl⟩
    rw [← g4]
    repeat' (first | (with_reducible apply T.diesW) | (with_reducible apply T.ofPan) | fail)
    exact ⟨_, PSub.drop (PSub.refl _), rfl, rfl⟩
   | some my =>
    obtain ⟨m, y⟩ := my
    rw [hr] at g4
    simp only at g4
    obtain ⟨b1, b2⟩ := rev_keeps hLv f false mt _ _ m y hvx (by omega) hr
    have b3 := b1.size
    obtain ⟨r1, b4⟩ := b1.grow
    have b5 := pend_mono L mt r1
    rw [← b4] at b5
    rintro _ _ ⟨E2, ya, yc, k1, rfl, rfl⟩
    have hys := flat_snoc_len ys y
    have hyl : (ys ++ [y]).length = ys.length + 1 := List.length_append
    have hmt : mt.length ≤ m.length := by rw [b4, List.length_append]; omega
    repeat' (first | ((first | apply T.mv | apply T.asn); apply rfl; apply rfl) | (apply T.addI; apply rfl; apply rfl; omega; apply rfl) | (with_reducible first | refine Sr.nil ?_ | refine S.seq ?_ | refine S.reg ?_) | (apply S.exit; apply rfl) | (with_reducible apply T.ofRet) | fail)
    rw [show o ++ hdN 6 key :: ys.flatten ++ y = o ++ hdN 6 key :: (ys ++ [y]).flatten by simp]
    exact ih _ _ _ _ ⟨i + 1, k + 1, E2, m, ya, yc, ys ++ [y], rfl, rfl, ⟨by omega, by omega, by omega, k1, g4, by omega, by omega⟩, rfl⟩ (by omega) (by repeat' first | exact trivial | refine And.intro rfl ?_)
  ·have e1 : headN (valAt v qi) = v.getD qi default := nodeAt_getD hqlt
   have e2 : headN (valAt v qd) = v.getD qd default := nodeAt_getD md.lt
   have hqd := md.lt
   have hvl1 : (valAt v qi).length = (kidsOf v qi).flatten.length + 1 := rfl
   rw [m1]
   by_cases c1 : (v.getD qi default).kids = 1
   ·by_cases c2 : (v.getD qd default).kind = 5
    ·repeat' (first | ((first | apply T.mv | apply T.asn); apply rfl; apply rfl) | ((first | apply T.lss | apply T.eql); (iterate 3 apply rfl)) | (apply T.ixF; apply rfl; apply rfl; infer_instance; exact (fun _ => rfl); apply rfl; omega; omega; apply rfl) | (apply T.fieldAddrF; apply rfl; infer_instance; exact (fun _ => rfl); apply rfl; omega; apply rfl) | (apply T.loadF; apply rfl; apply rfl; infer_instance; exact (fun _ => rfl); apply rfl; exact getD_some (by omega); apply rfl; apply rfl) | (apply T.pickT; (iterate 3 apply rfl)) | (with_reducible first | refine Sr.nil ?_ | refine S.seq ?_ | refine S.reg ?_ | refine S.skip ?_) | (apply T.ungV; apply rfl; (first | with_reducible rfl | decide)) | (apply S.condQ; apply rfl; all_goals (intro _; try (exfalso; first | omega | with_reducible contradiction))) | (apply T.gcase; apply rfl; apply rfl; all_goals (intro _; try (exfalso; first | omega | with_reducible contradiction))) | (with_reducible apply T.ofRet) | fail)
     rw [decide_eq_true c2]
     refine T.call rfl rfl must_true ?_
     rintro _ _ ⟨rfl, rfl⟩
     repeat' (first | (apply T.mv; apply rfl; apply rfl) | (apply T.ixF; apply rfl; apply rfl; infer_instance; exact (fun _ => rfl); apply rfl; omega; omega; apply rfl) | (apply T.fieldAddrF; apply rfl; infer_instance; exact (fun _ => rfl); apply rfl; omega; apply rfl) | (apply T.loadF; apply rfl; apply rfl; infer_instance; exact (fun _ => rfl); apply rfl; exact getD_some (by omega); apply rfl; apply rfl) | (with_reducible first | refine Sr.nil ?_ | refine S.seq ?_ | refine S.reg ?_) | (with_reducible apply T.ofRet) | fail)
     have htl := (hg.texts _ (nodeAt_mem hqd)).2
     rw [nodeAt_getD hqd] at htl
     generalize hdg : (v.getD qd default).text = dg at *
     refine T.call rfl rfl (meet_spec g3 (by simpa [maxLen] using htl) (by omega)) ?_
     rintro _ _ ⟨E2, k1, rfl, rfl⟩
     have hml : (mt ++ [dg]).length = mt.length + 1 := List.length_append
     have hpm := pend_mono L mt [dg]
     have hfs := findS_map ds dg
     rw [hL] at hfs
     cases hfd : findD ds dg with
     | none =>
      rw [hfd] at hfs
      rw [itemsA_none e1 m2 e2 ⟨c1, c2⟩ (by rw [hdg]; exact hfs), hdg] at g4
      repeat' (first | (apply T.eqlP0; apply rfl; apply rfl) | ((first | apply T.mv | apply T.asn); apply rfl; apply rfl) | (apply T.extract; (iterate 3 apply rfl)) | (apply T.pickT; (iterate 3 apply rfl)) | (with_reducible first | refine Sr.nil ?_ | refine S.seq ?_ | refine S.reg ?_) | (apply T.skip; apply rfl; (first | with_reducible rfl | decide); apply rfl) | (with_reducible apply T.ofRet) | fail)
      refine T.call rfl rfl must_true ?_
      rintro _ _ ⟨rfl, rfl⟩
      repeat' (first | (apply T.neqP0; apply rfl; apply rfl) | (apply T.mv; apply rfl; apply rfl) | (apply T.addI; apply rfl; apply rfl; omega; apply rfl) | (apply T.pickF; (iterate 3 apply rfl)) | (with_reducible first | refine Sr.nil ?_ | refine S.seq ?_ | refine S.reg ?_ | refine S.skip ?_ | refine S.inBlock ?_) | (apply T.skip; apply rfl; (first | with_reducible rfl | decide); apply rfl) | (apply S.condFV; apply rfl; (first | with_reducible rfl | decide)) | (with_reducible apply T.ofRet) | fail)
      exact ih _ _ _ _ ⟨i + 1, k, E2, _, xa, xc, ys, rfl, rfl, ⟨by omega, by omega, g7, k1, g4, by omega, by omega⟩, rfl⟩ (by omega) (by repeat' first | exact trivial | refine And.intro rfl ?_)
     | some x =>
      rw [hfd] at hfs
      have hfs2 : findS L dg = some x.s := hfs
      obtain ⟨hx1, hx2⟩ := findD_some hfd
      haveI hI : InB (dcR (mt ++ [dg]) ds (kiR v q ka kc :: H)) x.b (dcV (mt ++ [dg]) x) 66 := ⟨mem_dc hx1⟩
      cases hmb : x.s.member with
      | true =>
       rw [itemsA_member e1 m2 e2 ⟨c1, c2⟩ (by rw [hdg]; exact hfs2) hmb] at g4
       rw [← g4]
       repeat' (first | (apply T.eqlP; apply rfl; apply rfl) | ((first | apply T.mv | apply T.asn | apply T.nilCheck | apply T.fieldAddrZ); apply rfl; apply rfl) | (apply T.load; apply rfl; apply rfl; infer_instance; apply rfl; apply rfl) | (apply T.extract; (iterate 3 apply rfl)) | (apply T.notB; apply rfl; apply rfl) | (apply T.pickF; (iterate 3 apply rfl)) | (with_reducible first | refine Sr.nil ?_ | refine S.seq ?_ | refine S.reg ?_) | (apply T.ungV; apply rfl; (first | with_reducible rfl | decide)) | (with_reducible apply T.ofRet) | fail)
       rw [hmb]
       refine T.call rfl rfl must_false ?_
       rintro _ _ ⟨rfl, rfl⟩
       repeat' (first | (with_reducible apply T.diesW) | (with_reducible apply T.ofPan) | fail)
       exact ⟨_, PSub.trans (PSub.drop (PSub.refl _)) (PSub.drop (PSub.drop (PSub.drop (PSub.drop (dc_psub _ _ _))))), rfl, rfl⟩
      | false =>
       by_cases hdm : dg ∈ mt
       ·rw [itemsA_again e1 m2 e2 ⟨c1, c2⟩ (by rw [hdg]; exact hfs2) hmb (by rw [hdg]; exact hdm), hdg] at g4
        repeat' (first | (apply T.eqlP; apply rfl; apply rfl) | ((first | apply T.mv | apply T.asn | apply T.nilCheck | apply T.fieldAddrZ); apply rfl; apply rfl) | (apply T.load; apply rfl; apply rfl; infer_instance; apply rfl; apply rfl) | (apply T.extract; (iterate 3 apply rfl)) | (apply T.notB; apply rfl; apply rfl) | (apply T.pickF; (iterate 3 apply rfl)) | (with_reducible first | refine Sr.nil ?_ | refine S.seq ?_ | refine S.reg ?_) | (apply T.ungV; apply rfl; (first | with_reducible rfl | decide)) | (with_reducible apply T.ofRet) | fail)
        rw [hmb]
        refine T.call rfl rfl must_true ?_
        rintro _ _ ⟨rfl, rfl⟩
        repeat' (first | (apply T.neqP; apply rfl; apply rfl) | (apply T.mv; apply rfl; apply rfl) | (apply T.addI; apply rfl; apply rfl; omega; apply rfl) | (apply T.pickT; (iterate 3 apply rfl)) | (with_reducible first | refine Sr.nil ?_ | refine S.seq ?_ | refine S.reg ?_ | refine S.skip ?_ | refine S.inBlock ?_) | (apply T.ungV; apply rfl; (first | with_reducible rfl | decide)) | (apply S.condQ; apply rfl; all_goals (intro _; try (exfalso; first | omega | with_reducible contradiction))) | (with_reducible apply T.ofRet) | fail)
        rw [decide_eq_false (fun h => h hdm)]
        skip
        exact ih _ _ _ _ ⟨i + 1, k, E2, _, xa, xc, ys, rfl, rfl, ⟨by omega, by omega, g7, k1, g4, by omega, by omega⟩, rfl⟩ (by omega) (by repeat' first | exact trivial | refine And.intro rfl ?_)
       ·rw [itemsA_open e1 m2 e2 ⟨c1, c2⟩ (by rw [hdg]; exact hfs2) hmb (by rw [hdg]; exact hdm), hdg] at g4
        have hxL : x.s ∈ L := by rw [← hL]; exact List.mem_map_of_mem hx1
        have hpo := pend_open hxL (by rw [hx2]; exact hdm)
        rw [hx2] at hpo
        obtain ⟨q1, q2⟩ := hG x hx1
        have hv0 := valAt_zero q2
        repeat' (first | (apply T.eqlP; apply rfl; apply rfl) | ((first | apply T.mv | apply T.asn | apply T.nilCheck | apply T.fieldAddrZ); apply rfl; apply rfl) | (apply T.load; apply rfl; apply rfl; infer_instance; apply rfl; apply rfl) | (apply T.extract; (iterate 3 apply rfl)) | (apply T.notB; apply rfl; apply rfl) | (apply T.pickF; (iterate 3 apply rfl)) | (with_reducible first | refine Sr.nil ?_ | refine S.seq ?_ | refine S.reg ?_) | (apply T.ungV; apply rfl; (first | with_reducible rfl | decide)) | (with_reducible apply T.ofRet) | fail)
        rw [hmb]
        refine T.call rfl rfl must_true ?_
        rintro _ _ ⟨rfl, rfl⟩
        repeat' (first | (apply T.neqP; apply rfl; apply rfl) | ((first | apply T.mv | apply T.nilCheck | apply T.fieldAddrZ); apply rfl; apply rfl) | (apply T.load; apply rfl; apply rfl; infer_instance; apply rfl; apply rfl) | (apply T.pickT; (iterate 3 apply rfl)) | (with_reducible first | refine Sr.nil ?_ | refine S.seq ?_ | refine S.reg ?_) | (apply T.ungV; apply rfl; (first | with_reducible rfl | decide)) | (apply S.condQ; apply rfl; all_goals (intro _; try (exfalso; first | omega | with_reducible contradiction))) | (with_reducible apply T.ofRet) | fail)
        rw [decide_eq_true hdm]
        skip
        have hc := hv _ E2 (mt ++ [dg]) xa xc (o ++ hdN 6 key :: ys.flatten) x.s.value x.va x.vc 0 [] false (hRd x hx1) q1 (IsAt.of_fo q2) (by simp [maxLen]) hRd k1 (by rw [hL, hv0]; omega) (by rw [hL, hv0]; omega)
        rw [hL, hv0] at hc
        refine T.call rfl rfl hc ?_
        clear hc
        cases hr : revV f L false (mt ++ [dg]) x.s.value [] with
        | none =>
         rw [hr] at g4
         simp only at g4
         rintro _ _ ⟨rfl, rfl⟩
         rw [← g4]
         repeat' (first | (with_reducible apply T.diesW) | (with_reducible apply T.ofPan) | fail)
         exact ⟨_, PSub.drop (PSub.refl _), rfl, rfl⟩
        | some my =>
         obtain ⟨m, y⟩ := my
         rw [hr] at g4
         simp only at g4
         obtain ⟨b1, b2⟩ := rev_keeps hLv f false (mt ++ [dg]) _ _ m y ⟨q2, q1.flat⟩ (by omega) hr
         have b3 := b1.size
         obtain ⟨r1, b4⟩ := b1.grow
         have b5 := pend_mono L (mt ++ [dg]) r1
         rw [← b4] at b5
         rintro _ _ ⟨E3, ya, yc, k2, rfl, rfl⟩
         have hys := flat_snoc_len ys y
         have hyl : (ys ++ [y]).length = ys.length + 1 := List.length_append
         have hmt : mt.length + 1 ≤ m.length := by rw [b4, List.length_append, hml]; omega
         repeat' (first | ((first | apply T.mv | apply T.asn); apply rfl; apply rfl) | (apply T.addI; apply rfl; apply rfl; omega; apply rfl) | (with_reducible first | refine Sr.nil ?_ | refine S.reg ?_ | refine S.inBlock ?_) | (with_reducible apply T.ofRet) | fail)
         rw [show o ++ hdN 6 key :: ys.flatten ++ y = o ++ hdN 6 key :: (ys ++ [y]).flatten by simp]
         exact ih _ _ _ _ ⟨i + 1, k + 1, E3, m, ya, yc, ys ++ [y], rfl, rfl, ⟨by omega, by omega, by omega, k2, g4, by omega, by omega⟩, rfl⟩ (by omega) (by repeat' first | exact trivial | refine And.intro rfl ?_)
    ·rw [itemsA_bad e1 m2 e2 (fun h => c2 h.2)] at g4
     rw [← g4]
     repeat' (first | ((first | apply T.mv | apply T.asn); apply rfl; apply rfl) | ((first | apply T.lss | apply T.eql); (iterate 3 apply rfl)) | (apply T.ixF; apply rfl; apply rfl; infer_instance; exact (fun _ => rfl); apply rfl; omega; omega; apply rfl) | (apply T.fieldAddrF; apply rfl; infer_instance; exact (fun _ => rfl); apply rfl; omega; apply rfl) | (apply T.loadF; apply rfl; apply rfl; infer_instance; exact (fun _ => rfl); apply rfl; exact getD_some (by omega); apply rfl; apply rfl) | (apply T.pickT; (iterate 3 apply rfl)) | (with_reducible first | refine Sr.nil ?_ | refine S.seq ?_ | refine S.reg ?_ | refine S.skip ?_) | (apply T.ungV; apply rfl; (first | with_reducible rfl | decide)) | (apply S.condQ; apply rfl; all_goals (intro _; try (exfalso; first | omega | with_reducible contradiction))) | (apply T.gcase; apply rfl; apply rfl; all_goals (intro _; try (exfalso; first | omega | with_reducible contradiction))) | (with_reducible apply T.ofRet) | fail)
     rw [decide_eq_false c2]
     refine T.call rfl rfl must_false ?_
     rintro _ _ ⟨rfl, rfl⟩
     repeat' (first | (with_reducible apply T.diesW) | (with_reducible apply T.ofPan) | fail)
     exact ⟨_, PSub.trans (PSub.drop (PSub.refl _)) (PSub.drop (PSub.drop (PSub.drop (PSub.drop (dc_psub _ _ _))))), rfl, rfl⟩
   ·rw [itemsA_bad e1 m2 e2 (fun h => c1 h.1)] at g4
    rw [← g4]
    repeat' (first | ((first | apply T.mv | apply T.asn); apply rfl; apply rfl) | ((first | apply T.lss | apply T.eql); (iterate 3 apply rfl)) | (apply T.ixF; apply rfl; apply rfl; infer_instance; exact (fun _ => rfl); apply rfl; omega; omega; apply rfl) | (apply T.fieldAddrF; apply rfl; infer_instance; exact (fun _ => rfl); apply rfl; omega; apply rfl) | (apply T.loadF; apply rfl; apply rfl; infer_instance; exact (fun _ => rfl); apply rfl; exact getD_some (by omega); apply rfl; apply rfl) | (apply T.pickF; (iterate 3 apply rfl)) | (with_reducible first | refine Sr.nil ?_ | refine S.seq ?_ | refine S.reg ?_ | refine S.skip ?_) | (apply T.skip; apply rfl; (first | with_reducible rfl | decide); apply rfl) | (apply S.condQ; apply rfl; all_goals (intro _; try (exfalso; first | omega | with_reducible contradiction))) | (apply T.gcase; apply rfl; apply rfl; all_goals (intro _; try (exfalso; first | omega | with_reducible contradiction))) | (with_reducible apply T.ofRet) | fail)
    refine T.call rfl rfl must_false ?_
    rintro _ _ ⟨rfl, rfl⟩
    repeat' (first | (with_reducible apply T.diesW) | (with_reducible apply T.ofPan) | fail)
    exact ⟨_, PSub.trans (PSub.drop (PSub.refl _)) (PSub.drop (PSub.drop (PSub.drop (PSub.drop (dc_psub _ _ _))))), rfl, rfl⟩
 ·obtain rfl : i = (kidsOf v q).length := by omega
  clear ih
  rw [List.drop_length] at g4
  have hq2 : Q = some (mt, ys) := g4.symm
  subst hq2
  subst g7
  have hgi : (o ++ hdN 6 key :: ys.flatten)[o.length]? = some (hdN 6 key) := by simp
  have hse : (o ++ hdN 6 key :: ys.flatten).set o.length ⟨6, key, [], false, 0, (ys.length : Int)⟩ = o ++ rowN 6 key ys := by simp [rowN]
  unfold wkR
  repeat' (first | (apply Sr.same; refine T.storeF (g := ndV) ⟨6, key, [], false, 0, (ys.length : Int)⟩ rfl rfl inferInstance (fun _ => rfl) rfl hgi rfl rfl ?_) | ((first | apply T.mv | apply T.nilCheck); apply rfl; apply rfl) | (apply T.fieldAddrZ; apply rfl; apply rfl) | (apply T.load; apply rfl; apply rfl; infer_instance; apply rfl; apply rfl) | (apply T.lss; (iterate 3 apply rfl)) | (apply T.ixF; apply rfl; apply rfl; infer_instance; exact (fun _ => rfl); apply rfl; omega; omega; apply rfl) | (apply T.fieldAddrF; apply rfl; infer_instance; exact (fun _ => rfl); apply rfl; omega; apply rfl) | (with_reducible first | refine Sr.nil ?_ | refine S.seq ?_ | refine S.reg ?_) | (apply S.exit; apply rfl) | (apply S.condQ; apply rfl; all_goals (intro _; try (exfalso; first | omega | with_reducible contradiction))) | (apply T.doneW; apply rfl) | fail)
  rw [hse, show (o ++ hdN 6 key :: ys.flatten).length = (o ++ rowN 6 key ys).length by simp [rowN]]
  exact ⟨_, PSub.take pick_hd (PSub.take pick_hd (PSub.take pick_hd (PSub.take pick_hd (dcR_sub _ _ _)))), E', xa, xc, g3, rfl, rfl⟩
end
end Go.Proofs.YtjajcmedipjfhaaGreatDoor
/- The walks of the revealing: the members that are told. -/
/- ptrs -/
namespace Go.Proofs.YtjajcmedipjfhaaGreatDoor
open Sg Go.IntWalk
set_option maxRecDepth 100000
set_option maxHeartbeats 4000000
structure Nm2 (N : Ents) (ns : List (List UInt8)) : Prop where
 get : ∀ n, (eget N n).getD 0 = (ns.count n : Int)
 len : N.length ≤ ns.length
theorem nm_put {N : Ents} {ns : List (List UInt8)} (hB : Nm2 N ns) (d : List UInt8) : Nm2 (eput N d ((ns.count d : Int) + 1)) (ns ++ [d]) := by
 refine ⟨fun n => ?_, ?_⟩
 ·rw [eget_put]
  by_cases h : d = n
  ·subst h
   rw [if_pos rfl, Option.getD_some, List.count_append]
   simp
  ·rw [if_neg h, hB.get, List.count_append]
   have : List.count n [d] = 0 := by simp [List.count_singleton, h]
   omega
 ·have := eput_length N d ((ns.count d : Int) + 1)
  have := hB.len
  rw [List.length_append, List.length_singleton]
  omega
abbrev nmE (nb : Nat) (N : Ents) : Res := .ex nb (mapQ Tryz.prog 9 3 N.length (mapD N))
section
variable {F : World} {M : List Nat} {H : List Res} {p bb sb nb : Nat} {B E N : Ents} {met : List Dg} {oa : Option Addr} {oc : Nat} {o : List Nd} {ds : List Dc} {d : Dg} {ns : List (List UInt8)}
theorem ine_dc {b : Nat} {Q : Obj → Prop} : ∀ ds : List Dc, InE H b Q → InE (dcR met ds H) b Q
 | [], h => h
 | _ :: r, h => ⟨List.mem_cons_of_mem _ (ine_dc r h).h⟩
instance InE.dc {b : Nat} {Q : Obj → Prop} [h : InE H b Q] : InE (dcR met ds H) b Q := ine_dc ds h
theorem ate_dc {b : Nat} {Q : Obj → Prop} {g : Res → List Res} : ∀ ds : List Dc, AtE H b Q g → AtE (dcR met ds H) b Q (fun r => dcR met ds (g r))
 | [], h => h
 | _ :: r, h => by
  have := ate_dc r h
  exact AtE.tl
instance AtE.dc {b : Nat} {Q : Obj → Prop} {g : Res → List Res} [h : AtE H b Q g] : AtE (dcR met ds H) b Q (fun r => dcR met ds (g r)) := ate_dc ds h
def DisO (p bb sb nb : Nat) (B : Ents) (ds : List Dc) (H : List Res) (o : List Nd) : Option (List Dg × List (List Nd)) → Ending → List Res → Prop
 | some (m, us) => fun e H' => ∃ E' oa' oc' N', Bk2 B E' ds m ∧ e = .returned (.int .i64 us.length) ∧ H' = wkR p bb sb B E' m oa' oc' (o ++ us.flatten) ds (nmE nb N' :: H)
 | none => fun e H' => e = .panicked [sdFault] ∧ H' = H
theorem disclosed_spec {f : Nat} (hv : ValS F M p bb sb B ds f) (hG : ∀ x ∈ ds, NGood x.s.value ∧ Fo 1 x.s.value) (hGn : ∀ x ∈ ds, x.s.name.length ≤ maxLen) {v : List Nd} {va : Option Addr} {vc q : Nat} (hR : Rd F M H va (v.flatMap ndV)) (hg : NGood v) (ha : IsAt v q) (hD : ∀ x ∈ ds, Rd F M H x.va (x.s.value.flatMap ndV)) (hB : Bk2 B E ds met) (hN : Nm2 N ns)
  (hf : pend (ds.map (·.s)) met < f) (hn : o.length + (kidsOf v q).flatten.length + met.length + pend (ds.map (·.s)) met ≤ 1000000000) (hns : ns.length ≤ 1000000000) :
  Meets Tryz.prog 82 [.pointer (some ⟨p, 0, none⟩), .slice va v.length vc, .int .i64 q, .map (some nb)] F M (wkR p bb sb B E met oa oc o ds (nmE nb N :: H))
   (DisO p bb sb nb B ds H o (if (nodeAt v q).kind = 6 then disclA (revV f (ds.map (·.s)) false) (ds.map (·.s)) met ns [] (kidsOf v q) else none)) := by
 refine Meets.enter Tryz.func82 rfl rfl ?_
 have hlt := ha.lt
 have hvl := hg.len
 obtain ⟨hk1, hk2⟩ := ha.kids_len
 generalize hL : ds.map (·.s) = L at *
 have hLv : ∀ s ∈ L, Vl s.value := fun s hs => by
  rw [← hL] at hs
  obtain ⟨x, hx, rfl⟩ := List.mem_map.1 hs
  exact ⟨(hG x hx).2, (hG x hx).1.flat⟩
 have e1 := nodeAt_getD (v := v) hlt
 by_cases c1 : (v.getD q default).kind = 6
 ·rw [if_pos (by rw [e1]; exact c1)]
  generalize hQ : disclA (revV f L false) L met ns [] (kidsOf v q) = Q
  unfold wkR
  repeat' (first | ((first | apply T.mv | apply T.asn); apply rfl; apply rfl) | (apply T.eql; (iterate 3 apply rfl)) | (apply T.ixF; apply rfl; apply rfl; infer_instance; exact (fun _ => rfl); apply rfl; omega; omega; apply rfl) | (apply T.fieldAddrF; apply rfl; infer_instance; exact (fun _ => rfl); apply rfl; omega; apply rfl) | (apply T.loadF; apply rfl; apply rfl; infer_instance; exact (fun _ => rfl); apply rfl; exact getD_some (by omega); apply rfl; apply rfl) | (with_reducible first | refine Sr.nil ?_ | refine S.seq ?_ | refine S.reg ?_) | fail)
  rw [decide_eq_true c1]
  refine T.call rfl rfl must_true ?_
  rintro _ _ ⟨rfl, rfl⟩
  repeat' (first | ((first | apply T.mv | apply T.asn); apply rfl; apply rfl) | (with_reducible first | refine Sr.nil ?_ | refine S.seq ?_ | refine S.reg ?_) | (with_reducible apply T.ofRet) | fail)
  refine T.call rfl rfl (kidsI_spec rfl hvl ha) ?_
  rintro _ _ ⟨ka, kc, rfl, rfl⟩
  repeat' (first | ((first | apply T.mv | apply T.len); apply rfl; apply rfl) | (with_reducible first | refine Sr.nil ?_ | refine S.block ?_) | (with_reducible apply T.ofRet) | fail)
  refine S.perm ?_ (((((List.Perm.swap _ _ _).trans (((List.Perm.swap _ _ _).trans (((List.Perm.swap _ _ _).trans (((List.Perm.swap _ _ _).trans ((dcR_base _ _ ds).cons _)).cons _)).cons _)).cons _)))))
  have hRd : ∀ N', ∀ x ∈ ds, Rd F M (kiR v q ka kc :: nmE nb N' :: H) x.va (x.s.value.flatMap ndV) := fun N' x hx => by
   have := hD x hx
   exact Rd.tl
  obtain ⟨K, hK⟩ : ∃ K, K = (kidsOf v q).flatten.length + met.length + pend L met := ⟨_, rfl⟩
  refine S.loopE 4 [0, 1, 3, 23, 24] (fun R b' μ H' e => ∃ (i k : Nat) (E' N' : Ents) (mt : List Dg) (nx : List (List UInt8)) (xa : Option Addr) (xc : Nat) (us : List (List Nd)), H' = wkR p bb sb B E' mt xa xc (o ++ us.flatten) ds (kiR v q ka kc :: nmE nb N' :: H) ∧ e = (9, .int .i64 k) :: (25, .int .i64 i) :: b' ∧
   (i ≤ (kidsOf v q).length ∧ k ≤ i ∧ us.length = k ∧ Bk2 B E' ds mt ∧ Nm2 N' nx ∧ nx.length ≤ ns.length + i ∧ disclA (revV f L false) L mt nx us ((kidsOf v q).drop i) = Q ∧ us.flatten.length + ((kidsOf v q).drop i).flatten.length + mt.length + pend L mt ≤ K ∧ pend L mt < f) ∧ μ = (kidsOf v q).length - i) rfl rfl ?_ _ _
   ⟨0, 0, E, N, met, ns, oa, oc, [], by simp, rfl, ⟨Nat.zero_le _, Nat.le_refl _, rfl, hB, hN, Nat.le_refl _, by simpa using hQ, by rw [List.drop_zero, List.flatten_nil, List.length_nil]; omega, hf⟩, rfl⟩ (by repeat' first | exact trivial | refine And.intro rfl ?_)
  rintro _ _ _ ⟨i, k, E', N', mt, nx, xa, xc, us, rfl, rfl, ⟨g1, g2, g7, g3, g8, g9, g4, g5, g6⟩, rfl⟩ ih
  have hoy : (o ++ us.flatten).length = o.length + us.flatten.length := List.length_append
  by_cases h1 : i < (kidsOf v q).length
  ·rw [kid_drop ha h1] at g4 g5
   rw [flat_cons_len] at g5
   have hol2 : (offs (q + 1) (kidsOf v q)).length = (kidsOf v q).length := offs_len ..
   have hi2 := kid_is ha h1
   have hvx := hg.vl hi2
   unfold wkR
   repeat' (first | ((first | apply T.mv | apply T.asn); apply rfl; apply rfl) | (apply T.lss; (iterate 3 apply rfl)) | (apply T.ixN; apply rfl; apply rfl; infer_instance; omega; (first | omega | (simp only [List.length_map]; omega) | (simp; omega)); apply rfl) | (apply T.loadNat; apply rfl; infer_instance; (first | omega | (simp only [List.length_map]; omega) | (simp; omega)); apply rfl) | (with_reducible first | refine Sr.nil ?_ | refine S.seq ?_ | refine S.block ?_ | refine S.reg ?_ | refine S.skip ?_) | (apply S.condQ; apply rfl; all_goals (intro _; try (exfalso; first | omega | with_reducible contradiction))) | fail)
   generalize (offs (q + 1) (kidsOf v q)).getD i 0 = qi at *
   have hqlt := hi2.lt
   have e2 : headN (valAt v qi) = v.getD qi default := nodeAt_getD hqlt
   have hvl1 : (valAt v qi).length = (kidsOf v qi).flatten.length + 1 := rfl
   by_cases c2 : (v.getD qi default).kind = 5
   ·repeat' (first | (apply T.eql; (iterate 3 apply rfl)) | (apply T.ixF; apply rfl; apply rfl; infer_instance; exact (fun _ => rfl); apply rfl; omega; omega; apply rfl) | (apply T.fieldAddrF; apply rfl; infer_instance; exact (fun _ => rfl); apply rfl; omega; apply rfl) | (apply T.loadF; apply rfl; apply rfl; infer_instance; exact (fun _ => rfl); apply rfl; exact getD_some (by omega); apply rfl; apply rfl) | fail)
    rw [decide_eq_true c2]
    refine T.call rfl rfl must_true ?_
    rintro _ _ ⟨rfl, rfl⟩
    repeat' (first | (apply T.mv; apply rfl; apply rfl) | (apply T.ixF; apply rfl; apply rfl; infer_instance; exact (fun _ => rfl); apply rfl; omega; omega; apply rfl) | (apply T.fieldAddrF; apply rfl; infer_instance; exact (fun _ => rfl); apply rfl; omega; apply rfl) | (apply T.loadF; apply rfl; apply rfl; infer_instance; exact (fun _ => rfl); apply rfl; exact getD_some (by omega); apply rfl; apply rfl) | (with_reducible first | refine Sr.nil ?_ | refine S.seq ?_ | refine S.reg ?_) | (with_reducible apply T.ofRet) | fail)
    have htl := (hg.texts _ (nodeAt_mem hqlt)).2
    rw [nodeAt_getD hqlt] at htl
    generalize hdg : (v.getD qi default).text = dg at *
    refine T.call rfl rfl (meet_spec g3 (by simpa [maxLen] using htl) (by omega)) ?_
    rintro _ _ ⟨E2, k1, rfl, rfl⟩
    obtain ⟨fr, hfr⟩ : ∃ fr, decide (dg ∉ mt) = fr := ⟨_, rfl⟩
    rw [hfr]
    have hml : (mt ++ [dg]).length = mt.length + 1 := List.length_append
    have hpm := pend_mono L mt [dg]
    have hfs := findS_map ds dg
    rw [hL] at hfs
    cases hfd : findD ds dg with
    | none =>
     rw [hfd] at hfs
     rw [disclA_none e2 c2 (by rw [hdg]; exact hfs), hdg] at g4
     repeat' (first | (apply T.eqlP0; apply rfl; apply rfl) | ((first | apply T.mv | apply T.asn); apply rfl; apply rfl) | (apply T.addI; apply rfl; apply rfl; omega; apply rfl) | (apply T.extract; (iterate 3 apply rfl)) | (with_reducible first | refine Sr.nil ?_ | refine S.seq ?_ | refine S.reg ?_) | (apply S.exit; apply rfl) | (apply S.condTV; apply rfl; (first | with_reducible rfl | decide)) | (with_reducible apply T.ofRet) | fail)
     exact ih _ _ _ _ ⟨i + 1, k, E2, N', _, nx, xa, xc, us, rfl, rfl, ⟨by omega, by omega, g7, k1, g8, by omega, g4, by omega, by omega⟩, rfl⟩ (by omega) (by repeat' first | exact trivial | refine And.intro rfl ?_)
    | some x =>
     rw [hfd] at hfs
     have hfs2 : findS L dg = some x.s := hfs
     obtain ⟨hx1, hx2⟩ := findD_some hfd
     have hnl := hGn x hx1
     haveI hI : InB (dcR (mt ++ [dg]) ds (kiR v q ka kc :: nmE nb N' :: H)) x.b (dcV (mt ++ [dg]) x) 66 := ⟨mem_dc hx1⟩
     have hgn := g8.get x.s.name
     have hcn : nx.count x.s.name ≤ nx.length := List.count_le_length
     have hNl := g8.len
     have hNm : maxLen = 9223372036854775807 := rfl
     cases hmb : x.s.member with
     | false =>
      rw [disclA_no e2 c2 (by rw [hdg]; exact hfs2) (fun h => by rw [hmb] at h; cases h.1)] at g4
      rw [← g4]
      repeat' (first | (apply T.eqlP; apply rfl; apply rfl) | ((first | apply T.mv | apply T.asn | apply T.nilCheck | apply T.fieldAddrZ); apply rfl; apply rfl) | (apply T.load; apply rfl; apply rfl; infer_instance; apply rfl; apply rfl) | (apply T.extract; (iterate 3 apply rfl)) | (with_reducible first | refine Sr.nil ?_ | refine S.seq ?_ | refine S.reg ?_ | refine S.skip ?_) | (apply S.condFV; apply rfl; (first | with_reducible rfl | decide)) | (with_reducible apply T.ofRet) | fail)
      rw [hmb]
      repeat' (first | (apply T.pickF; (iterate 3 apply rfl)) | (apply T.skip; apply rfl; (first | with_reducible rfl | decide); apply rfl) | fail)
      refine T.call rfl rfl must_false ?_
      rintro _ _ ⟨rfl, rfl⟩
      repeat' (first | (with_reducible apply T.diesW) | (with_reducible apply T.ofPan) | fail)
      exact ⟨_, PSub.trans (PSub.drop (PSub.drop (PSub.refl _))) (PSub.drop (PSub.drop (PSub.drop (PSub.drop (dc_psub _ _ _))))), rfl, rfl⟩
     | true =>
      by_cases hnn : x.s.name ∈ nx
      ·rw [disclA_no e2 c2 (by rw [hdg]; exact hfs2) (fun h => h.2 hnn)] at g4
       rw [← g4]
       have hz : decide ((eget N' x.s.name).getD 0 = 0) = false := by
        have := List.count_pos_iff.2 hnn
        rw [decide_eq_false_iff_not]
        omega
       repeat' (first | (apply T.eqlP; apply rfl; apply rfl) | ((first | apply T.mv | apply T.asn | apply T.nilCheck | apply T.fieldAddrZ); apply rfl; apply rfl) | (apply T.load; apply rfl; apply rfl; infer_instance; apply rfl; apply rfl) | (apply T.extract; (iterate 3 apply rfl)) | (with_reducible first | refine Sr.nil ?_ | refine S.seq ?_ | refine S.reg ?_ | refine S.skip ?_) | (apply S.condFV; apply rfl; (first | with_reducible rfl | decide)) | (with_reducible apply T.ofRet) | fail)
       rw [hmb]
       repeat' (first | (apply T.mapLook; apply rfl; apply rfl; infer_instance; (first | assumption | (simp only [maxLen]; omega) | omega); apply rfl) | ((first | apply T.mv | apply T.nilCheck | apply T.fieldAddrZ); apply rfl; apply rfl) | (apply T.load; apply rfl; apply rfl; infer_instance; apply rfl; apply rfl) | (apply T.eql; (iterate 3 apply rfl)) | (apply T.pickT; (iterate 3 apply rfl)) | (apply T.ungV; apply rfl; (first | with_reducible rfl | decide)) | fail)
       rw [hz]
       refine T.call rfl rfl must_false ?_
       rintro _ _ ⟨rfl, rfl⟩
       repeat' (first | (with_reducible apply T.diesW) | (with_reducible apply T.ofPan) | fail)
       exact ⟨_, PSub.trans (PSub.drop (PSub.drop (PSub.refl _))) (PSub.drop (PSub.drop (PSub.drop (PSub.drop (dc_psub _ _ _))))), rfl, rfl⟩
      ·have hz : decide ((eget N' x.s.name).getD 0 = 0) = true := by
        have := List.count_eq_zero.2 hnn
        rw [decide_eq_true_iff]
        omega
       have hnp := nm_put g8 x.s.name
       have hnx : (nx ++ [x.s.name]).length = nx.length + 1 := List.length_append
       repeat' (first | (apply T.eqlP; apply rfl; apply rfl) | ((first | apply T.mv | apply T.asn | apply T.nilCheck | apply T.fieldAddrZ); apply rfl; apply rfl) | (apply T.load; apply rfl; apply rfl; infer_instance; apply rfl; apply rfl) | (apply T.extract; (iterate 3 apply rfl)) | (with_reducible first | refine Sr.nil ?_ | refine S.seq ?_ | refine S.reg ?_ | refine S.skip ?_) | (apply S.condFV; apply rfl; (first | with_reducible rfl | decide)) | (with_reducible apply T.ofRet) | fail)
       rw [hmb]
       repeat' (first | (apply T.mapLook; apply rfl; apply rfl; infer_instance; (first | assumption | (simp only [maxLen]; omega) | omega); apply rfl) | ((first | apply T.mv | apply T.nilCheck | apply T.fieldAddrZ); apply rfl; apply rfl) | (apply T.load; apply rfl; apply rfl; infer_instance; apply rfl; apply rfl) | (apply T.eql; (iterate 3 apply rfl)) | (apply T.pickT; (iterate 3 apply rfl)) | (apply T.ungV; apply rfl; (first | with_reducible rfl | decide)) | fail)
       rw [hz]
       refine T.call rfl rfl must_true ?_
       rintro _ _ ⟨rfl, rfl⟩
       repeat' (first | (apply T.mapLook; apply rfl; apply rfl; infer_instance; (first | assumption | (simp only [maxLen]; omega) | omega); apply rfl) | ((first | apply T.mv | apply T.nilCheck | apply T.fieldAddrZ); apply rfl; apply rfl) | (apply T.load; apply rfl; apply rfl; infer_instance; apply rfl; apply rfl) | (apply T.addI; apply rfl; apply rfl; omega; apply rfl) | (with_reducible first | refine Sr.nil ?_ | refine S.seq ?_ | refine S.reg ?_) | (with_reducible apply T.ofRet) | fail)
       rw [hgn]
       repeat' (first | (apply Sr.same; refine T.mapPutA (z := (nx.count x.s.name : Int) + 1) rfl rfl rfl inferInstance hnl (by omega) (wfI64 (by constructor <;> omega)) ?_) | (apply T.mv; apply rfl; apply rfl) | (with_reducible first | refine Sr.nil ?_ | refine S.seq ?_ | refine S.reg ?_) | fail)
       dsimp only
       generalize eput N' x.s.name ((nx.count x.s.name : Int) + 1) = N2 at hnp ⊢
       cases fr with
       | false =>
        have hdm : dg ∈ mt := by simpa using hfr
        rw [disclA_again e2 c2 (by rw [hdg]; exact hfs2) ⟨hmb, hnn⟩ (by rw [hdg]; exact hdm), hdg] at g4
        repeat' (first | (apply T.mv; apply rfl; apply rfl) | (apply T.addI; apply rfl; apply rfl; omega; apply rfl) | (with_reducible first | refine Sr.nil ?_ | refine S.reg ?_ | refine S.skip ?_ | refine S.inBlock ?_) | (apply S.condFV; apply rfl; (first | with_reducible rfl | decide)) | fail)
        exact ih _ _ _ _ ⟨i + 1, k, E2, N2, _, _, xa, xc, us, rfl, rfl, ⟨by omega, by omega, g7, k1, hnp, by omega, g4, by omega, by omega⟩, rfl⟩ (by omega) (by repeat' first | exact trivial | refine And.intro rfl ?_)
       | true =>
        have hdm : dg ∉ mt := by simpa using hfr
        rw [disclA_open e2 c2 (by rw [hdg]; exact hfs2) ⟨hmb, hnn⟩ (by rw [hdg]; exact hdm), hdg] at g4
        have hxL : x.s ∈ L := by rw [← hL]; exact List.mem_map_of_mem hx1
        have hpo := pend_open hxL (by rw [hx2]; exact hdm)
        rw [hx2] at hpo
        obtain ⟨q1, q2⟩ := hG x hx1
        have hv0 := valAt_zero q2
        have hc := hv _ E2 (mt ++ [dg]) xa xc (o ++ us.flatten) x.s.value x.va x.vc 0 x.s.name false (hRd N2 x hx1) q1 (IsAt.of_fo q2) hnl (hRd N2) k1 (by rw [hL, hv0]; omega) (by rw [hL, hv0]; omega)
        rw [hL, hv0] at hc
        haveI hI2 : InB (dcR (mt ++ [dg]) ds (kiR v q ka kc :: nmE nb N2 :: H)) x.b (dcV (mt ++ [dg]) x) 66 := ⟨mem_dc hx1⟩
        repeat' (first | with_reducible refine S.seq ?_ | (apply S.condTV; apply rfl; (first | with_reducible rfl | decide)) | fail)
        (apply S.drawL; (case Hs => exact dcR (mt ++ [dg]) ds (kiR v q ka kc :: nmE nb N2 :: H)); (case es => exact  [9]); (case lt => exact  [9]); (case n => exact  10); (case hn => rfl))
        cases hr : revV f L false (mt ++ [dg]) x.s.value x.s.name with
        | none =>
         rw [hr] at g4 hc
         simp only at g4
         rw [← g4]
         repeat' (first | ((first | apply T.mv | apply T.nilCheck | apply T.fieldAddrZ); apply rfl; apply rfl) | (apply T.load; apply rfl; apply rfl; infer_instance; apply rfl; apply rfl) | with_reducible refine Sr.nil ?_ | (apply SA.qn; (iterate 4 apply rfl); kernel_rfl) | (apply SA.en; apply rfl; apply rfl; kernel_rfl) | fail)
         refine T.call rfl rfl hc ?_
         rintro _ _ ⟨rfl, rfl⟩
         repeat' (first | (with_reducible apply T.diesW) | (with_reducible apply T.ofPan) | fail)
         exact ⟨_, PSub.drop (PSub.drop (PSub.refl _)), rfl, rfl⟩
        | some my =>
         obtain ⟨m, y⟩ := my
         rw [hr] at g4 hc
         simp only at g4
         obtain ⟨b1, b2⟩ := rev_keeps hLv f false (mt ++ [dg]) _ _ m y ⟨q2, q1.flat⟩ (by omega) hr
         have b3 := b1.size
         obtain ⟨r1, b4⟩ := b1.grow
         have b5 := pend_mono L (mt ++ [dg]) r1
         rw [← b4] at b5
         have hys := flat_snoc_len us y
         have hyl : (us ++ [y]).length = us.length + 1 := List.length_append
         have hmt : mt.length + 1 ≤ m.length := by rw [b4, List.length_append, hml]; omega
         repeat' (first | ((first | apply T.mv | apply T.nilCheck | apply T.fieldAddrZ); apply rfl; apply rfl) | (apply T.load; apply rfl; apply rfl; infer_instance; apply rfl; apply rfl) | with_reducible refine Sr.nil ?_ | (apply SA.qn; (iterate 4 apply rfl); kernel_rfl) | (apply SA.en; apply rfl; apply rfl; kernel_rfl) | fail)
         refine T.call rfl rfl hc ?_
         rintro _ _ ⟨E3, ya, yc, k2, rfl, rfl⟩
         repeat' (first | ((first | apply T.mv | apply T.asn); apply rfl; apply rfl) | (apply T.addI; apply rfl; apply rfl; omega; apply rfl) | (with_reducible first | refine Sr.nil ?_ | refine S.reg ?_ | refine S.inBlock ?_) | (with_reducible apply T.ofRet) | (apply SA.done; apply rfl; kernel_rfl) | (apply SK.late; decide) | fail)
         rw [show o ++ us.flatten ++ y = o ++ (us ++ [y]).flatten by simp]
         exact ih _ _ _ _ ⟨i + 1, k + 1, E3, N2, m, _, ya, yc, us ++ [y], rfl, rfl, ⟨by omega, by omega, by omega, k2, hnp, by omega, g4, by omega, by omega⟩, rfl⟩ (by omega) (by repeat' first | exact trivial | refine And.intro rfl ?_)
   ·rw [disclA_bad e2 c2] at g4
    rw [← g4]
    repeat' (first | (apply T.eql; (iterate 3 apply rfl)) | (apply T.ixF; apply rfl; apply rfl; infer_instance; exact (fun _ => rfl); apply rfl; omega; omega; apply rfl) | (apply T.fieldAddrF; apply rfl; infer_instance; exact (fun _ => rfl); apply rfl; omega; apply rfl) | (apply T.loadF; apply rfl; apply rfl; infer_instance; exact (fun _ => rfl); apply rfl; exact getD_some (by omega); apply rfl; apply rfl) | fail)
    rw [decide_eq_false c2]
    refine T.call rfl rfl must_false ?_
    rintro _ _ ⟨rfl, rfl⟩
    repeat' (first | (with_reducible apply T.diesW) | (with_reducible apply T.ofPan) | fail)
    exact ⟨_, PSub.trans (PSub.drop (PSub.drop (PSub.refl _))) (PSub.drop (PSub.drop (PSub.drop (PSub.drop (dc_psub _ _ _))))), rfl, rfl⟩
  ·obtain rfl : i = (kidsOf v q).length := by omega
   clear ih
   rw [List.drop_length] at g4
   have hq2 : Q = some (mt, us) := g4.symm
   subst hq2
   subst g7
   repeat' (first | ((first | apply T.mv | apply T.asn); apply rfl; apply rfl) | (apply T.lss; (iterate 3 apply rfl)) | (with_reducible first | refine Sr.nil ?_ | refine S.seq ?_ | refine S.reg ?_) | (apply S.exit; apply rfl) | (apply S.condQ; apply rfl; all_goals (intro _; try (exfalso; first | omega | with_reducible contradiction))) | (apply T.retW; apply rfl) | fail)
   exact ⟨_, PSub.take pick_hd (PSub.take pick_hd (PSub.take pick_hd (PSub.take pick_hd (dcR_sub _ _ _)))), E', xa, xc, N', g3, rfl, rfl⟩
 ·rw [if_neg (by rw [e1]; exact c1)]
  repeat' (first | ((first | apply T.mv | apply T.asn); apply rfl; apply rfl) | (apply T.eql; (iterate 3 apply rfl)) | (apply T.ixF; apply rfl; apply rfl; infer_instance; exact (fun _ => rfl); apply rfl; omega; omega; apply rfl) | (apply T.fieldAddrF; apply rfl; infer_instance; exact (fun _ => rfl); apply rfl; omega; apply rfl) | (apply T.loadF; apply rfl; apply rfl; infer_instance; exact (fun _ => rfl); apply rfl; exact getD_some (by omega); apply rfl; apply rfl) | (with_reducible first | refine Sr.nil ?_ | refine S.seq ?_ | refine S.reg ?_) | fail)
  rw [decide_eq_false c1]
  refine T.call rfl rfl must_false ?_
  rintro _ _ ⟨rfl, rfl⟩
  repeat' (first | (with_reducible apply T.diesW) | (with_reducible apply T.ofPan) | fail)
  exact ⟨_, PSub.trans (PSub.drop (PSub.refl _)) (PSub.drop (PSub.drop (PSub.drop (PSub.drop (dc_psub _ _ _))))), rfl, rfl⟩
end
end Go.Proofs.YtjajcmedipjfhaaGreatDoor
/- The walks of the revealing: objects and values. -/
/- ptrs -/
namespace Sg
def objX (f : Nat) (L : List Said) (top : Bool) (met : List Dg) (x : List Nd) (key : List UInt8) : Option (List Dg × List Nd) := match memV x dotsN with
 | some _ => none
 | none => match membersA (revV f L false) top met [] (kidsOf x 0) with
  | none => none
  | some (m, ys) => match hiddenX (kidsOf x 0) with
   | none => some (m, rowN 7 key ys)
   | some h => if (headN h).kind = 6 then
     match disclA (revV f L false) L m (namesX (kidsOf x 0)) ys (kidsOf h 0) with
     | none => none
     | some (m', zs) => some (m', rowN 7 key zs)
    else none
theorem revV_obj {f : Nat} {L : List Said} {top : Bool} {met : List Dg} {x : List Nd} {key : List UInt8} (h : (headN x).kind = 7) : revV (f + 1) L top met x key = objX f L top met x key := by
 rw [revV]
 simp only
 rw [if_pos h]
 rfl
theorem revV_list {f : Nat} {L : List Said} {top : Bool} {met : List Dg} {x : List Nd} {key : List UInt8} (h : (headN x).kind = 6) : revV (f + 1) L top met x key = rowO key (itemsA (revV f L false) L met [] (kidsOf x 0)) := by
 rw [revV]
 simp only
 rw [if_neg (by omega), if_pos h]
 rfl
theorem revV_flat {f : Nat} {L : List Said} {top : Bool} {met : List Dg} {x : List Nd} {key : List UInt8} (h1 : (headN x).kind ≠ 7) (h2 : (headN x).kind ≠ 6) : revV (f + 1) L top met x key = some (met, [(headN x).key_ key]) := by
 rw [revV]
 simp only
 rw [if_neg h1, if_neg h2]
section
variable {val : RevV} {met : List Dg} {ys r : List (List Nd)} {x : List Nd} {n : Nd} {top : Bool}
theorem members_sd (h1 : headN x = n) (h : n.key = sdN) : membersA val top met ys (x :: r) = membersA val top met ys r := by
 subst h1
 rw [membersA, if_pos h]
theorem members_alg (h1 : headN x = n) (h : n.key ≠ sdN) (ht : top = true ∧ n.key = algN) : membersA val top met ys (x :: r) = membersA val top met ys r := by
 subst h1
 rw [membersA, if_neg h, if_pos ht]
theorem members_val (h1 : headN x = n) (h : n.key ≠ sdN) (ht : ¬ (top = true ∧ n.key = algN)) : membersA val top met ys (x :: r) = match val met x n.key with
  | none => none
  | some (m, y) => membersA val top m (ys ++ [y]) r := by
 subst h1
 rw [membersA, if_neg h, if_neg ht]
 rfl
end
def HidAt (v : List Nd) (hI : Int) : Option (List Nd) → Prop
 | none => hI = -1
 | some h => ∃ j : Nat, hI = (j : Int) ∧ IsAt v j ∧ valAt v j = h
theorem flat_ge : ∀ us : List (List Nd), (∀ y ∈ us, Vl y) → us.length ≤ us.flatten.length
 | [], _ => Nat.le_refl _
 | x :: r, h => by
  have h1 := flat_ge r fun y hy => h y (List.mem_cons_of_mem _ hy)
  have h2 := (h x (List.mem_cons_self ..)).1.pos
  rw [flat_cons_len, List.length_cons]
  omega
theorem take_kid {v : List Nd} {q i : Nat} (h : IsAt v q) (hi : i < (kidsOf v q).length) : (kidsOf v q).take (i + 1) = (kidsOf v q).take i ++ [valAt v ((offs (q + 1) (kidsOf v q)).getD i 0)] := by
 rw [List.take_succ_eq_append_getElem hi, valAt_kid h hi]
end Sg
namespace Go.Proofs.YtjajcmedipjfhaaGreatDoor
open Sg Go.IntWalk
set_option maxRecDepth 100000
set_option maxHeartbeats 4000000
section
variable {F : World} {M : List Nat} {H : List Res} {p bb sb nb : Nat} {B E N : Ents} {met : List Dg} {oa : Option Addr} {oc : Nat} {o : List Nd} {ds : List Dc} {d : Dg} {ns : List (List UInt8)}
theorem dcR_tail {H H' : List Res} (h : H.Perm H') : ∀ ds : List Dc, (dcR met ds H).Perm (dcR met ds H')
 | [] => h
 | _ :: r => (dcR_tail h r).cons _
theorem sink4 (x a b c e : Res) (H : List Res) (ds : List Dc) : (x :: a :: b :: c :: e :: dcR met ds H).Perm (a :: b :: c :: e :: dcR met ds (x :: H)) :=
 (List.Perm.swap _ _ _).trans (((List.Perm.swap _ _ _).trans (((List.Perm.swap _ _ _).trans (((List.Perm.swap _ _ _).trans ((dcR_base _ H ds).cons _)).cons _)).cons _)).cons _)
theorem object_spec {f : Nat} (hv : ValS F M p bb sb B ds f) (hG : ∀ x ∈ ds, NGood x.s.value ∧ Fo 1 x.s.value) (hGn : ∀ x ∈ ds, x.s.name.length ≤ maxLen) {v : List Nd} {va : Option Addr} {vc q : Nat} {key : List UInt8} {top : Bool} (hR : Rd F M H va (v.flatMap ndV)) (hg : NGood v) (ha : IsAt v q) (hkl : key.length ≤ maxLen) (hD : ∀ x ∈ ds, Rd F M H x.va (x.s.value.flatMap ndV)) (hB : Bk2 B E ds met)
  (hf : (valAt v q).length + pend (ds.map (·.s)) met < f + 1) (hn : o.length + (valAt v q).length + met.length + pend (ds.map (·.s)) met ≤ 1000000000) :
  Meets Tryz.prog 53 [.pointer (some ⟨p, 0, none⟩), .slice va v.length vc, .int .i64 q, sV key, .bool top] F M (wkR p bb sb B E met oa oc o ds H)
   (RevO p bb sb B ds H o (objX f (ds.map (·.s)) top met (valAt v q) key)) := by
 refine Meets.enter Tryz.func53 rfl rfl ?_
 have hlt := ha.lt
 have hvl := hg.len
 obtain ⟨hk1, hk2⟩ := ha.kids_len
 generalize hL : ds.map (·.s) = L at *
 have hLv : ∀ s ∈ L, Vl s.value := fun s hs => by
  rw [← hL] at hs
  obtain ⟨x, hx, rfl⟩ := List.mem_map.1 hs
  exact ⟨(hG x hx).2, (hG x hx).1.flat⟩
 have hval : (valAt v q).length = (kidsOf v q).flatten.length + 1 := rfl
 have hko := kidsOf_valAt ha
 have hkv : ∀ y ∈ kidsOf v q, Vl y := by rw [← hko]; exact (hg.vl ha).kids
 have hNm : maxLen = 9223372036854775807 := rfl
 unfold objX
 rw [hko]
 unfold wkR
 repeat' (first | (apply T.mv; apply rfl; apply rfl) | (with_reducible first | refine S.seq ?_ | refine S.reg ?_) | fail)
 refine T.call rfl rfl (memberI_spec (v := v) (key := dotsN) rfl hvl ha) ?_
 rintro _ _ ⟨rfl, rfl⟩
 rcases memI_valAt ha dotsN with ⟨m1, m2⟩ | ⟨qd, m1, md, m2⟩
 ·rw [m1, m2]
  simp only
  generalize hQ : membersA (revV f L false) top met [] (kidsOf v q) = Q
  repeat' (first | (apply T.lss; (iterate 3 apply rfl)) | (with_reducible apply T.ofRet) | fail)
  refine T.call rfl rfl must_true ?_
  rintro _ _ ⟨rfl, rfl⟩
  repeat' (first | (apply Sr.same; refine T.appendF (g := ndV) (hdN 7 key) rfl rfl rfl inferInstance (fun _ => rfl) rfl rfl rfl (by constructor <;> omega) rfl ?_; intro oa' oc') | (apply T.mapMake; apply rfl; intro mb) | ((first | apply T.mv | apply T.asn | apply T.len | apply T.nilCheck | apply T.fieldAddrZ); apply rfl; apply rfl) | (apply T.load; apply rfl; apply rfl; infer_instance; apply rfl; apply rfl) | (apply T.buildL; (iterate 3 apply rfl)) | (apply T.store; apply rfl; apply rfl; infer_instance; (first | decide | (simp; omega) | simp); apply rfl) | (apply T.bsL; (iterate 5 apply rfl); intro nb) | (with_reducible first | refine Sr.nil ?_ | refine S.seq ?_ | refine S.reg ?_) | (with_reducible apply T.ofRet) | fail)
  have hol : (o ++ [hdN 7 key]).length = o.length + 1 := by simp
  refine T.call rfl rfl (kidsI_spec rfl hvl ha) ?_
  rintro _ _ ⟨ka, kc, rfl, rfl⟩
  dsimp only [wkV, List.set_cons_zero, List.set_cons_succ]
  repeat' (first | ((first | apply T.mv | apply T.len); apply rfl; apply rfl) | (with_reducible first | refine Sr.nil ?_ | refine S.block ?_) | (with_reducible apply T.ofRet) | fail)
  refine S.perm ?_ (((sink4 _ _ _ _ _ H ds).cons _).trans (sink4 _ _ _ _ _ _ ds))
  generalize hks : kidsOf v q = ks at *
  obtain ⟨kr, hkr⟩ : ∃ kr, kr = Res.row ka kc 3 1 ks.length ((offs (q + 1) ks).map nV) := ⟨_, rfl⟩
  have hRd : ∀ N', ∀ x ∈ ds, Rd F M (kr :: nmE mb N' :: H) x.va (x.s.value.flatMap ndV) := fun N' x hx => by
   have := hD x hx
   exact Rd.tl
  have hRv : ∀ N', Rd F M (kr :: nmE mb N' :: H) va (v.flatMap ndV) := fun N' => Rd.tl
  obtain ⟨K, hK⟩ : ∃ K, K = (ks.filter fun x => !((headN x).key == sdN)).flatten.length + met.length + pend L met := ⟨_, rfl⟩
  have hKle := filter_flat_le (fun x => !((headN x).key == sdN)) ks
  refine S.loopE 4 [0, 1, 4, 10, 11, 41, 42] (fun R b' μ H' e => ∃ (i k : Nat) (hI : Int) (E' N' : Ents) (mt : List Dg) (xa : Option Addr) (xc : Nat) (ys : List (List Nd)), H' = wkR p bb sb B E' mt xa xc (o ++ hdN 7 key :: ys.flatten) ds (kr :: nmE mb N' :: H) ∧ e = (12, .int .i64 k) :: (13, .int .i64 hI) :: (43, .int .i64 i) :: b' ∧
   (i ≤ ks.length ∧ k ≤ i ∧ ys.length = k ∧ Bk2 B E' ds mt ∧ Nm2 N' (namesX (ks.take i)) ∧ HidAt v hI (hiddenX (ks.take i)) ∧ membersA (revV f L false) top mt ys (ks.drop i) = Q ∧ ys.flatten.length + ((ks.drop i).filter fun x => !((headN x).key == sdN)).flatten.length + mt.length + pend L mt ≤ K ∧ pend L mt ≤ pend L met) ∧ μ = ks.length - i) rfl rfl ?_ _ _
   ⟨0, 0, -1, E, [], met, oa', oc', [], by rw [List.flatten_nil, hkr]; unfold wkR; rw [hol]; rfl, rfl, ⟨Nat.zero_le _, Nat.le_refl _, rfl, hB, ⟨fun n => by simp [namesX, eget], by simp⟩, rfl, by simpa using hQ, by rw [List.drop_zero, List.flatten_nil, List.length_nil]; omega, Nat.le_refl _⟩, rfl⟩ (by repeat' first | exact trivial | refine And.intro rfl ?_)
  rintro _ _ _ ⟨i, k, hI, E', N', mt, xa, xc, ys, rfl, rfl, ⟨g1, g2, g7, g3, g8, g9, g4, g5, g6⟩, rfl⟩ ih
  have hoy : (o ++ hdN 7 key :: ys.flatten).length = o.length + 1 + ys.flatten.length := by simp; omega
  by_cases h1 : i < ks.length
  ·have hdr := kid_drop ha (by rw [hks]; exact h1)
   have htk := take_kid ha (by rw [hks]; exact h1)
   have hi2 := kid_is ha (by rw [hks]; exact h1)
   rw [hks] at hdr htk hi2
   rw [hdr] at g4 g5
   have hol2 : (offs (q + 1) ks).length = ks.length := offs_len ..
   have hvx := hg.vl hi2
   have hxk : valAt v ((offs (q + 1) ks).getD i 0) ∈ ks := by
    have : valAt v ((offs (q + 1) ks).getD i 0) ∈ ks.drop i := by rw [hdr]; exact List.mem_cons_self ..
    exact List.mem_of_mem_drop this
   have hxl := mem_flat_le hxk
   unfold wkR
   subst hkr
   repeat' (first | ((first | apply T.mv | apply T.asn); apply rfl; apply rfl) | (apply T.lss; (iterate 3 apply rfl)) | (apply T.ixN; apply rfl; apply rfl; infer_instance; omega; (first | omega | (simp only [List.length_map]; omega) | (simp; omega)); apply rfl) | (apply T.loadNat; apply rfl; infer_instance; (first | omega | (simp only [List.length_map]; omega) | (simp; omega)); apply rfl) | (with_reducible first | refine Sr.nil ?_ | refine S.seq ?_ | refine S.block ?_ | refine S.reg ?_ | refine S.skip ?_) | (apply S.condQ; apply rfl; all_goals (intro _; try (exfalso; first | omega | with_reducible contradiction))) | fail)
   generalize (offs (q + 1) ks).getD i 0 = qi at *
   have hqlt := hi2.lt
   have e2 : headN (valAt v qi) = v.getD qi default := nodeAt_getD hqlt
   have hnsn := namesX_snoc (ks.take i) (valAt v qi)
   have hhsn := hiddenX_snoc (ks.take i) (valAt v qi)
   rw [← htk, e2] at hnsn hhsn
   have hkl2 := (hg.texts _ (nodeAt_mem hqlt)).1
   rw [nodeAt_getD hqlt] at hkl2
   by_cases c1 : (v.getD qi default).key = [95, 115, 100]
   ·have c1' : (v.getD qi default).key = sdN := c1
    rw [if_pos c1'] at hnsn hhsn
    rw [members_sd e2 c1'] at g4
    rw [List.filter_cons_of_neg (by rw [e2]; simpa using c1')] at g5
    rw [← hnsn] at g8
    repeat' (first | (apply T.seql; (iterate 3 apply rfl)) | ((first | apply T.mv | apply T.asn); apply rfl; apply rfl) | (apply T.addI; apply rfl; apply rfl; omega; apply rfl) | (apply T.ixF; apply rfl; apply rfl; infer_instance; exact (fun _ => rfl); apply rfl; omega; omega; apply rfl) | (apply T.fieldAddrF; apply rfl; infer_instance; exact (fun _ => rfl); apply rfl; omega; apply rfl) | (apply T.loadF; apply rfl; apply rfl; infer_instance; exact (fun _ => rfl); apply rfl; exact getD_some (by omega); apply rfl; apply rfl) | (with_reducible first | refine Sr.nil ?_ | refine S.seq ?_ | refine S.reg ?_) | (apply S.exit; apply rfl) | (apply S.condQ; apply rfl; all_goals (intro _; try (exfalso; first | omega | with_reducible contradiction))) | fail)
    exact ih _ _ _ _ ⟨i + 1, k, (qi : Int), E', N', mt, xa, xc, ys, rfl, rfl, ⟨by omega, by omega, g7, g3, g8, by rw [hhsn]; exact ⟨qi, rfl, hi2, rfl⟩, g4, g5, g6⟩, rfl⟩ (by omega) (by repeat' first | exact trivial | refine And.intro rfl ?_)
   ·have c1' : ¬ (v.getD qi default).key = sdN := c1
    rw [if_neg c1'] at hnsn hhsn
    rw [List.filter_cons_of_pos (by rw [e2]; simpa using c1'), flat_cons_len] at g5
    have hnp := nm_put g8 (v.getD qi default).key
    rw [← hnsn] at hnp
    have hgn := g8.get (v.getD qi default).key
    have hcn : (namesX (ks.take i)).count (v.getD qi default).key ≤ (namesX (ks.take i)).length := List.count_le_length
    have hnl : (namesX (ks.take i)).length ≤ ks.length := by
     unfold namesX
     refine Nat.le_trans (List.length_filter_le ..) ?_
     rw [List.length_map, List.length_take]
     omega
    have hNl := g8.len
    have step : ∀ {k' : List Item} {e' : Env} {cx : Ctx}, True := trivial
    by_cases cA : top = true ∧ (v.getD qi default).key = [95, 115, 100, 95, 97, 108, 103]
    ·obtain ⟨rfl, cB⟩ := cA
     rw [members_alg e2 c1' ⟨rfl, cB⟩] at g4
     repeat' (first | (apply T.mapLook; apply rfl; apply rfl; infer_instance; (first | assumption | (simp only [maxLen]; omega) | omega); apply rfl) | (apply T.seql; (iterate 3 apply rfl)) | ((first | apply T.mv | apply T.asn); apply rfl; apply rfl) | (apply T.addI; apply rfl; apply rfl; omega; apply rfl) | (apply T.ixF; apply rfl; apply rfl; infer_instance; exact (fun _ => rfl); apply rfl; omega; omega; apply rfl) | (apply T.fieldAddrF; apply rfl; infer_instance; exact (fun _ => rfl); apply rfl; omega; apply rfl) | (apply T.loadF; apply rfl; apply rfl; infer_instance; exact (fun _ => rfl); apply rfl; exact getD_some (by omega); apply rfl; apply rfl) | (with_reducible first | refine Sr.nil ?_ | refine S.seq ?_ | refine S.reg ?_ | refine S.skip ?_) | (apply S.condQ; apply rfl; all_goals (intro _; try (exfalso; first | omega | with_reducible contradiction))) | fail)
     rw [hgn]
     repeat' (first | (apply Sr.same; refine T.mapPutA (z := ((namesX (ks.take i)).count (v.getD qi default).key : Int) + 1) rfl rfl rfl inferInstance hkl2 (by omega) (wfI64 (by constructor <;> omega)) ?_) | (apply T.seql; (iterate 3 apply rfl)) | (apply T.mv; apply rfl; apply rfl) | (apply T.addI; apply rfl; apply rfl; omega; apply rfl) | (apply T.pickT; (iterate 3 apply rfl)) | (with_reducible first | refine Sr.nil ?_ | refine S.seq ?_ | refine S.reg ?_) | (apply S.exit; apply rfl) | (apply T.ungV; apply rfl; (first | with_reducible rfl | decide)) | (apply S.condQ; apply rfl; all_goals (intro _; try (exfalso; first | omega | with_reducible contradiction))) | fail)
     dsimp only
     generalize eput N' (v.getD qi default).key (((namesX (ks.take i)).count (v.getD qi default).key : Int) + 1) = N2 at hnp ⊢
     exact ih _ _ _ _ ⟨i + 1, k, hI, E', N2, mt, xa, xc, ys, rfl, rfl, ⟨by omega, by omega, g7, g3, hnp, by rw [hhsn]; exact g9, g4, by omega, g6⟩, rfl⟩ (by omega) (by repeat' first | exact trivial | refine And.intro rfl ?_)
    ·have cA' : ¬ (top = true ∧ (v.getD qi default).key = algN) := cA
     have cB : top = true → ¬ (v.getD qi default).key = [95, 115, 100, 95, 97, 108, 103] := fun h h' => cA ⟨h, h'⟩
     rw [members_val e2 c1' cA'] at g4
     clear cA cA'
     have hN2 : ∃ N2, N2 = eput N' (v.getD qi default).key (((namesX (ks.take i)).count (v.getD qi default).key : Int) + 1) := ⟨_, rfl⟩
     obtain ⟨N2, hN2⟩ := hN2
     rw [← hN2] at hnp
     have hc := hv _ E' mt xa xc (o ++ hdN 7 key :: ys.flatten) v va vc qi (v.getD qi default).key false (hRv N2) hg hi2 hkl2 (hRd N2) g3 (by rw [hL]; omega) (by rw [hL]; omega)
     rw [hL] at hc
     cases hr : revV f L false mt (valAt v qi) (v.getD qi default).key with
     | none =>
      rw [hr] at g4 hc
      simp only at g4
      rw [← g4]
      cases top
      all_goals
       try replace cB := cB rfl
       repeat' (first | (apply T.mapLook; apply rfl; apply rfl; infer_instance; (first | assumption | (simp only [maxLen]; omega) | omega); apply rfl) | (apply T.seql; (iterate 3 apply rfl)) | ((first | apply T.mv | apply T.asn); apply rfl; apply rfl) | (apply T.addI; apply rfl; apply rfl; omega; apply rfl) | (apply T.ixF; apply rfl; apply rfl; infer_instance; exact (fun _ => rfl); apply rfl; omega; omega; apply rfl) | (apply T.fieldAddrF; apply rfl; infer_instance; exact (fun _ => rfl); apply rfl; omega; apply rfl) | (apply T.loadF; apply rfl; apply rfl; infer_instance; exact (fun _ => rfl); apply rfl; exact getD_some (by omega); apply rfl; apply rfl) | (with_reducible first | refine Sr.nil ?_ | refine S.seq ?_ | refine S.reg ?_ | refine S.skip ?_) | (apply S.condQ; apply rfl; all_goals (intro _; try (exfalso; first | omega | with_reducible contradiction))) | fail)
       rw [hgn]
       repeat' (first | (apply Sr.same; refine T.mapPutA (z := ((namesX (ks.take i)).count (v.getD qi default).key : Int) + 1) rfl rfl rfl inferInstance hkl2 (by omega) (wfI64 (by constructor <;> omega)) ?_) | (apply T.seql; (iterate 3 apply rfl)) | (apply T.mv; apply rfl; apply rfl) | (apply T.pickT; (iterate 3 apply rfl)) | (apply T.pickF; (iterate 3 apply rfl)) | (with_reducible first | refine Sr.nil ?_ | refine S.seq ?_ | refine S.reg ?_ | refine S.skip ?_) | (apply T.ungV; apply rfl; (first | with_reducible rfl | decide)) | (apply T.skip; apply rfl; (first | with_reducible rfl | decide); apply rfl) | (apply S.condFV; apply rfl; (first | with_reducible rfl | decide)) | (apply S.condQ; apply rfl; all_goals (intro _; try (exfalso; first | omega | with_reducible contradiction))) | fail)
       dsimp only
       rw [← hN2]
       refine T.call rfl rfl hc ?_
       rintro _ _ ⟨rfl, rfl⟩
       repeat' (first | (with_reducible apply T.diesW) | (with_reducible apply T.ofPan) | fail)
       exact ⟨_, PSub.drop (PSub.drop (PSub.refl _)), rfl, rfl⟩
     | some my =>
      obtain ⟨m, y⟩ := my
      rw [hr] at g4 hc
      simp only at g4
      obtain ⟨b1, b2⟩ := rev_keeps hLv f false mt _ _ m y hvx (by omega) hr
      have b3 := b1.size
      obtain ⟨r1, b4⟩ := b1.grow
      have b5 := pend_mono L mt r1
      rw [← b4] at b5
      have hys := flat_snoc_len ys y
      have hyl : (ys ++ [y]).length = ys.length + 1 := List.length_append
      have hmt : mt.length ≤ m.length := by rw [b4, List.length_append]; omega
      cases top
      all_goals
       try replace cB := cB rfl
       repeat' (first | (apply T.mapLook; apply rfl; apply rfl; infer_instance; (first | assumption | (simp only [maxLen]; omega) | omega); apply rfl) | (apply T.seql; (iterate 3 apply rfl)) | ((first | apply T.mv | apply T.asn); apply rfl; apply rfl) | (apply T.addI; apply rfl; apply rfl; omega; apply rfl) | (apply T.ixF; apply rfl; apply rfl; infer_instance; exact (fun _ => rfl); apply rfl; omega; omega; apply rfl) | (apply T.fieldAddrF; apply rfl; infer_instance; exact (fun _ => rfl); apply rfl; omega; apply rfl) | (apply T.loadF; apply rfl; apply rfl; infer_instance; exact (fun _ => rfl); apply rfl; exact getD_some (by omega); apply rfl; apply rfl) | (with_reducible first | refine Sr.nil ?_ | refine S.seq ?_ | refine S.reg ?_ | refine S.skip ?_) | (apply S.condQ; apply rfl; all_goals (intro _; try (exfalso; first | omega | with_reducible contradiction))) | fail)
       rw [hgn]
       repeat' (first | (apply Sr.same; refine T.mapPutA (z := ((namesX (ks.take i)).count (v.getD qi default).key : Int) + 1) rfl rfl rfl inferInstance hkl2 (by omega) (wfI64 (by constructor <;> omega)) ?_) | (apply T.seql; (iterate 3 apply rfl)) | (apply T.mv; apply rfl; apply rfl) | (apply T.pickT; (iterate 3 apply rfl)) | (apply T.pickF; (iterate 3 apply rfl)) | (with_reducible first | refine Sr.nil ?_ | refine S.seq ?_ | refine S.reg ?_ | refine S.skip ?_) | (apply T.ungV; apply rfl; (first | with_reducible rfl | decide)) | (apply T.skip; apply rfl; (first | with_reducible rfl | decide); apply rfl) | (apply S.condFV; apply rfl; (first | with_reducible rfl | decide)) | (apply S.condQ; apply rfl; all_goals (intro _; try (exfalso; first | omega | with_reducible contradiction))) | fail)
       dsimp only
       rw [← hN2]
       refine T.call rfl rfl hc ?_
       rintro _ _ ⟨E3, ya, yc, k2, rfl, rfl⟩
       repeat' (first | ((first | apply T.mv | apply T.asn); apply rfl; apply rfl) | (apply T.addI; apply rfl; apply rfl; omega; apply rfl) | (with_reducible first | refine Sr.nil ?_ | refine S.reg ?_ | refine S.inBlock ?_) | (with_reducible apply T.ofRet) | fail)
       rw [show o ++ hdN 7 key :: ys.flatten ++ y = o ++ hdN 7 key :: (ys ++ [y]).flatten by simp]
       exact ih _ _ _ _ ⟨i + 1, k + 1, hI, E3, N2, m, ya, yc, ys ++ [y], rfl, rfl, ⟨by omega, by omega, by omega, k2, hnp, by rw [hhsn]; exact g9, g4, by omega, by omega⟩, rfl⟩ (by omega) (by repeat' first | exact trivial | refine And.intro rfl ?_)
  ·obtain rfl : i = ks.length := by omega
   clear ih
   rw [List.drop_length] at g4
   rw [List.take_length] at g8 g9
   have hq2 : Q = some (mt, ys) := g4.symm
   subst hq2
   subst g7
   simp only
   have hgi : (o ++ hdN 7 key :: ys.flatten)[o.length]? = some (hdN 7 key) := by simp
   have hse : (o ++ hdN 7 key :: ys.flatten).set o.length ⟨7, key, [], false, 0, (ys.length : Int)⟩ = o ++ rowN 7 key ys := by simp [rowN]
   cases hh : hiddenX ks with
   | none =>
    rw [hh] at g9
    have g9' : hI = -1 := g9
    subst g9'
    unfold wkR
    repeat' (first | (apply Sr.same; refine T.storeF (g := ndV) ⟨7, key, [], false, 0, (ys.length : Int)⟩ rfl rfl inferInstance (fun _ => rfl) rfl hgi rfl rfl ?_) | ((first | apply T.mv | apply T.nilCheck); apply rfl; apply rfl) | (apply T.fieldAddrZ; apply rfl; apply rfl) | (apply T.load; apply rfl; apply rfl; infer_instance; apply rfl; apply rfl) | ((first | apply T.lss | apply T.geq); (iterate 3 apply rfl)) | (apply T.ixF; apply rfl; apply rfl; infer_instance; exact (fun _ => rfl); apply rfl; omega; omega; apply rfl) | (apply T.fieldAddrF; apply rfl; infer_instance; exact (fun _ => rfl); apply rfl; omega; apply rfl) | (with_reducible first | refine Sr.nil ?_ | refine S.seq ?_ | refine S.reg ?_ | refine S.skip ?_) | (apply S.exit; apply rfl) | (apply S.condFV; apply rfl; (first | with_reducible rfl | decide)) | (apply S.condQ; apply rfl; all_goals (intro _; try (exfalso; first | omega | with_reducible contradiction))) | (apply T.doneW; apply rfl) | fail)
    rw [hse, show (o ++ hdN 7 key :: ys.flatten).length = (o ++ rowN 7 key ys).length by simp [rowN]]
    exact ⟨_, PSub.take pick_hd (PSub.take pick_hd (PSub.take pick_hd (PSub.take pick_hd (PSub.trans (dcR_sub _ _ _) (dcR_sub _ _ _))))), E', xa, xc, g3, rfl, rfl⟩
   | some h =>
    rw [hh] at g9
    obtain ⟨j, rfl, g10, g11⟩ := g9
    obtain ⟨w1, w2, w3, w4⟩ := hidden_size hkv hh
    subst g11
    rw [kidsOf_valAt g10] at w4
    dsimp only
    rw [kidsOf_valAt g10, headN_valAt]
    have hnl : (namesX ks).length ≤ ks.length := by
     unfold namesX
     refine Nat.le_trans (List.length_filter_le ..) ?_
     rw [List.length_map]
     omega
    have hc := disclosed_spec (F := F) (M := M) (H := kr :: H) (p := p) (bb := bb) (sb := sb) (nb := mb) (B := B) (E := E') (N := N') (met := mt) (oa := xa) (oc := xc) (o := o ++ hdN 7 key :: ys.flatten) (ns := namesX ks) (va := va) (vc := vc) hv hG hGn (by subst hkr; exact Rd.tl) hg g10 (fun x hx => by have := hD x hx; subst hkr; exact Rd.tl) g3 g8 (by rw [hL]; omega) (by rw [hL]; omega) (by omega)
    rw [hL] at hc
    unfold wkR
    have hsw : ∀ mt, (dcR mt ds (kr :: nmE mb N' :: H)).Perm (dcR mt ds (nmE mb N' :: kr :: H)) := fun mt => dcR_tail (List.Perm.swap _ _ _) ds
    refine S.perm ?_ ((((hsw mt).cons _).cons _).cons _ |>.cons _)
    by_cases hk6 : (nodeAt v j).kind = 6
    ·rw [if_pos hk6] at hc ⊢
     rw [disclA_acc]
     generalize hQ2 : disclA (revV f L false) L mt (namesX ks) [] (kidsOf v j) = Q2 at hc ⊢
     cases Q2 with
     | none =>
      repeat' (first | (apply T.mv; apply rfl; apply rfl) | ((first | apply T.lss | apply T.geq); (iterate 3 apply rfl)) | (with_reducible first | refine Sr.nil ?_ | refine S.seq ?_ | refine S.reg ?_) | (apply S.exit; apply rfl) | (apply S.condQ; apply rfl; all_goals (intro _; try (exfalso; first | omega | with_reducible contradiction))) | fail)
      refine T.call rfl rfl hc ?_
      rintro _ _ ⟨rfl, rfl⟩
      repeat' (first | (with_reducible apply T.diesW) | (with_reducible apply T.ofPan) | fail)
      subst hkr
      exact ⟨_, PSub.drop (PSub.refl _), rfl, rfl⟩
     | some mu =>
      obtain ⟨m, us⟩ := mu
      obtain ⟨⟨us', d1, d2⟩, d3⟩ := discl_keep (rev_keeps hLv f false) hLv _ _ _ _ _ _ (by rw [← kidsOf_valAt g10]; exact w1.kids) (fun y hy => by cases hy) (by omega) hQ2
      rw [List.nil_append] at d1
      subst d1
      have d4 := d2.size
      have d5 := flat_ge us d3
      have husl : us.length ≤ 1000000000000 := by omega
      dsimp only [addP]
      repeat' (first | (apply T.mv; apply rfl; apply rfl) | ((first | apply T.lss | apply T.geq); (iterate 3 apply rfl)) | (with_reducible first | refine Sr.nil ?_ | refine S.seq ?_ | refine S.reg ?_) | (apply S.exit; apply rfl) | (apply S.condQ; apply rfl; all_goals (intro _; try (exfalso; first | omega | with_reducible contradiction))) | fail)
      refine T.call rfl rfl hc ?_
      rintro _ _ ⟨E3, ya, yc, N3, k2, rfl, rfl⟩
      have hgi2 : (o ++ hdN 7 key :: ys.flatten ++ us.flatten)[o.length]? = some (hdN 7 key) := by simp
      have hse2 : (o ++ hdN 7 key :: ys.flatten ++ us.flatten).set o.length ⟨7, key, [], false, 0, (ys.length : Int) + (us.length : Int)⟩ = o ++ rowN 7 key (ys ++ us) := by simp [rowN]
      have hgl : o.length < (o ++ hdN 7 key :: ys.flatten ++ us.flatten).length := by simp
      repeat' (first | (apply Sr.same; refine T.storeF (g := ndV) ⟨7, key, [], false, 0, (ys.length : Int) + (us.length : Int)⟩ rfl rfl inferInstance (fun _ => rfl) rfl hgi2 rfl rfl ?_) | ((first | apply T.mv | apply T.asn | apply T.nilCheck); apply rfl; apply rfl) | (apply T.fieldAddrZ; apply rfl; apply rfl) | (apply T.load; apply rfl; apply rfl; infer_instance; apply rfl; apply rfl) | (apply T.addI; apply rfl; apply rfl; omega; apply rfl) | (apply T.ixF; apply rfl; apply rfl; infer_instance; exact (fun _ => rfl); apply rfl; omega; omega; apply rfl) | (apply T.fieldAddrF; apply rfl; infer_instance; exact (fun _ => rfl); apply rfl; omega; apply rfl) | (with_reducible first | refine Sr.nil ?_ | refine S.reg ?_) | (apply T.doneW; apply rfl) | (with_reducible apply T.ofRet) | fail)
      rw [hse2, show (o ++ hdN 7 key :: ys.flatten ++ us.flatten).length = (o ++ rowN 7 key (ys ++ us)).length by simp [rowN]]
      exact ⟨_, PSub.take pick_hd (PSub.take pick_hd (PSub.take pick_hd (PSub.take pick_hd (PSub.trans (dcR_sub _ _ _) (dcR_sub _ _ _))))), E3, ya, yc, k2, rfl, rfl⟩
    ·rw [if_neg hk6] at hc ⊢
     repeat' (first | (apply T.mv; apply rfl; apply rfl) | ((first | apply T.lss | apply T.geq); (iterate 3 apply rfl)) | (with_reducible first | refine Sr.nil ?_ | refine S.seq ?_ | refine S.reg ?_) | (apply S.exit; apply rfl) | (apply S.condQ; apply rfl; all_goals (intro _; try (exfalso; first | omega | with_reducible contradiction))) | fail)
     refine T.call rfl rfl hc ?_
     rintro _ _ ⟨rfl, rfl⟩
     repeat' (first | (with_reducible apply T.diesW) | (with_reducible apply T.ofPan) | fail)
     subst hkr
     exact ⟨_, PSub.drop (PSub.refl _), rfl, rfl⟩
 ·rw [m1, m2]
  repeat' (first | (apply T.lss; (iterate 3 apply rfl)) | (with_reducible apply T.ofRet) | fail)
  rw [decide_eq_false (by omega)]
  refine T.call rfl rfl must_false ?_
  rintro _ _ ⟨rfl, rfl⟩
  repeat' (first | (with_reducible apply T.diesW) | (with_reducible apply T.ofPan) | fail)
  exact ⟨_, (PSub.drop (PSub.drop (PSub.drop (PSub.drop (dc_psub _ _ _))))), rfl, rfl⟩
theorem value_all (hG : ∀ x ∈ ds, NGood x.s.value ∧ Fo 1 x.s.value) (hGn : ∀ x ∈ ds, x.s.name.length ≤ maxLen) : ∀ f, ValS F M p bb sb B ds f := by
 intro f
 induction f with
 | zero => intro H E met oa oc o v va vc q key top _ _ _ _ _ _ h; omega
 | succ f ih =>
  intro H E met oa oc o v va vc q key top hR hg ha hkl hD hB hf hn
  refine Meets.enter Tryz.func29 rfl rfl ?_
  have hlt := ha.lt
  have hvl := hg.len
  have e1 := nodeAt_getD (v := v) hlt
  have hval : (valAt v q).length = (kidsOf v q).flatten.length + 1 := rfl
  generalize hS : revV (f + 1) (ds.map (·.s)) top met (valAt v q) key = S'
  unfold wkR
  repeat' (first | ((first | apply T.mv | apply T.asn | apply T.fieldAddrZ); apply rfl; apply rfl) | (apply T.load; apply rfl; apply rfl; infer_instance; apply rfl; apply rfl) | (apply T.eql; (iterate 3 apply rfl)) | (apply T.ixF; apply rfl; apply rfl; infer_instance; exact (fun _ => rfl); apply rfl; omega; omega; apply rfl) | (apply T.loadFN; apply rfl; apply rfl; infer_instance; exact (fun _ => rfl); apply rfl; exact getD_some (by omega); apply rfl) | (apply T.storeW; apply rfl; apply rfl; infer_instance; (first | rfl | (simp only [List.length_append, List.length_map, List.length_set, List.length_replicate, List.length_cons, List.length_nil]; first | done | omega)); (first | rfl | (simp only [List.length_append, List.length_map, List.length_set, List.length_replicate, List.length_cons, List.length_nil]; first | done | omega)); (first | rfl | (repeat' first | apply all_nV | apply all_bV | apply all_iV | rfl | apply all_app))) | (apply T.store; apply rfl; apply rfl; infer_instance; (first | decide | (simp; omega) | simp); apply rfl) | (apply T.alloc; apply rfl; intro nb) | (with_reducible first | refine Sr.nil ?_ | refine S.seq ?_ | refine S.block ?_ | refine S.reg ?_) | fail)
  by_cases c7 : (v.getD q default).kind = 7
  ·rw [revV_obj (by rw [headN_valAt, e1]; exact c7)] at hS
   have hc := object_spec ih hG hGn (key := key) (top := top) (vc := vc) (oa := oa) (oc := oc) hR hg ha hkl hD hB hf hn
   rw [hS] at hc
   refine S.sublist ?_ (PSub.drop (PSub.refl _))
   repeat' (first | (apply T.mv; apply rfl; apply rfl) | with_reducible refine S.reg ?_ | (apply S.condQ; apply rfl; all_goals (intro _; try (exfalso; first | omega | with_reducible contradiction))) | fail)
   refine T.call rfl rfl hc ?_
   cases S' with
   | none =>
    rintro _ _ ⟨rfl, rfl⟩
    repeat' (first | (with_reducible apply T.diesW) | (with_reducible apply T.ofPan) | fail)
    exact ⟨_, PSub.refl _, rfl, rfl⟩
   | some my =>
    rintro _ _ ⟨E3, ya, yc, k2, rfl, rfl⟩
    repeat' (first | (with_reducible first | refine Sr.nil ?_ | refine S.inBlock ?_) | (apply T.doneW; apply rfl) | (with_reducible apply T.ofRet) | fail)
    exact ⟨_, PSub.refl _, E3, ya, yc, k2, rfl, rfl⟩
  ·by_cases c6 : (v.getD q default).kind = 6
   ·rw [revV_list (by rw [headN_valAt, e1]; exact c6), kidsOf_valAt ha] at hS
    have hc := list_spec ih hG (key := key) (vc := vc) (oa := oa) (oc := oc) hR hg ha hkl hD hB hf hn
    rw [hS] at hc
    refine S.sublist ?_ (PSub.drop (PSub.refl _))
    repeat' (first | ((first | apply T.mv | apply T.asn); apply rfl; apply rfl) | (apply T.eql; (iterate 3 apply rfl)) | (with_reducible first | refine Sr.nil ?_ | refine S.seq ?_ | refine S.reg ?_) | (apply S.condQ; apply rfl; all_goals (intro _; try (exfalso; first | omega | with_reducible contradiction))) | fail)
    refine T.call rfl rfl hc ?_
    cases S' with
    | none =>
     rintro _ _ ⟨rfl, rfl⟩
     repeat' (first | (with_reducible apply T.diesW) | (with_reducible apply T.ofPan) | fail)
     exact ⟨_, PSub.refl _, rfl, rfl⟩
    | some my =>
     rintro _ _ ⟨E3, ya, yc, k2, rfl, rfl⟩
     repeat' (first | (with_reducible first | refine Sr.nil ?_ | refine S.inBlock ?_) | (apply T.doneW; apply rfl) | (with_reducible apply T.ofRet) | fail)
     exact ⟨_, PSub.refl _, E3, ya, yc, k2, rfl, rfl⟩
   ·rw [revV_flat (by rw [headN_valAt, e1]; exact c7) (by rw [headN_valAt, e1]; exact c6), headN_valAt, e1] at hS
    subst hS
    repeat' (first | (apply T.asn; apply rfl; apply rfl) | (apply T.eql; (iterate 3 apply rfl)) | (with_reducible first | refine Sr.nil ?_ | refine S.seq ?_ | refine S.reg ?_) | (apply S.condQ; apply rfl; all_goals (intro _; try (exfalso; first | omega | with_reducible contradiction))) | fail)
    (apply S.drawL; (case Hs => exact [.blk nb ((ndV (v.getD q default)).set 1 (sV key)) 34, .blk p (wkV bb sb (dupB met) oa o.length oc) 57]); (case es => exact  [6, 7, 10]); (case lt => exact  [10]); (case n => exact  11); (case hn => rfl))
    repeat' (first | (refine T.appendF (g := ndV) ((v.getD q default).key_ key) rfl rfl rfl inferInstance (fun _ => rfl) rfl rfl rfl (by constructor <;> omega) rfl ?_; intro oa' oc') | ((first | apply T.mv | apply T.nilCheck | apply T.fieldAddrZ); apply rfl; apply rfl) | (apply T.load; apply rfl; apply rfl; infer_instance; apply rfl; apply rfl) | (apply T.loadW; apply rfl; apply rfl; infer_instance; (first | rfl | (simp only [List.length_append, List.length_map, List.length_set, List.length_replicate, List.length_cons, List.length_nil]; first | done | omega)); apply rfl) | (apply T.store; apply rfl; apply rfl; infer_instance; (first | decide | (simp; omega) | simp); apply rfl) | (apply T.bsL; (iterate 5 apply rfl); intro nb) | (with_reducible first | refine Sr.nil ?_ | refine S.inBlock ?_) | (apply T.doneW; apply rfl) | (apply SA.qn; (iterate 4 apply rfl); kernel_rfl) | (apply SA.qz; (iterate 4 apply rfl); kernel_rfl) | (apply SA.qsn; (iterate 3 apply rfl); kernel_rfl; (first | exact fun _ h => h | exact fun _ h => St.psub h (by ((repeat (first | dsimp only [List.set_cons_zero] | dsimp only [List.set_cons_succ])); repeat' first | exact PSub.refl _ | exact PSub.nil | (apply PSub.take; (repeat' first | (with_reducible exact pick_hd) | (with_reducible apply pick_tl))) | (with_reducible apply PSub.drop) | ((apply PSub.take); (repeat' first | exact pick_hd | (apply pick_tl))))))) | (apply SA.en; apply rfl; apply rfl; kernel_rfl) | (apply SA.done; apply rfl; kernel_rfl) | (apply SK.late; decide) | (apply SK.intro; (first | exact fun _ h => h | exact fun _ h => St.psub h (by ((repeat (first | dsimp only [List.set_cons_zero] | dsimp only [List.set_cons_succ])); repeat' first | exact PSub.refl _ | exact PSub.nil | (apply PSub.take; (repeat' first | (with_reducible exact pick_hd) | (with_reducible apply pick_tl))) | (with_reducible apply PSub.drop) | ((apply PSub.take); (repeat' first | exact pick_hd | (apply pick_tl))))))) | fail)
    rw [show o.length + 1 = (o ++ [(v.getD q default).key_ key]).length by simp]
    exact ⟨_, PSub.drop (PSub.refl _), E, oa', oc', hB, rfl, rfl⟩
end
end Go.Proofs.YtjajcmedipjfhaaGreatDoor
/- What a disclosure says, in plain Lean; what has been read from a text holds nothing where it may not. -/
namespace Sg
def Flat (l : List Nd) : Prop := ∀ n ∈ l, n.kind ≠ 6 → n.kind ≠ 7 → n.kids = 0
theorem Flat.one {n : Nd} (h : n.kind ≠ 6 → n.kind ≠ 7 → n.kids = 0) : Flat [n] := fun m hm => by
 rw [List.mem_singleton.1 hm]
 exact h
theorem Flat.app {a b : List Nd} (ha : Flat a) (hb : Flat b) : Flat (a ++ b) := fun m hm => (List.mem_append.1 hm).elim (ha m) (hb m)
theorem Flat.cons {n : Nd} {a : List Nd} (h : n.kind ≠ 6 → n.kind ≠ 7 → n.kids = 0) (ha : Flat a) : Flat (n :: a) := fun m hm => (List.mem_cons.1 hm).elim (fun e => by rw [e]; exact h) (ha m)
theorem Flat.named {l : List Nd} (h : Flat l) (k : List UInt8) : Flat (nameL l k) := by
 cases l with
 | nil => exact h
 | cons n r => exact Flat.cons (h n (List.mem_cons_self ..)) fun m hm => h m (List.mem_cons_of_mem _ hm)
theorem flatX_flat {wh : List UInt8 → Int × Bool} {t : List UInt8} {p a : Nat} {c : UInt8} {l : List Nd} (h : flatX wh t p c = .ok a l) : Flat l := by
 unfold flatX at h
 repeat' split at h
 all_goals first
  | (obtain ⟨b, v, -, h⟩ := bind_ok h; cases h; exact Flat.one fun _ _ => rfl)
  | cases h
theorem item_flat {val : Nat → Gt (List Nd)} (hv : ∀ {p a l}, val p = .ok a l → Flat l) {t : List UInt8} {obj : Bool} {p a : Nat} {names : List (List UInt8)} {g : List Nd × List UInt8} (h : itemX val t obj p names = .ok a g) : Flat g.1 := by
 unfold itemX at h
 split at h
 ·split at h
  ·obtain ⟨b, s, -, h⟩ := bind_ok h
   split at h
   ·cases h
   ·split at h
    ·obtain ⟨d, v, h1, h⟩ := bind_ok h
     cases h
     exact (hv h1).named _
    ·cases h
  ·cases h
 ·obtain ⟨d, v, h1, h⟩ := bind_ok h
  cases h
  exact hv h1
theorem row_flat {val : Nat → Gt (List Nd)} (hv : ∀ {p a l}, val p = .ok a l → Flat l) {t : List UInt8} {obj : Bool} : ∀ {f p a : Nat} {names : List (List UInt8)} {hd : Nd} {out l : List Nd}, rowX val t obj f p names hd out = .ok a l → (hd.kind = 6 ∨ hd.kind = 7) → Flat out → Flat l
 | 0, p, a, names, hd, out, l, h, _, _ => by rw [rowX] at h; cases h
 | f + 1, p, a, names, hd, out, l, h, hk, ho => by
  rw [rowX] at h
  obtain ⟨b, g, hi, h⟩ := bind_ok h
  have hg := item_flat hv hi
  have hh : hd.more.kind ≠ 6 → hd.more.kind ≠ 7 → hd.more.kids = 0 := fun a b => (hk.elim (fun e => a e) fun e => b e).elim
  unfold rowE at h
  split at h
  ·cases h
   exact Flat.cons hh (ho.app hg)
  ·split at h
   ·exact row_flat hv h hk (ho.app hg)
   ·cases h
theorem valX_flat {wh : List UInt8 → Int × Bool} {t : List UInt8} : ∀ {d p a : Nat} {l : List Nd}, valX wh t d p = .ok a l → Flat l := by
 intro d
 induction d with
 | zero =>
  intro p a l h
  rw [valX] at h
  split at h
  ·cases h
  ·split at h
   ·cases h
   ·exact flatX_flat h
 | succ d ih =>
  intro p a l h
  rw [valX] at h
  split at h
  ·cases h
  ·split at h
   ·rename_i c hc hb
    have h' : (if atB t (skipB t (p + 1)) (closeB (decide (c = 123))) = true then Gt.ok (skipB t (p + 1) + 1) [nd (if c = 123 then 7 else 6)] else rowX (valX wh t d) t (decide (c = 123)) (t.length + 1) (skipB t (p + 1)) [] (nd (if c = 123 then 7 else 6)) []) = Gt.ok a l := h
    split at h'
    ·cases h'
     exact Flat.one fun _ _ => rfl
    ·refine row_flat ih h' ?_ fun m hm => by cases hm
     by_cases h1 : c = 123
     ·exact .inr (by simp [nd, h1])
     ·exact .inl (by simp [nd, h1])
   ·exact flatX_flat h
theorem parse_flat {wh : List UInt8 → Int × Bool} {t : List UInt8} {a : Nat} {l : List Nd} (h : parseX wh t = .ok a l) : Flat l := by
 unfold parseX at h
 split at h
 ·cases h
 ·obtain ⟨b, v, hv, h⟩ := bind_ok h
  split at h
  ·cases h
  ·cases h
   exact valX_flat hv
theorem parse_ngood {wh : List UInt8 → Int × Bool} {t : List UInt8} {a : Nat} {l : List Nd} (h : parseX wh t = .ok a l) : NGood l := by
 obtain ⟨h1, h2, h3⟩ := parse_sz h
 exact ⟨parse_flat h, fun n hn => ⟨Nat.le_trans (h2 n hn).key (by omega), Nat.le_trans (h2 n hn).text (by omega)⟩, by omega⟩
def saidX (dg : List UInt8) (v : List Nd) : Option Said := if (headN v).kind = 6 then
  match kidsOf v 0 with
  | [a, x] => if (headN a).kind = 5 then some ⟨dg, [], false, x⟩ else none
  | [a, n, x] => if (headN a).kind = 5 ∧ ((headN n).kind = 5 ∧ (headN n).text ≠ sdN ∧ (headN n).text ≠ dotsN) then some ⟨dg, (headN n).text, true, x⟩ else none
  | _ => none
 else none
theorem said_kind {dg : List UInt8} {v : List Nd} (h : (headN v).kind ≠ 6) : saidX dg v = none := by
 unfold saidX
 rw [if_neg h]
theorem said_len {dg : List UInt8} {v : List Nd} (h2 : (kidsOf v 0).length ≠ 2) (h3 : (kidsOf v 0).length ≠ 3) : saidX dg v = none := by
 unfold saidX
 split
 ·match hk : kidsOf v 0 with
  | [] => rfl
  | [_] => rfl
  | [_, _] => rw [hk] at h2; exact absurd rfl h2
  | [_, _, _] => rw [hk] at h3; exact absurd rfl h3
  | _ :: _ :: _ :: _ :: _ => rfl
 ·rfl
theorem said_two {dg : List UInt8} {v : List Nd} (h : (headN v).kind = 6) (h2 : (kidsOf v 0).length = 2) : saidX dg v = if (headN ((kidsOf v 0).getD 0 [])).kind = 5 then some ⟨dg, [], false, (kidsOf v 0).getD 1 []⟩ else none := by
 unfold saidX
 rw [if_pos h]
 match hk : kidsOf v 0 with
 | [] => rw [hk] at h2; cases h2
 | [_] => rw [hk] at h2; cases h2
 | [_, _] => rfl
 | _ :: _ :: _ :: _ => rw [hk] at h2; cases h2
theorem said_three {dg : List UInt8} {v : List Nd} (h : (headN v).kind = 6) (h2 : (kidsOf v 0).length = 3) : saidX dg v = if (headN ((kidsOf v 0).getD 0 [])).kind = 5 ∧ ((headN ((kidsOf v 0).getD 1 [])).kind = 5 ∧ (headN ((kidsOf v 0).getD 1 [])).text ≠ sdN ∧ (headN ((kidsOf v 0).getD 1 [])).text ≠ dotsN) then some ⟨dg, (headN ((kidsOf v 0).getD 1 [])).text, true, (kidsOf v 0).getD 2 []⟩ else none := by
 unfold saidX
 rw [if_pos h]
 match hk : kidsOf v 0 with
 | [] => rw [hk] at h2; cases h2
 | [_] => rw [hk] at h2; cases h2
 | [_, _] => rw [hk] at h2; cases h2
 | [_, _, _] => rfl
 | _ :: _ :: _ :: _ :: _ => rw [hk] at h2; cases h2
theorem last_drop {v : List Nd} (h : Fo 1 v) {i : Nat} (hi : i + 1 = (kidsOf v 0).length) : v.drop ((offs 1 (kidsOf v 0)).getD i 0) = (kidsOf v 0).getD i [] := by
 have h2 : (offs 1 (kidsOf v 0)).getD i 0 = 1 + ((kidsOf v 0).take i).flatten.length := offs_get (by omega)
 obtain ⟨-, -, h3, -⟩ := kids_size h
 rw [h2]
 generalize kidsOf v 0 = ks at *
 have h4 : ks = ks.take i ++ [ks.getD i []] := by
  conv => lhs; rw [← List.take_append_drop i ks]
  rw [List.drop_eq_getElem_cons (by omega), List.drop_eq_nil_of_le (by omega)]
  simp [List.getD, show i < ks.length by omega]
 generalize ks.getD i [] = y at *
 generalize ks.take i = us at *
 subst h4
 rw [h3, Nat.add_comm, List.drop_succ_cons, List.flatten_append, List.drop_left]
 simp
theorem kid_node {v : List Nd} (h : Fo 1 v) {i : Nat} (hi : i < (kidsOf v 0).length) : (offs 1 (kidsOf v 0)).getD i 0 < v.length ∧ nodeAt v ((offs 1 (kidsOf v 0)).getD i 0) = headN ((kidsOf v 0).getD i []) := by
 have h1 := kid_is (IsAt.of_fo h) hi
 have h2 := valAt_kid (IsAt.of_fo h) hi
 refine ⟨h1.lt, ?_⟩
 have h3 : headN (valAt v ((offs (0 + 1) (kidsOf v 0)).getD i 0)) = headN (kidsOf v 0)[i] := by rw [h2]
 simp only [List.getD, List.getElem?_eq_getElem hi, Option.getD_some]
 exact h3
def readX (dg : List UInt8) (b : Option (List UInt8)) : Option Said := match b with
 | none => none
 | some b => match parseX wholeX b with
  | .bad _ _ => none
  | .ok _ v => saidX dg v
end Sg
/- Bytes spelled in 64 signs, in plain Lean: by groups of three bytes, and by bits. -/
namespace Sg
def grp (bs : List UInt8) (q : Nat) : Nat := (bs.getD (3 * q) 0).toNat * 65536 + (bs.getD (3 * q + 1) 0).toNat * 256 + (bs.getD (3 * q + 2) 0).toNat
def six (bs : List UInt8) (i : Nat) : Nat := grp bs (i / 4) / 64 ^ (3 - i % 4) % 64
def signsN (n : Nat) : Nat := (8 * n + 5) / 6
def enc (S bs : List UInt8) : List UInt8 := (List.range (signsN bs.length)).map fun i => S.getD (six bs i) 0
theorem enc_len (S bs : List UInt8) : (enc S bs).length = signsN bs.length := by simp [enc]
theorem grp_or {a b c : Nat} (hb : b < 256) (hc : c < 256) : a * 2 ^ 16 ||| b * 2 ^ 8 ||| c = a * 65536 + b * 256 + c := by
 have h1 : a * 2 ^ 16 ||| b * 2 ^ 8 = a * 2 ^ 16 + b * 2 ^ 8 := by
  rw [Nat.mul_comm a]
  exact (Nat.two_pow_add_eq_or_of_lt (by omega) a).symm
 rw [h1, show a * 2 ^ 16 + b * 2 ^ 8 = 2 ^ 8 * (a * 256 + b) by omega, ← Nat.two_pow_add_eq_or_of_lt (by omega)]
theorem b64and63 (n : Nat) : n &&& 63 = n % 64 := by rw [show 63 = 2 ^ 6 - 1 from rfl, Nat.and_two_pow_sub_one_eq_mod]
theorem and3 (n : Nat) : n &&& 3 = n % 4 := by rw [show 3 = 2 ^ 2 - 1 from rfl, Nat.and_two_pow_sub_one_eq_mod]
theorem b64and15 (n : Nat) : n &&& 15 = n % 16 := by rw [show 15 = 2 ^ 4 - 1 from rfl, Nat.and_two_pow_sub_one_eq_mod]
theorem or16 {a b : Nat} (hb : b < 16) : a * 2 ^ 4 ||| b = a * 16 + b := by
 rw [Nat.mul_comm a, ← Nat.two_pow_add_eq_or_of_lt (by omega)]
def urlS : List UInt8 := [65, 66, 67, 68, 69, 70, 71, 72, 73, 74, 75, 76, 77, 78, 79, 80, 81, 82, 83, 84, 85, 86, 87, 88, 89, 90, 97, 98, 99, 100, 101, 102, 103, 104, 105, 106, 107, 108, 109, 110, 111, 112, 113, 114, 115, 116, 117, 118, 119, 120, 121, 122, 48, 49, 50, 51, 52, 53, 54, 55, 56, 57, 45, 95]
theorem range2 {α : Type} (f : Nat → α) (n : Nat) : (List.range (n + 2)).map f = (List.range n).map f ++ [f n, f (n + 1)] := by
 simp [List.range_succ]
theorem range3 {α : Type} (f : Nat → α) (n : Nat) : (List.range (n + 3)).map f = (List.range n).map f ++ [f n, f (n + 1), f (n + 2)] := by
 simp [List.range_succ]
theorem range4 {α : Type} (f : Nat → α) (n : Nat) : (List.range (n + 4)).map f = (List.range n).map f ++ [f n, f (n + 1), f (n + 2), f (n + 3)] := by
 simp [List.range_succ]
end Sg
/- Bytes out of 64 signs, in plain Lean. -/
namespace Sg
def sgn (s : List UInt8) (k : Nat) : Nat := match s[k]? with
 | some c => urlS.idxOf c
 | none => 0
def dgrp (s : List UInt8) (q : Nat) : Nat := sgn s (4 * q) * 262144 + sgn s (4 * q + 1) * 4096 + sgn s (4 * q + 2) * 64 + sgn s (4 * q + 3)
def decB (s : List UInt8) : List UInt8 := (List.range (s.length * 6 / 8)).map fun i => UInt8.ofNat (dgrp s (i / 3) / 256 ^ (2 - i % 3))
def spareB (s : List UInt8) : Bool := if s.length % 4 = 3 then decide (dgrp s (s.length / 4) % 256 = 0) else if s.length % 4 = 2 then decide (dgrp s (s.length / 4) % 65536 = 0) else true
def badB (s : List UInt8) : Nat := s.findIdx fun c => !(urlS.contains c)
def decX (s : List UInt8) : List UInt8 × Int × Nat := if badB s < s.length then ([], 20, badB s) else if s.length % 4 = 1 then ([], 21, s.length) else if spareB s = true then (decB s, 0, 0) else ([], 22, s.length - 1)
theorem decB_len (s : List UInt8) : (decB s).length = s.length * 6 / 8 := by simp [decB]
theorem sgn_drop (s : List UInt8) (o k : Nat) : sgn (s.drop o) k = sgn s (o + k) := by
 unfold sgn
 rw [List.getElem?_drop]
theorem sgn_get {s : List UInt8} {k : Nat} (h : k < s.length) : sgn s k = urlS.idxOf (s.getD k 0) := by
 unfold sgn
 rw [List.getElem?_eq_getElem h]
 simp [List.getD, h]
theorem sgn_out {s : List UInt8} {k : Nat} (h : s.length ≤ k) : sgn s k = 0 := by
 unfold sgn
 rw [List.getElem?_eq_none h]
theorem badB_at {s : List UInt8} {i : Nat} (hi : i < s.length) (h : s.getD i 0 ∉ urlS) (hb : ∀ j, j < i → s.getD j 0 ∈ urlS) : badB s = i := by
 unfold badB
 rw [List.findIdx_eq hi]
 have e : ∀ j (hj : j < s.length), s.getD j 0 = s[j] := fun j hj => by simp [List.getD, hj]
 refine ⟨?_, fun j hj => ?_⟩
 ·rw [e i hi] at h
  simpa using h
 ·have := hb j hj
  rw [e j (by omega)] at this
  simpa using this
theorem idx_eq (c : UInt8) : ∀ l : List UInt8, c ∈ l → Go.Lib.indexByte l c = (l.idxOf c : Int)
 | [], h => by cases h
 | b :: l, h => by
  unfold Go.Lib.indexByte
  by_cases hb : b = c
  ·subst hb
   simp
  ·rw [if_neg (by simpa using hb), List.idxOf_cons, show (b == c) = false by simpa using hb]
   have h2 : c ∈ l := by
    rcases List.mem_cons.1 h with h | h
    ·exact absurd h.symm hb
    ·exact h
   rw [idx_eq c l h2, if_neg (by simp only [beq_iff_eq]; omega)]
   rfl
theorem idx_neg (c : UInt8) : ∀ l : List UInt8, Go.Lib.indexByte l c < 0 ↔ c ∉ l
 | [] => by simp [Go.Lib.indexByte]
 | b :: l => by
  have ih := idx_neg c l
  have hge := Go.Lib.indexByte_ge l c
  unfold Go.Lib.indexByte
  by_cases h : b = c
  ·subst h
   simp
  ·have h' : ¬ c = b := fun e => h e.symm
   simp only [beq_iff_eq, h, if_false, List.mem_cons, h', false_or]
   rw [← ih]
   split <;> omega
theorem dgrp_bytes (s : List UInt8) (q : Nat) : (List.range (3 * (q + 1))).map (fun i => UInt8.ofNat (dgrp s (i / 3) / 256 ^ (2 - i % 3))) = (List.range (3 * q)).map (fun i => UInt8.ofNat (dgrp s (i / 3) / 256 ^ (2 - i % 3))) ++ [UInt8.ofNat (dgrp s q / 65536), UInt8.ofNat (dgrp s q / 256), UInt8.ofNat (dgrp s q)] := by
 rw [show 3 * (q + 1) = 3 * q + 3 from rfl, range3, show 3 * q / 3 = q by omega, show (3 * q + 1) / 3 = q by omega, show (3 * q + 2) / 3 = q by omega, show 3 * q % 3 = 0 by omega, show (3 * q + 1) % 3 = 1 by omega, show (3 * q + 2) % 3 = 2 by omega]
 simp
theorem dgrp_or {a b c d : Nat} (hb : b < 64) (hc : c < 64) (hd : d < 64) : ((a * 2 ^ 18 ||| b * 2 ^ 12) ||| c * 2 ^ 6) ||| d = a * 262144 + b * 4096 + c * 64 + d := by
 have e1 : a * 2 ^ 18 ||| b * 2 ^ 12 = a * 2 ^ 18 + b * 2 ^ 12 := by
  rw [Nat.mul_comm a, ← Nat.two_pow_add_eq_or_of_lt (by omega)]
 have e2 : (a * 2 ^ 18 + b * 2 ^ 12) ||| c * 2 ^ 6 = a * 2 ^ 18 + b * 2 ^ 12 + c * 2 ^ 6 := by
  rw [show a * 2 ^ 18 + b * 2 ^ 12 = 2 ^ 12 * (a * 64 + b) by omega, ← Nat.two_pow_add_eq_or_of_lt (by omega)]
 have e3 : (a * 2 ^ 18 + b * 2 ^ 12 + c * 2 ^ 6) ||| d = a * 2 ^ 18 + b * 2 ^ 12 + c * 2 ^ 6 + d := by
  rw [show a * 2 ^ 18 + b * 2 ^ 12 + c * 2 ^ 6 = 2 ^ 6 * (a * 4096 + b * 64 + c) by omega, ← Nat.two_pow_add_eq_or_of_lt (by omega)]
 rw [e1, e2, e3]
end Sg
