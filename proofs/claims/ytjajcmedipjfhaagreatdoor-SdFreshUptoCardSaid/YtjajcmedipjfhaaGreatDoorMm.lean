/- Texts put together by a program: FrsA NdO LawS SdT. -/
import Derived.Test.YtjajcmedipjfhaaGreatDoorMl
import Derived.Test.YtjajcmedipjfhaaGreatDoorMa
import Derived.Handed
import Derived.Shelf.Vars
import Derived.Test.YtjajcmedipjfhaaGreatDoorMj
import Derived.Test.YtjajcmedipjfhaaGreatDoorMd
import Derived.Test.YtjajcmedipjfhaaGreatDoorRows
import Derived.Lay
import Derived.ChangeMaps5
/- The law of SdFresh: its writings. -/
namespace Sg
open Go Go.RowKit
section
variable {q : Mode} {c : Ctx} {ds : List Deferred} {H : List Res} {ops : Array Oper} {l : List Oper} {κ : List Res → Env → Prop} {dr : Bool} {e : Env} {ty : TypeId} {pos : String} {aft : Array Edge}
theorem T.appendKF {d : Tmp} {x y : Operand} {ad : Option Addr} {n cp b t E Eb sz : Nat} {us : List Value} [HU c.P t (.slice E)] {z : Value} {by_ : Nat} [HI c.P E z sz by_] {xs : List Value} (hx : ev e x = some (.slice ad n cp)) (hy : ev e y = some (.slice (some ⟨b, 0, none⟩) 1 1))
  (hul : us.length = sz) (hone : us.all (·.oneCell') = true) (hzs : z.cells.size = sz) (h0 : Nat.blt 0 sz = true) (hroom : (n + 1) * by_ ≤ 140737488355328 ∧ n + 1 ≤ 140737488355328) (hlt : Nat.blt d c.fn.ntmps = true)
  (hk : ∀ ad' cp' X, (ad' = ad ∧ X = [] ∨ X = [.row ad cp E sz n xs]) → Sr (.eff dr) c ds (.row ad' cp' E sz (n + 1) (xs ++ us) :: (X ++ H)) ops l κ ((d, .slice ad' (n + 1) cp') :: e)) :
  Sr (.eff dr) c ds (.blk b us Eb :: .row ad cp E sz n xs :: H) ops (⟨some d, .call ⟨.builtin .append, #[x, y], #[t, t]⟩, ty, pos, aft, none⟩ :: l) κ e :=
 Sr.eff (K := fun u H' => ∃ ad' cp' X, u = .slice ad' (n + 1) cp' ∧ (ad' = ad ∧ X = [] ∨ X = [.row ad cp E sz n xs]) ∧ H' = .row ad' cp' E sz (n + 1) (xs ++ us) :: (X ++ H)) (fun w a hw ha => by
  obtain ⟨ad', cp', w', X, hrun, hX, hst⟩ := St.appendK (c := c) (t := t) (z := z) (sz := sz) (by_ := by_) (us := us) (m := 1) (src := ⟨b, 0, none⟩) (scp := 1) (ty := ty) hw.tail (by omega) (fun j u hj => by
   rw [addr_add, Nat.zero_add, hw.cell (List.mem_cons_self ..)]
   exact hj) hone hzs (by simpa [Nat.blt_eq] using h0) hroom
  exact ⟨_, w', _, .inl (by simp [execOp, ha.ev hx, ha.ev hy, resolve, invoke, builtin, hrun]), hst, _, _, _, rfl, hX, rfl⟩) hlt rfl
  (fun u H' ⟨ad', cp', X, hu, hX, hH⟩ => by subst hu hH; exact hk ad' cp' X hX)
theorem Sr.rowEq {a : Option Addr} {cp E sz n : Nat} {xs ys : List Value} (h : xs = ys) (hk : Sr q c ds (.row a cp E sz n ys :: H) ops l κ e) : Sr q c ds (.row a cp E sz n xs :: H) ops l κ e := by subst h; exact hk
theorem S.rowEq {k : List Item} {a : Option Addr} {cp E sz n : Nat} {xs ys : List Value} (h : xs = ys) (hk : S c ds (.row a cp E sz n ys :: H) k e) : S c ds (.row a cp E sz n xs :: H) k e := by subst h; exact hk
end
def n77 : Nd := ⟨77, [], [], false, 0, 0⟩
def n78 : Nd := ⟨78, [], [], false, 0, 0⟩
def n91 : Nd := ⟨91, [], [], false, 0, 0⟩
def n92 : Nd := ⟨92, [], [], false, 0, 0⟩
end Sg
namespace Go.Proofs.YtjajcmedipjfhaaGreatDoor
open Sg Go Go.RowKit Go.IntWalk
set_option maxRecDepth 100000
set_option maxHeartbeats 4000000
theorem allO_sz : ∀ {ts : List (List UInt8)} {L : List Said}, allO readT ts = some L → (∀ s ∈ L, Vl s.value) ∧ pend L [] ≤ (ts.map List.length).sum
 | [], L, h => by
  cases h
  exact ⟨fun s hs => (by cases hs), Nat.le_refl _⟩
 | t :: r, L, h => by
  unfold allO at h
  cases ht : readT t with
  | none => rw [ht] at h; cases h
  | some s =>
   rw [ht] at h
   cases hr : allO readT r with
   | none => rw [hr] at h; cases h
   | some L' =>
    rw [hr] at h
    cases h
    obtain ⟨h1, h2⟩ := allO_sz hr
    obtain ⟨-, h3, h4, -⟩ := readT_ok ht
    refine ⟨fun x hx => ?_, ?_⟩
    ·rcases List.mem_cons.1 hx with rfl | hx
     ·exact h4
     ·exact h1 x hx
    ·have e : pend (s :: L') [] = s.value.length + 1 + pend L' [] := by simp [pend]
     rw [e, List.map_cons, List.sum_cons]
     omega
theorem revealX_len {v : List Nd} {ts : List (List UInt8)} (hb : AllB v) (hsz : v.length + (ts.map List.length).sum ≤ 1100000) : (revealX Lib.validD readT v ts).2.length ≤ 1100000 := by
 unfold revealX
 by_cases h1 : shapedX Lib.validD v = false ∨ (headN v).kind ≠ 7
 ·rw [if_pos h1]
  exact Nat.zero_le _
 ·rw [if_neg h1]
  by_cases h2 : algBad v
  ·rw [if_pos h2]
   exact Nat.zero_le _
  ·rw [if_neg h2]
   have hs : shapedX Lib.validD v = true := by
    cases hh : shapedX Lib.validD v with
    | true => rfl
    | false => exact absurd (.inl hh) h1
   obtain ⟨hf, hg⟩ := shaped_ngood hs hb (by omega)
   cases hL : allO readT ts with
   | none => exact Nat.zero_le _
   | some L =>
    obtain ⟨l1, l2⟩ := allO_sz hL
    simp only
    split
    ·exact Nat.zero_le _
    ·cases hr : revV (v.length + pend L [] + 1) L true [] v [] with
     | none => exact Nat.zero_le _
     | some my =>
      obtain ⟨m, y⟩ := my
      have hkp := (rev_keeps l1 (v.length + pend L [] + 1) true [] v [] m y ⟨hf, hg.flat⟩ (by omega) hr).1.size
      rw [List.length_nil] at hkp
      simp only
      split
      ·exact Nat.zero_le _
      ·split
       ·exact Nat.zero_le _
       ·show y.length ≤ 1100000
        omega
section
variable {F : World} {H : List Res}
theorem fresh_walk {v : List Nd} {ts : List (List UInt8)} {va ta : Option Addr} {vc tc : Nat} (hT : Tabs F []) (hS : ShP F []) (hRv : ∀ X, Rd F [] X va (v.flatMap ndV)) (hRt : ∀ X, Rd F [] X ta (ts.map sV)) (hb : AllB v) (hk : ∀ n ∈ v, -9223372036854775808 ≤ n.kids ∧ n.kids ≤ 9223372036854775807) (hsz : v.length + (ts.map List.length).sum ≤ 1048576) (htl : ts.length ≤ 1048576) :
  Meets Tryz.prog 6 [.slice va v.length vc, .slice ta ts.length tc] F [] H (fun e _ => e = .returned (.bool true)) := by
 refine Meets.enter Tryz.func6 rfl rfl ?_
 repeat' (first | (apply T.mv; apply rfl; apply rfl) | (apply T.asn; apply rfl; apply rfl) | with_reducible refine Sr.nil ?_ | with_reducible refine S.seq ?_ | with_reducible refine S.reg ?_ | fail)
 refine T.call rfl rfl (beyond_spec (v := v) (hRv _) hk (by omega)) ?_
 rintro _ _ ⟨bb, rfl, rfl⟩
 cases bb with
 | true =>
  repeat' (first | (apply T.asn; apply rfl; apply rfl) | with_reducible refine Sr.nil ?_ | with_reducible refine S.seq ?_ | with_reducible refine S.reg ?_ | (apply S.condTV; apply rfl; (first | with_reducible rfl | decide)) | (apply T.retW; apply rfl) | (with_reducible apply T.ofRet) | fail)
  exact ⟨_, PSub.refl _, rfl⟩
 | false =>
  repeat' (first | with_reducible refine Sr.nil ?_ | with_reducible refine S.seq ?_ | with_reducible refine S.reg ?_ | with_reducible refine S.skip ?_ | (apply S.condFV; apply rfl; (first | with_reducible rfl | decide)) | (with_reducible apply T.ofRet) | fail)
  refine T.call rfl rfl (alive_spec hT hS) ?_
  rintro _ _ ⟨rfl, rfl⟩
  repeat' (first | (apply T.mv; apply rfl; apply rfl) | (apply T.notB; apply rfl; apply rfl) | with_reducible refine Sr.nil ?_ | with_reducible refine S.seq ?_ | with_reducible refine S.reg ?_ | with_reducible refine S.skip ?_ | (apply S.condFV; apply rfl; (first | with_reducible rfl | decide)) | (with_reducible apply T.ofRet) | fail)
  refine T.call rfl rfl (copied_spec (v := v) (hRv _) (by omega)) ?_
  rintro _ _ ⟨ka, kc, rfl, rfl⟩
  repeat' (first | (apply T.mv; apply rfl; apply rfl) | (apply T.len; apply rfl; apply rfl) | (apply T.buildL; (iterate 3 apply rfl)) | (apply T.bsL; (iterate 5 apply rfl); intro nb) | (apply T.append; apply rfl; apply rfl; infer_instance; (first | rfl | (simp; done)); (first | rfl | (simp; done)); apply rfl; apply rfl; (constructor <;> omega); apply rfl; intro na nc) | (with_reducible apply T.ofRet) | fail)
  refine Sr.rowEq (ys := (v ++ [n91, n92]).flatMap ndV) (by rw [List.flatMap_append]; rfl) ?_
  generalize na = ka
  generalize nc = kc
  refine Sr.capR (ad := ka) inferInstance (fun hcap => ?_)
  repeat' (first | (apply T.mv; apply rfl; apply rfl) | (apply T.asn; apply rfl; apply rfl) | (apply T.sliceHK; apply rfl; apply rfl; omega; apply rfl) | with_reducible refine Sr.nil ?_ | with_reducible refine S.seq ?_ | with_reducible refine S.reg ?_ | fail)
  refine T.call rfl rfl (copiedTexts_spec (v := ts) (hRt _) (by omega)) ?_
  rintro _ _ ⟨la, lc, rfl, rfl⟩
  repeat' (first | (apply T.mv; apply rfl; apply rfl) | (apply T.len; apply rfl; apply rfl) | (apply T.bs; (iterate 6 apply rfl); intro nb) | (apply T.append; apply rfl; apply rfl; infer_instance; (first | rfl | (simp; done)); (first | rfl | (simp; done)); apply rfl; apply rfl; (constructor <;> omega); apply rfl; intro na nc) | (with_reducible apply T.ofRet) | fail)
  refine Sr.rowEq (ys := (ts ++ [[97], [98]]).map sV) (by rw [List.map_append]; rfl) ?_
  generalize na = ja
  generalize nc = jc
  refine Sr.capR (ad := ja) inferInstance (fun hcap2 => ?_)
  have i1 : ∀ {X : List Res}, Rd F [] (.row ka kc 34 6 (v.length + 2) ((v ++ [n91, n92]).flatMap ndV) :: X) ka (v.flatMap ndV) := fun {X} => by
   have h := Rd.takeF (g := ndV) (sz := 6) (Rd.row (F := F) (M := []) (H := X) (a := ka) (cp := kc) (E := 34) (sz := 6) (n := v.length + 2) (vs := (v ++ [n91, n92]).flatMap ndV)) (fun _ => rfl) v.length
   rwa [List.take_left] at h
  have j1 : ∀ {X : List Res}, Rd F [] (.row ja jc 9 1 (ts.length + 2) ((ts ++ [[97], [98]]).map sV) :: X) ja (ts.map sV) := fun {X} => Rd.left Rd.row
  have hk2 : ∀ n ∈ v, n.kids ≤ 9223372036854775807 := fun n hn => (hk n hn).2
  have hz := fun {X : List Res} {F : World} => reveal_spec (F := F) (M := []) (H := X) (v := v) (ts := ts) (va := ka) (vc := kc) (ta := ja) (tc := jc)
  have hzl := revealX_len (v := v) (ts := ts) hb (by omega)
  generalize hX : revealX Lib.validD readT v ts = z at hz hzl
  obtain ⟨z0, out⟩ := z
  have hol : out.length ≤ 1100000 := hzl
  repeat' (first | (apply T.mv; apply rfl; apply rfl) | (apply T.asn; apply rfl; apply rfl) | (apply T.sliceHK; apply rfl; apply rfl; omega; apply rfl) | with_reducible refine Sr.nil ?_ | with_reducible refine S.seq ?_ | with_reducible refine S.reg ?_ | fail)
  refine T.call rfl rfl (hz hT hS (Rd.tl (h := i1)) j1 hb hk2 (by omega) (by omega)) ?_
  rintro _ _ ⟨aa, ac, rfl, rfl⟩
  dsimp only
  repeat' (first | (apply T.mv; apply rfl; apply rfl) | (apply T.asn; apply rfl; apply rfl) | (apply T.extract; (iterate 3 apply rfl)) | with_reducible refine Sr.nil ?_ | with_reducible refine S.seq ?_ | with_reducible refine S.reg ?_ | (with_reducible apply T.ofRet) | fail)
  refine T.call rfl rfl (hz hT hS (Rd.tl (h := Rd.tl (h := i1))) (Rd.tl (h := j1)) hb hk2 (by omega) (by omega)) ?_
  rintro _ _ ⟨ba, bc, rfl, rfl⟩
  dsimp only
  repeat' (first | (apply T.mv; apply rfl; apply rfl) | (apply T.asn; apply rfl; apply rfl) | (apply T.extract; (iterate 3 apply rfl)) | with_reducible refine Sr.nil ?_ | with_reducible refine S.seq ?_ | with_reducible refine S.reg ?_ | (with_reducible apply T.ofRet) | fail)
  refine T.call rfl rfl (copied_spec (v := out) Rd.row (by omega)) ?_
  rintro _ _ ⟨wa, wc, rfl, rfl⟩
  repeat' (first | (apply T.asn; apply rfl; apply rfl) | with_reducible refine Sr.nil ?_ | with_reducible refine S.seq ?_ | with_reducible refine S.block ?_ | with_reducible refine S.reg ?_ | (with_reducible apply T.ofRet) | fail)
  refine S.frontR aa ?_
  refine S.loopE 1 [0, 1, 5, 6, 7, 8, 9, 10, 11] (fun R b' μ H' e => ∃ (i : Nat) (xs : List Nd), H' = .row aa ac 34 6 out.length (xs.flatMap ndV) :: R ∧ e = (12, .int .i64 i) :: b' ∧ (xs = List.replicate i n77 ++ out.drop i ∧ i ≤ out.length) ∧ μ = out.length - i) rfl rfl ?_ _ _ ⟨0, out, rfl, rfl, ⟨rfl, Nat.zero_le _⟩, rfl⟩ (by repeat' first | exact trivial | refine And.intro rfl ?_)
  rintro _ _ _ ⟨i, xs, rfl, rfl, ⟨hxs, hi⟩, rfl⟩ ih
  have hxl : xs.length = out.length := by rw [hxs, List.length_append, List.length_replicate, List.length_drop]; omega
  by_cases h1 : i < out.length
  ·have hset : xs.set i n77 = List.replicate (i + 1) n77 ++ out.drop (i + 1) := by
    rw [hxs, List.set_append_right _ _ (by rw [List.length_replicate]; exact Nat.le_refl _), List.length_replicate, Nat.sub_self, List.drop_eq_getElem_cons h1, List.set_cons_zero, List.replicate_succ', List.append_assoc]
    rfl
   repeat' (first | (apply Sr.same; refine T.storeFN (g := ndV) (xs := xs) n77 rfl rfl rfl inferInstance (fun _ => rfl) rfl (by omega) rfl ?_) | (apply T.mv; apply rfl; apply rfl) | (apply T.asn; apply rfl; apply rfl) | (apply T.len; apply rfl; apply rfl) | (apply T.lss; (iterate 3 apply rfl)) | (apply T.addI; apply rfl; apply rfl; omega; apply rfl) | (apply T.ixF; apply rfl; apply rfl; infer_instance; exact (fun _ => rfl); apply rfl; omega; omega; apply rfl) | (apply T.buildL; (iterate 3 apply rfl)) | with_reducible refine Sr.nil ?_ | with_reducible refine S.seq ?_ | with_reducible refine S.block ?_ | with_reducible refine S.reg ?_ | with_reducible refine S.skip ?_ | with_reducible refine S.inBlock ?_ | (apply S.condQ; apply rfl; all_goals (intro _; try (exfalso; first | omega | with_reducible contradiction))) | fail)
   rw [hset]
   exact ih _ _ _ _ ⟨i + 1, _, rfl, rfl, ⟨rfl, h1⟩, rfl⟩ (by omega) (by repeat' first | exact trivial | refine And.intro rfl ?_)
  ·obtain rfl : i = out.length := by omega
   rw [List.drop_length, List.append_nil] at hxs
   subst hxs
   clear ih
   repeat' (first | (apply T.mv; apply rfl; apply rfl) | (apply T.asn; apply rfl; apply rfl) | (apply T.len; apply rfl; apply rfl) | (apply T.lss; (iterate 3 apply rfl)) | with_reducible refine Sr.nil ?_ | with_reducible refine S.seq ?_ | with_reducible refine S.block ?_ | with_reducible refine S.reg ?_ | (apply S.exit; apply rfl) | (apply S.condQ; apply rfl; all_goals (intro _; try (exfalso; first | omega | with_reducible contradiction))) | fail)
   refine S.loopE 1 [0, 1, 5, 6, 7, 8, 9, 10, 11] (fun R b' μ H' e => ∃ (j : Nat) (ad : Option Addr) (cp : Nat) (X : List Res) (zs : List Nd), H' = .row ad cp 34 6 (out.length + j) (zs.flatMap ndV) :: (X ++ R) ∧ e = (13, .slice ad (out.length + j) cp) :: (14, .int .i64 j) :: b' ∧ zs = List.replicate out.length n77 ++ List.replicate j n78 ∧
    (ad = aa ∨ Rd F [] (X ++ R) aa ((List.replicate out.length n77).flatMap ndV)) ∧ j ≤ 70 ∧ μ = 70 - j) rfl rfl ?_ _ _ ⟨0, aa, ac, [], List.replicate out.length n77, rfl, rfl, by rw [List.replicate_zero, List.append_nil], .inl rfl, by omega, rfl⟩ (by repeat' first | exact trivial | refine And.intro rfl ?_)
   rintro _ _ _ ⟨j, ad, cp, X, zs, rfl, rfl, hzs, hor, hj, rfl⟩ ih
   have hzl' : zs.length = out.length + j := by rw [hzs, List.length_append, List.length_replicate, List.length_replicate]
   have htk : zs.take out.length = List.replicate out.length n77 := by
    rw [hzs, List.take_append_of_le_length (by simp), List.take_of_length_le (by simp)]
   have h4 : ∀ {m : Nat} {W : List Res}, Rd F [] (.row ad cp 34 6 m (zs.flatMap ndV) :: W) ad ((List.replicate out.length n77).flatMap ndV) := fun {m W} => by
    have h := Rd.takeF (g := ndV) (sz := 6) (Rd.row (F := F) (M := []) (H := W) (a := ad) (cp := cp) (E := 34) (sz := 6) (n := m) (vs := zs.flatMap ndV)) (fun _ => rfl) out.length
    rwa [htk] at h
   by_cases h2 : j < 70
   ·repeat' (first | (apply T.appendKF; (iterate 6 apply rfl); (constructor <;> omega); apply rfl; intro na nc Y hY) | (apply T.mv; apply rfl; apply rfl) | (apply T.asn; apply rfl; apply rfl) | (apply T.lss; (iterate 3 apply rfl)) | (apply T.addI; apply rfl; apply rfl; omega; apply rfl) | (apply T.buildL; (iterate 3 apply rfl)) | (apply T.bsL; (iterate 5 apply rfl); intro nb) | with_reducible refine Sr.nil ?_ | with_reducible refine S.seq ?_ | with_reducible refine S.block ?_ | with_reducible refine S.reg ?_ | with_reducible refine S.skip ?_ | with_reducible refine S.inBlock ?_ | (apply S.condQ; apply rfl; all_goals (intro _; try (exfalso; first | omega | with_reducible contradiction))) | fail)
    refine S.rowEq (ys := (zs ++ [n78]).flatMap ndV) (by rw [List.flatMap_append]; rfl) ?_
    have hz3 : zs ++ [n78] = List.replicate out.length n77 ++ List.replicate (j + 1) n78 := by rw [hzs, List.replicate_succ', List.append_assoc]
    rw [← List.append_assoc]
    refine ih _ _ _ _ ⟨j + 1, na, nc, Y ++ X, zs ++ [n78], rfl, rfl, hz3, ?_, by omega, rfl⟩ (by omega) (by repeat' first | exact trivial | refine And.intro rfl ?_)
    rcases hY with ⟨rfl, rfl⟩ | rfl
    ·exact hor
    ·right
     rcases hor with rfl | hor
     ·exact h4
     ·show Rd F [] (.row ad cp 34 6 (out.length + j) (zs.flatMap ndV) :: (X ++ _)) aa _
      exact Rd.tl
   ·obtain rfl : j = 70 := by omega
    clear ih
    have hRl : ∀ {Z : List Res}, Rd F [] (Z ++ (.row ad cp 34 6 (out.length + 70) (zs.flatMap ndV) :: (X ++ (noR wa wc out :: noR ba bc out :: .row ja jc 9 1 (ts.length + 2) ((ts ++ [[97], [98]]).map sV) :: .row ka kc 34 6 (v.length + 2) ((v ++ [n91, n92]).flatMap ndV) :: _)))) aa ((List.replicate out.length n77).flatMap ndV) := fun {Z} => by
     refine rd_app Z ?_
     rcases hor with rfl | hor
     ·exact h4
     ·exact Rd.tl (h := hor)
    clear hor htk h4
    repeat' (first | (apply T.mv; apply rfl; apply rfl) | (apply T.asn; apply rfl; apply rfl) | (apply T.lss; (iterate 3 apply rfl)) | with_reducible refine Sr.nil ?_ | with_reducible refine S.seq ?_ | with_reducible refine S.block ?_ | with_reducible refine S.reg ?_ | (apply S.exit; apply rfl) | (apply S.condFV; apply rfl; (first | with_reducible rfl | decide)) | fail)
    refine S.loopE 0 [0, 1, 5, 6, 7, 8, 9, 10, 11, 13] (fun R b' μ H' e => ∃ i : Nat, H' = R ∧ e = (15, .int .i64 i) :: b' ∧ i ≤ out.length + 70 ∧ μ = out.length + 70 - i) rfl rfl ?_ _ _ ⟨0, rfl, rfl, by omega, rfl⟩ (by repeat' first | exact trivial | refine And.intro rfl ?_)
    rintro _ _ _ ⟨i, hR1, rfl, hi, rfl⟩ ih
    have hR2 := hR1.symm
    subst hR2
    by_cases h6 : i < out.length + 70
    ·by_cases h7 : i < out.length
     ·have e7 : (zs.getD i default).kind = 77 := by
       rw [hzs, List.getD_eq_getElem?_getD, List.getElem?_append_left (by rw [List.length_replicate]; exact h7), List.getElem?_replicate, if_pos h7]
       rfl
      repeat' (first | (apply T.mv; apply rfl; apply rfl) | (apply T.asn; apply rfl; apply rfl) | (apply T.len; apply rfl; apply rfl) | (apply T.lss; (iterate 3 apply rfl)) | (apply T.geq; (iterate 3 apply rfl)) | (apply T.neq; (iterate 3 apply rfl)) | (apply T.addI; apply rfl; apply rfl; omega; apply rfl) | (apply T.ixF; apply rfl; apply rfl; infer_instance; exact (fun _ => rfl); apply rfl; omega; omega; apply rfl) | (apply T.fieldAddrF; apply rfl; infer_instance; exact (fun _ => rfl); apply rfl; omega; apply rfl) | (apply T.loadF; apply rfl; apply rfl; infer_instance; exact (fun _ => rfl); apply rfl; exact getD_some (by omega); apply rfl; apply rfl) | (apply T.pickT; (iterate 3 apply rfl)) | (apply T.pickF; (iterate 3 apply rfl)) | with_reducible refine Sr.nil ?_ | with_reducible refine S.seq ?_ | with_reducible refine S.block ?_ | with_reducible refine S.reg ?_ | with_reducible refine S.skip ?_ | with_reducible refine S.inBlock ?_ | (apply T.ungV; apply rfl; (first | with_reducible rfl | decide)) | (apply T.skip; apply rfl; (first | with_reducible rfl | decide); apply rfl) | (apply S.condFV; apply rfl; (first | with_reducible rfl | decide)) | (apply S.condQ; apply rfl; all_goals (intro _; try (exfalso; first | omega | with_reducible contradiction))) | (apply T.gcase; apply rfl; apply rfl; all_goals (intro _; try (exfalso; first | omega | with_reducible contradiction))) | fail)
      exact ih _ _ _ _ ⟨i + 1, rfl, rfl, by omega, rfl⟩ (by omega) (by repeat' first | exact trivial | refine And.intro rfl ?_)
     ·have e8 : (zs.getD i default).kind = 78 := by
       rw [hzs, List.getD_eq_getElem?_getD, List.getElem?_append_right (by rw [List.length_replicate]; omega), List.getElem?_replicate, if_pos (by rw [List.length_replicate]; omega)]
       rfl
      repeat' (first | (apply T.mv; apply rfl; apply rfl) | (apply T.asn; apply rfl; apply rfl) | (apply T.len; apply rfl; apply rfl) | (apply T.lss; (iterate 3 apply rfl)) | (apply T.geq; (iterate 3 apply rfl)) | (apply T.neq; (iterate 3 apply rfl)) | (apply T.addI; apply rfl; apply rfl; omega; apply rfl) | (apply T.ixF; apply rfl; apply rfl; infer_instance; exact (fun _ => rfl); apply rfl; omega; omega; apply rfl) | (apply T.fieldAddrF; apply rfl; infer_instance; exact (fun _ => rfl); apply rfl; omega; apply rfl) | (apply T.loadF; apply rfl; apply rfl; infer_instance; exact (fun _ => rfl); apply rfl; exact getD_some (by omega); apply rfl; apply rfl) | (apply T.pickT; (iterate 3 apply rfl)) | (apply T.pickF; (iterate 3 apply rfl)) | with_reducible refine Sr.nil ?_ | with_reducible refine S.seq ?_ | with_reducible refine S.block ?_ | with_reducible refine S.reg ?_ | with_reducible refine S.skip ?_ | with_reducible refine S.inBlock ?_ | (apply T.ungV; apply rfl; (first | with_reducible rfl | decide)) | (apply T.skip; apply rfl; (first | with_reducible rfl | decide); apply rfl) | (apply S.condQ; apply rfl; all_goals (intro _; try (exfalso; first | omega | with_reducible contradiction))) | (apply T.gcase; apply rfl; apply rfl; all_goals (intro _; try (exfalso; first | omega | with_reducible contradiction))) | fail)
      exact ih _ _ _ _ ⟨i + 1, rfl, rfl, by omega, rfl⟩ (by omega) (by repeat' first | exact trivial | refine And.intro rfl ?_)
    ·clear ih
     repeat' (first | (apply T.mv; apply rfl; apply rfl) | (apply T.len; apply rfl; apply rfl) | (apply T.lss; (iterate 3 apply rfl)) | with_reducible refine Sr.nil ?_ | with_reducible refine S.seq ?_ | with_reducible refine S.reg ?_ | (apply S.exit; apply rfl) | (apply S.condQ; apply rfl; all_goals (intro _; try (exfalso; first | omega | with_reducible contradiction))) | fail)
     refine T.call rfl rfl (sameNodes_spec (a := out) (b := out) (Rd.tl (h := rd_app X (Rd.tl (h := Rd.row)))) (Rd.tl (h := rd_app X Rd.row)) (by omega) (by omega)) ?_
     rintro _ _ ⟨rfl, hH⟩
     have hH2 := hH.symm
     subst hH2
     rw [ndsEq_self]
     repeat' (first | (apply T.mv; apply rfl; apply rfl) | (apply T.notB; apply rfl; apply rfl) | with_reducible refine Sr.nil ?_ | with_reducible refine S.seq ?_ | with_reducible refine S.reg ?_ | with_reducible refine S.skip ?_ | (apply S.condFV; apply rfl; (first | with_reducible rfl | decide)) | (with_reducible apply T.ofRet) | fail)
     refine T.call rfl rfl (hz hT hS (Rd.tl (h := rd_app X (Rd.tl (h := Rd.tl (h := Rd.tl (h := i1)))))) (Rd.tl (h := rd_app X (Rd.tl (h := Rd.tl (h := j1))))) hb hk2 (by omega) (by omega)) ?_
     rintro _ _ ⟨ca, cc, rfl, hH⟩
     subst hH
     dsimp only
     repeat' (first | (apply T.mv; apply rfl; apply rfl) | (apply T.asn; apply rfl; apply rfl) | (apply T.extract; (iterate 3 apply rfl)) | with_reducible refine Sr.nil ?_ | with_reducible refine S.seq ?_ | with_reducible refine S.block ?_ | with_reducible refine S.reg ?_ | (with_reducible apply T.ofRet) | fail)
     have hRc := hRl (Z := [noR ca cc out])
     rw [List.cons_append, List.nil_append] at hRc
     have hrl : (List.replicate out.length n77).length = out.length := List.length_replicate ..
     refine S.loopE 0 [0, 1, 5, 6, 7, 8, 9, 10, 11, 16, 17] (fun R b' μ H' e => ∃ i : Nat, H' = R ∧ e = (18, .int .i64 i) :: b' ∧ i ≤ out.length ∧ μ = out.length - i) rfl rfl ?_ _ _ ⟨0, rfl, rfl, by omega, rfl⟩ (by repeat' first | exact trivial | refine And.intro rfl ?_)
     rintro _ _ _ ⟨i, hR1, rfl, hi, rfl⟩ ih
     have hR2 := hR1.symm
     subst hR2
     by_cases h8 : i < out.length
     ·have e7 : ((List.replicate out.length n77).getD i default).kind = 77 := by
       rw [List.getD_eq_getElem?_getD, List.getElem?_replicate, if_pos h8]
       rfl
      repeat' (first | (apply Sr.same; refine T.ixF (g := ndV) (sz := 6) (i := i) (xs := List.replicate out.length n77) rfl rfl hRc (fun _ => rfl) rfl (by omega) (by omega) rfl ?_) | (apply Sr.same; refine T.loadF (g := ndV) (xs := List.replicate out.length n77) rfl rfl hRc (fun _ => rfl) rfl (getD_some (by omega)) rfl rfl ?_) | (apply T.mv; apply rfl; apply rfl) | (apply T.asn; apply rfl; apply rfl) | (apply T.len; apply rfl; apply rfl) | (apply T.lss; (iterate 3 apply rfl)) | (apply T.neq; (iterate 3 apply rfl)) | (apply T.addI; apply rfl; apply rfl; omega; apply rfl) | (apply T.fieldAddrF; apply rfl; infer_instance; exact (fun _ => rfl); apply rfl; omega; apply rfl) | with_reducible refine Sr.nil ?_ | with_reducible refine S.seq ?_ | with_reducible refine S.block ?_ | with_reducible refine S.reg ?_ | with_reducible refine S.skip ?_ | with_reducible refine S.inBlock ?_ | (apply S.condQ; apply rfl; all_goals (intro _; try (exfalso; first | omega | with_reducible contradiction))) | fail)
      exact ih _ _ _ _ ⟨i + 1, rfl, rfl, by omega, rfl⟩ (by omega) (by repeat' first | exact trivial | refine And.intro rfl ?_)
     ·clear ih
      repeat' (first | (apply T.mv; apply rfl; apply rfl) | (apply T.asn; apply rfl; apply rfl) | (apply T.len; apply rfl; apply rfl) | (apply T.lss; (iterate 3 apply rfl)) | (apply T.addI; apply rfl; apply rfl; omega; apply rfl) | (apply T.sliceHK; apply rfl; apply rfl; omega; apply rfl) | with_reducible refine Sr.nil ?_ | with_reducible refine S.seq ?_ | with_reducible refine S.reg ?_ | (apply S.exit; apply rfl) | (apply S.condQ; apply rfl; all_goals (intro _; try (exfalso; first | omega | with_reducible contradiction))) | fail)
      dsimp only [List.append]
      repeat' (first | (apply T.mv; apply rfl; apply rfl) | (apply T.eql; (iterate 3 apply rfl)) | (apply T.pickT; (iterate 3 apply rfl)) | (apply T.ungV; apply rfl; (first | with_reducible rfl | decide)) | (apply T.gcase; apply rfl; apply rfl; all_goals (intro _; try (exfalso; first | omega | with_reducible contradiction))) | fail)
      refine T.call rfl rfl (sameNodes_spec (a := out) (b := out) (Rd.tl (h := Rd.tl (h := rd_app X (Rd.tl (h := Rd.row))))) (Rd.tl (h := Rd.tl (h := rd_app X Rd.row))) (by omega) (by omega)) ?_
      rintro _ _ ⟨rfl, hH⟩
      have hH2 := hH.symm
      subst hH2
      rw [ndsEq_self]
      repeat' (first | (apply T.mv; apply rfl; apply rfl) | (apply T.pickT; (iterate 3 apply rfl)) | (apply T.ungV; apply rfl; (first | with_reducible rfl | decide)) | (with_reducible apply T.ofRet) | fail)
      refine T.call rfl rfl (sameNodes_spec (a := out) (b := out) Rd.row (Rd.tl (h := Rd.tl (h := rd_app X Rd.row))) (by omega) (by omega)) ?_
      rintro _ _ ⟨rfl, hH⟩
      have hH2 := hH.symm
      subst hH2
      rw [ndsEq_self]
      repeat' (first | (apply T.mv; apply rfl; apply rfl) | (apply T.pickT; (iterate 3 apply rfl)) | (apply T.ungV; apply rfl; (first | with_reducible rfl | decide)) | (with_reducible apply T.ofRet) | fail)
      refine T.call rfl rfl (sameNodes_spec (a := v) (b := v) (Rd.tl (h := Rd.tl (h := rd_app X (Rd.tl (h := Rd.tl (h := Rd.tl (h := i1))))))) (hRv _) (by omega) (by omega)) ?_
      rintro _ _ ⟨rfl, hH⟩
      have hH2 := hH.symm
      subst hH2
      rw [ndsEq_self]
      repeat' (first | (apply T.mv; apply rfl; apply rfl) | (apply T.pickT; (iterate 3 apply rfl)) | (apply T.ungV; apply rfl; (first | with_reducible rfl | decide)) | (with_reducible apply T.ofRet) | fail)
      refine T.call rfl rfl (sameTexts_self (a := ts) (Rd.tl (h := Rd.tl (h := rd_app X (Rd.tl (h := Rd.tl (h := j1)))))) (hRt _) (by omega)) ?_
      rintro _ _ ⟨rfl, hH⟩
      have hH2 := hH.symm
      subst hH2
      repeat' (first | (apply T.mv; apply rfl; apply rfl) | (apply T.len; apply rfl; apply rfl) | (apply T.pickT; (iterate 3 apply rfl)) | (apply T.ungV; apply rfl; (first | with_reducible rfl | decide)) | (with_reducible apply T.ofRet) | fail)
      have hvl2 : (v ++ [n91, n92]).length = v.length + 2 := by simp
      have htl2 : (ts ++ [[97], [98]]).length = ts.length + 2 := by simp
      have g91 : (v ++ [n91, n92])[v.length]? = some n91 := by simp
      have g92 : (v ++ [n91, n92])[v.length + 1]? = some n92 := by simp
      repeat' (first | (apply Sr.same; refine T.ixF (g := ndV) (sz := 6) (i := v.length) (xs := v ++ [n91, n92]) rfl rfl (Rd.tl (h := Rd.tl (h := rd_app X (Rd.tl (h := Rd.tl (h := Rd.tl (h := Rd.row))))))) (fun _ => rfl) rfl (by omega) (by omega) rfl ?_) | (apply Sr.same; refine T.loadF (g := ndV) (i := v.length) (xs := v ++ [n91, n92]) (a := n91) rfl rfl (Rd.tl (h := Rd.tl (h := rd_app X (Rd.tl (h := Rd.tl (h := Rd.tl (h := Rd.row))))))) (fun _ => rfl) rfl g91 rfl rfl ?_) | (apply Sr.same; refine T.ixF (g := ndV) (sz := 6) (i := v.length + 1) (xs := v ++ [n91, n92]) rfl rfl (Rd.tl (h := Rd.tl (h := rd_app X (Rd.tl (h := Rd.tl (h := Rd.tl (h := Rd.row))))))) (fun _ => rfl) rfl (by omega) (by omega) rfl ?_) | (apply Sr.same; refine T.loadF (g := ndV) (i := v.length + 1) (xs := v ++ [n91, n92]) (a := n92) rfl rfl (Rd.tl (h := Rd.tl (h := rd_app X (Rd.tl (h := Rd.tl (h := Rd.tl (h := Rd.row))))))) (fun _ => rfl) rfl g92 rfl rfl ?_) | (apply Sr.same; refine T.fieldAddrF (g := ndV) (i := v.length) (xs := v ++ [n91, n92]) rfl (Rd.tl (h := Rd.tl (h := rd_app X (Rd.tl (h := Rd.tl (h := Rd.tl (h := Rd.row))))))) (fun _ => rfl) rfl (by omega) rfl ?_) | (apply Sr.same; refine T.fieldAddrF (g := ndV) (i := v.length + 1) (xs := v ++ [n91, n92]) rfl (Rd.tl (h := Rd.tl (h := rd_app X (Rd.tl (h := Rd.tl (h := Rd.tl (h := Rd.row))))))) (fun _ => rfl) rfl (by omega) rfl ?_) | (apply Sr.same; refine T.ixK (i := ts.length) (vs := (ts ++ [[97], [98]]).map sV) rfl rfl (Rd.tl (h := Rd.tl (h := rd_app X (Rd.tl (h := Rd.tl (h := Rd.row)))))) (by omega) (by rw [List.length_map]; omega) rfl ?_) | (apply Sr.same; refine T.loadE (j := ts.length) (vs := (ts ++ [[97], [98]]).map sV) (v := sV [97]) rfl rfl (Rd.tl (h := Rd.tl (h := rd_app X (Rd.tl (h := Rd.tl (h := Rd.row)))))) (by simp) rfl ?_) | (apply Sr.same; refine T.ixK (i := ts.length + 1) (vs := (ts ++ [[97], [98]]).map sV) rfl rfl (Rd.tl (h := Rd.tl (h := rd_app X (Rd.tl (h := Rd.tl (h := Rd.row)))))) (by omega) (by rw [List.length_map]; omega) rfl ?_) | (apply Sr.same; refine T.loadE (j := ts.length + 1) (vs := (ts ++ [[97], [98]]).map sV) (v := sV [98]) rfl rfl (Rd.tl (h := Rd.tl (h := rd_app X (Rd.tl (h := Rd.tl (h := Rd.row)))))) (by simp) rfl ?_) | (apply T.seql; (iterate 3 apply rfl)) | (apply T.mv; apply rfl; apply rfl) | (apply T.asn; apply rfl; apply rfl) | (apply T.len; apply rfl; apply rfl) | (apply T.eql; (iterate 3 apply rfl)) | (apply T.addI; apply rfl; apply rfl; omega; apply rfl) | (apply T.pickT; (iterate 3 apply rfl)) | with_reducible refine Sr.nil ?_ | (apply T.ungV; apply rfl; (first | with_reducible rfl | decide)) | (apply T.retW; apply rfl) | fail)
      exact ⟨_, PSub.refl _, by rfl⟩
end
end Go.Proofs.YtjajcmedipjfhaaGreatDoor
/- Slices of nodes handed in, opened: their texts are no longer than what is read. -/
namespace Go.Proofs.YtjajcmedipjfhaaGreatDoor
open Sg Go Go.ChangeShapes Go.WideShapes Go.RowKit
set_option maxRecDepth 100000
def NdQ {H : Type} (n : Nd) (d : DataW H) : Prop := n.text.length + n.key.length + 1 ≤ Rows.uptoBulk d ∧ -9223372036854775808 ≤ n.kids ∧ n.kids ≤ 9223372036854775807
theorem cut_at {cs : List Value} {i : Nat} {v : Value} (h : (cs.drop i).take 1 = [v]) : cs[i]? = some v := by
 have := congrArg (fun l => l[0]?) h
 simpa [List.getElem?_take, List.getElem?_drop] using this
theorem nd_read {H : Type} {enc : TypeId × Value → H} {W : World} {fuel : Nat} {cs : List Value} {x : DataW H × List MemPlace} (h : DataW.trod enc Tryz.prog W 0 (fun _ => true) true fuel 34 cs = some x) : ∃ a : Nd, cs = ndV a ∧ NdQ a x.1 := by
 obtain ⟨xs, n, rfl, rfl, hl, hlen, hf⟩ := DataW.trod_struct Tryz.underlying34 h
 match xs, hlen with
 | [y0, y1, y2, y3, y4, y5], _ =>
  have h0 := hf 0 _ rfl
  have h1 := hf 1 _ rfl
  have h2 := hf 2 _ rfl
  have h3 := hf 3 _ rfl
  have h4 := hf 4 _ rfl
  have h5 := hf 5 _ rfl
  dsimp only [List.getElem?_cons_zero, List.getElem?_cons_succ] at h0 h1 h2 h3 h4 h5
  obtain ⟨z0, a0, b0, w0⟩ := DataW.trod_int Tryz.underlying32 h0
  obtain ⟨s1, a1, b1, -⟩ := DataW.trod_string Tryz.underlying9 h1
  obtain ⟨s2, a2, b2, -⟩ := DataW.trod_string Tryz.underlying9 h2
  obtain ⟨t3, a3, b3⟩ := DataW.trod_bool Tryz.underlying4 h3
  obtain ⟨z4, a4, b4, w4⟩ := DataW.trod_int Tryz.underlying2 h4
  obtain ⟨z5, a5, b5, w5⟩ := DataW.trod_int Tryz.underlying3 h5
  have c0 : Tryz.prog.cellsOf 32 = 1 := by kernel_rfl
  have c1 : Tryz.prog.cellsOf 9 = 1 := by kernel_rfl
  have c3 : Tryz.prog.cellsOf 4 = 1 := by kernel_rfl
  have c4 : Tryz.prog.cellsOf 2 = 1 := by kernel_rfl
  have c5 : Tryz.prog.cellsOf 3 = 1 := by kernel_rfl
  have c6 : Tryz.prog.cellsOf 34 = 6 := by kernel_rfl
  rw [c6] at hl
  have q0 : (cs.drop 0).take (Tryz.prog.cellsOf 32) = _ := a0
  rw [c0] at q0
  have q1 : (cs.drop 1).take (Tryz.prog.cellsOf 9) = _ := a1
  rw [c1] at q1
  have q2 : (cs.drop 2).take (Tryz.prog.cellsOf 9) = _ := a2
  rw [c1] at q2
  have q3 : (cs.drop 3).take (Tryz.prog.cellsOf 4) = _ := a3
  rw [c3] at q3
  have q4 : (cs.drop 4).take (Tryz.prog.cellsOf 2) = _ := a4
  rw [c4] at q4
  have q5 : (cs.drop 5).take (Tryz.prog.cellsOf 3) = _ := a5
  rw [c5] at q5
  have e0 := cut_at q0
  have e1 := cut_at q1
  have e2 := cut_at q2
  have e3 := cut_at q3
  have e4 := cut_at q4
  have e5 := cut_at q5
  refine ⟨⟨z0, s1.data.toList, s2.data.toList, t3, z4, z5⟩, ?_, ?_, ?_⟩
  ·match cs, hl with
   | [v0, v1, v2, v3, v4, v5], _ =>
    simp only [List.getElem?_cons_zero, List.getElem?_cons_succ, Option.some.injEq] at e0 e1 e2 e3 e4 e5
    subst e0 e1 e2 e3 e4 e5
    rfl
  ·show s2.data.toList.length + s1.data.toList.length + 1 ≤ _
   subst b0 b1 b2 b3 b4 b5
   simp only [List.map_cons, List.map_nil, Rows.uptoBulk, Rows.uptoBulkAll]
   omega
  ·show -9223372036854775808 ≤ z5 ∧ z5 ≤ 9223372036854775807
   simp only [Lit.wf, Bool.and_eq_true, decide_eq_true_eq] at w5
   exact w5
theorem bulk_mem {H : Type} {y : DataW H} : ∀ {l : List (DataW H)}, y ∈ l → Rows.uptoBulk y ≤ Rows.uptoBulkAll l
 | [], h => by cases h
 | d :: r, h => by
  rw [Rows.uptoBulkAll]
  rcases List.mem_cons.1 h with rfl | h
  ·omega
  ·have := bulk_mem h
   omega
theorem bulk_txt {H : Type} : ∀ ts : List (List UInt8), Rows.uptoBulkAll (ts.map fun s => (DataW.lit (.string s) : DataW H)) = (ts.map List.length).sum + ts.length
 | [] => rfl
 | s :: r => by
  rw [List.map_cons, Rows.uptoBulkAll, bulk_txt r, Rows.uptoBulk, List.map_cons, List.sum_cons, List.length_cons]
  omega
theorem open_two {H : Type} {enc : TypeId × Value → H} {W : World} {base : Nat} {v0 v1 : Value} {d0 d1 : DataW H} {p0 p1 : List MemPlace} (w0 : Value.okWide Tryz.prog W .any base 22 v0) (w1 : Value.okWide Tryz.prog W .any base 23 v1) (h0 : DataW.Trod enc Tryz.prog W 0 (fun _ => true) true 22 v0 d0 p0) (h1 : DataW.Trod enc Tryz.prog W 0 (fun _ => true) true 23 v1 d1 p1) (hk : Rows.uptoBulkAll [d0, d1] ≤ 1048576) :
  ∃ (va : Option Addr) (vc : Nat) (v : List Nd) (ta : Option Addr) (tc : Nat) (ts : List (List UInt8)), v0 = .slice va v.length vc ∧ v1 = .slice ta ts.length tc ∧ (∀ X, Rd W [] X va (v.flatMap ndV)) ∧ (∀ X, Rd W [] X ta (ts.map sV)) ∧ AllB v ∧ (∀ n ∈ v, -9223372036854775808 ≤ n.kids ∧ n.kids ≤ 9223372036854775807) ∧ v.length + (ts.map List.length).sum ≤ 1048576 ∧ ts.length ≤ 1048576 := by
 obtain ⟨va, vc, v, rfl, -, hd, hRv⟩ := open_slice_recsQ (g := ndV) (sz := 6) (Q := NdQ) (fun _ => rfl) (by decide) nd_read Tryz.underlying22 (by kernel_rfl) w0 h0
 obtain ⟨ta, tc, ts, rfl, hd2, hRt⟩ := open_slice_texts Tryz.underlying23 Tryz.underlying9 (by kernel_rfl) w1 h1
 simp only [Rows.uptoBulkAll] at hk
 have hb2 : (ts.map List.length).sum + ts.length ≤ Rows.uptoBulk d1 := by
  rcases hd2 with rfl | ⟨sp, rfl⟩
  ·exact Nat.zero_le _
  ·rw [Rows.uptoBulk, bulk_txt]
   omega
 have hb1 : v.length ≤ Rows.uptoBulk d0 ∧ ∀ n ∈ v, n.text.length + n.key.length ≤ Rows.uptoBulk d0 ∧ -9223372036854775808 ≤ n.kids ∧ n.kids ≤ 9223372036854775807 := by
  rcases hd with rfl | ⟨el, sp, rfl, e1, e2⟩
  ·exact ⟨Nat.zero_le _, fun n hn => by cases hn⟩
  ·have h3 := bulk_all el
   rw [Rows.uptoBulk]
   refine ⟨by omega, fun n hn => ?_⟩
   obtain ⟨i, hi, rfl⟩ := List.mem_iff_getElem.1 hn
   obtain ⟨y, h4, h5, h6⟩ := e2 i _ (List.getElem?_eq_getElem hi)
   have h7 := bulk_mem (List.mem_of_getElem? h4)
   exact ⟨by omega, h6⟩
 refine ⟨va, vc, v, ta, tc, ts, rfl, rfl, hRv, hRt, fun n hn => ?_, fun n hn => (hb1.2 n hn).2, by omega, by omega⟩
 have h8 := (hb1.2 n hn).1
 exact ⟨by omega, by omega⟩
end Go.Proofs.YtjajcmedipjfhaaGreatDoor
/- From a walk of a law to its row, the world's shape handed on. -/
namespace Sg
open Go Go.ChangeShapes Go.WideShapes Go.RowKit
section
variable {H : Type} {enc : TypeId × Value → H}
end
theorem laid_words {P : Program} {W : World} {nm : String} {g T E n : Nat} {ns : List UInt32} {cs : Array Value} {fuel : Nat} {p : List MemPlace} {sp : Nat → Bool} (hg : P.globalNamed nm = some g) (hT : P.underlying T = some (.array n E)) (hE : P.underlying E = some (.int .u32)) (hc : P.cellsOf E = 1)
  (hv : W.var? P nm = some cs) (hd : DataW.trod (fun _ => ()) P W 0 sp false fuel T cs.toList = some (.agg (ns.map fun z => .lit (.int .u32 (z.toNat : Int))), p)) (H : List Res) : Rd W [] H (some ⟨g, 0, none⟩) (ns.map fun z => .int .u32 ((z.toNat : Nat) : Int)) := by
 have hm : (ns.map fun z => (DataW.lit (.int .u32 (z.toNat : Int)) : DataW Unit)) = (ns.map fun z => (z.toNat : Int)).map fun z => .lit (.int .u32 z) := by rw [List.map_map]; rfl
 rw [hm] at hd
 have h1 := laid_ints (k := .u32) (ns := ns.map fun z => (z.toNat : Int)) hg hT hE hc hv hd
 refine .ofF fun j u hu => ⟨_, rfl, ?_⟩
 rw [addr_add, Nat.zero_add]
 rw [List.getElem?_map] at hu
 cases hn : ns[j]? with
 | none => rw [hn] at hu; cases hu
 | some z =>
  rw [hn] at hu
  simp only [Option.map_some, Option.some.injEq] at hu
  subst hu
  exact h1 j _ (by rw [List.getElem?_map, hn]; rfl)
theorem laid_find {P : Program} {W : World} {nm : String} {d : DataW Unit} : ∀ {l : List (String × DataW Unit)} {ps : List MemPlace}, DataW.LaidVars P W l ps → (nm, d) ∈ l →
  ∃ g t cs fuel p, P.globalNamed nm = some g ∧ (P.globals[g]?).map (·.type) = some t ∧ W.var? P nm = some cs ∧ DataW.trod (fun _ => ()) P W 0 (fun _ => true) false fuel t cs.toList = some (d, p)
 | [], _, _, hm => by cases hm
 | (n, e) :: r, ps, h, hm => by
  obtain ⟨g, t, cs, fuel, p, q, h1, h2, h3, h4, h5, -⟩ := h
  rcases List.mem_cons.1 hm with hm | hm
  ·simp only [Prod.mk.injEq] at hm
   obtain ⟨rfl, rfl⟩ := hm
   exact ⟨g, t, cs, fuel, p, h1, h2, h3, h4⟩
  ·exact laid_find h5 hm
theorem laid_rd {P : Program} {W : World} {nm : String} {d : DataW Unit} {l : List (String × DataW Unit)} {g T E n : Nat} {ns : List UInt32} (h : laidMet P l W) (hm : (nm, d) ∈ l) (hg : P.globalNamed nm = some g) (ht : (P.globals[g]?).map (·.type) = some T) (hT : P.underlying T = some (.array n E)) (hE : P.underlying E = some (.int .u32)) (hc : P.cellsOf E = 1)
  (hd : d = .agg (ns.map fun z => .lit (.int .u32 (z.toNat : Int)))) (H : List Res) : Rd W [] H (some ⟨g, 0, none⟩) (ns.map fun z => .int .u32 ((z.toNat : Nat) : Int)) := by
 obtain ⟨ps, hl, -, -⟩ := h
 obtain ⟨g', t', cs, fuel, p, h1, h2, h3, h4⟩ := laid_find hl hm
 obtain rfl := Option.some.inj (hg.symm.trans h1)
 obtain rfl := Option.some.inj (ht.symm.trans h2)
 subst hd
 exact laid_words hg hT hE hc h3 h4 H
end Sg
/- The tables that the laws' worlds hold, from what the cards list. -/
namespace Go.Proofs.YtjajcmedipjfhaaGreatDoor
open Sg Go Go.ChangeShapes Go.WideShapes Go.RowKit Go.Lib
set_option maxRecDepth 100000
theorem own : ownKnob Tryz.prog.godebug = none := by kernel_rfl
theorem laidOut : laidOutB Tryz.prog = true := by kernel_rfl
theorem n_first : Tryz.prog.globalNamed "unicode/utf8.first" = some 0 := by kernel_rfl
theorem n_acc : Tryz.prog.globalNamed "unicode/utf8.acceptRanges" = some 1 := by kernel_rfl
theorem c_u8 : Tryz.prog.cellsOf 5 = 1 := by kernel_rfl
theorem t_first : (Tryz.prog.globals[0]?).map (·.type) = some 120 := by kernel_rfl
theorem t_acc : (Tryz.prog.globals[1]?).map (·.type) = some 123 := by kernel_rfl
theorem first_nums : Rows.laid_unicode_utf8_first = .agg (((List.range 256).map fun c => ((firstT c : Nat) : Int)).map fun z => .lit (.int .u8 z)) := by kernel_rfl
theorem acc_pairs : (Rows.laid_unicode_utf8_acceptRanges : DataW Unit) = .agg ((List.range 16).map fun i => .agg [.lit (.int .u8 (accLo i : Nat)), .lit (.int .u8 (accHi i : Nat))]) := by kernel_rfl
theorem laid_pairs {P : Program} {W : World} {nm : String} {g T E f0 n : Nat} {ps : List (Int × Int)} {cs : Array Value} {fuel : Nat} {p : List MemPlace} {sp : Nat → Bool} {fa fb : Field} (hg : P.globalNamed nm = some g) (hT : P.underlying T = some (.array n E)) (hE : P.underlying E = some (.struct #[fa, fb])) (hc : P.cellsOf E = 2)
  (ha : fa.type = f0 ∧ fa.offset = 0) (hb : fb.type = f0 ∧ fb.offset = 1) (h0 : P.underlying f0 = some (.int .u8)) (hc0 : P.cellsOf f0 = 1)
  (hv : W.var? P nm = some cs) (hd : DataW.trod (fun _ => ()) P W 0 sp false fuel T cs.toList = some (.agg (ps.map fun z => .agg [.lit (.int .u8 z.1), .lit (.int .u8 z.2)]), p)) :
  ∀ j z, ps[j]? = some z → W.cell? ⟨g, 2 * j, none⟩ = some (.int .u8 z.1) ∧ W.cell? ⟨g, 2 * j + 1, none⟩ = some (.int .u8 z.2) := by
 intro j z hz
 obtain ⟨xs, m, rfl, hx, hlen, hn, hel⟩ := DataW.trod_array hT hd
 simp only [Prod.mk.injEq, DataW.agg.injEq] at hx
 have hj : j < ps.length := (List.getElem?_eq_some_iff.1 hz).1
 have hxl : xs.length = ps.length := by
  have := congrArg List.length hx.1
  simpa using this.symm
 have h1 := hel j (by omega)
 rw [hc, List.getElem?_eq_getElem (by omega)] at h1
 obtain ⟨y0, y1, m', e1, e2, e3, e4⟩ := Go.ChangeShapes.trod_struct2 hE h1
 rw [ha.1, ha.2, hc0, List.drop_zero] at e3
 rw [hb.1, hb.2, hc0] at e4
 obtain ⟨z0, k1, k2, -⟩ := DataW.trod_int h0 e3
 obtain ⟨z1, k3, k4, -⟩ := DataW.trod_int h0 e4
 have h2 : (xs.map (·.1))[j]? = (ps.map fun z => (DataW.agg [.lit (.int .u8 z.1), .lit (.int .u8 z.2)] : DataW Unit))[j]? := by rw [hx.1]
 rw [List.getElem?_map, List.getElem?_map, hz, List.getElem?_eq_getElem (by omega), e1] at h2
 simp only [Option.map_some, Option.some.injEq, DataW.agg.injEq, List.cons.injEq, and_true, k2, k4, DataW.lit.injEq, Lit.int.injEq, true_and] at h2
 obtain ⟨rfl, rfl⟩ := h2
 have q0 : cs[2 * j]? = some (.int .u8 z.1) := by
  have h4 : (((cs.toList.drop (j * 2)).take 2).take 1)[0]? = some (.int .u8 z.1) := by rw [k1]; rfl
  rw [List.getElem?_take_of_lt (by omega), List.getElem?_take_of_lt (by omega), List.getElem?_drop] at h4
  simpa [Nat.mul_comm] using h4
 have q1 : cs[2 * j + 1]? = some (.int .u8 z.2) := by
  have h4 : ((((cs.toList.drop (j * 2)).take 2).drop 1).take 1)[0]? = some (.int .u8 z.2) := by rw [k3]; rfl
  rw [List.getElem?_take_of_lt (by omega), List.getElem?_drop, List.getElem?_take_of_lt (by omega), List.getElem?_drop] at h4
  simpa [Nat.mul_comm, Nat.add_comm] using h4
 exact ⟨by rw [World.var?_cell hg hv]; exact q0, by rw [World.var?_cell hg hv]; exact q1⟩
theorem tabs_of {W : World} {ls : List (String × DataW Unit)} (h : laidMet Tryz.prog ls W) (m1 : ("unicode/utf8.first", Rows.laid_unicode_utf8_first) ∈ ls) (m2 : ("unicode/utf8.acceptRanges", Rows.laid_unicode_utf8_acceptRanges) ∈ ls) : Tabs W [] := by
 obtain ⟨ps, hl, -, -⟩ := h
 constructor
 ·intro H
  obtain ⟨g', t', cs, fuel, p, h1, h2, h3, h4⟩ := laid_find hl m1
  obtain rfl := Option.some.inj (n_first.symm.trans h1)
  obtain rfl := Option.some.inj (t_first.symm.trans h2)
  rw [first_nums] at h4
  have h5 := laid_ints (k := .u8) n_first Tryz.underlying120 Tryz.underlying5 c_u8 h3 h4
  refine .ofF fun j u hu => ⟨_, rfl, ?_⟩
  rw [addr_add, Nat.zero_add]
  unfold firstL at hu
  rw [List.getElem?_map] at hu
  cases hn : (List.range 256)[j]? with
  | none => rw [hn] at hu; cases hu
  | some c =>
   rw [hn] at hu
   simp only [Option.map_some, Option.some.injEq] at hu
   subst hu
   exact h5 j _ (by rw [List.getElem?_map, hn]; rfl)
 ·intro H
  obtain ⟨g', t', cs, fuel, p, h1, h2, h3, h4⟩ := laid_find hl m2
  obtain rfl := Option.some.inj (n_acc.symm.trans h1)
  obtain rfl := Option.some.inj (t_acc.symm.trans h2)
  rw [acc_pairs] at h4
  have hmm : ((List.range 16).map fun i => (DataW.agg [.lit (.int .u8 (accLo i : Nat)), .lit (.int .u8 (accHi i : Nat))] : DataW Unit)) = ((List.range 16).map fun i => (((accLo i : Nat) : Int), ((accHi i : Nat) : Int))).map fun z => .agg [.lit (.int .u8 z.1), .lit (.int .u8 z.2)] := by rw [List.map_map]; rfl
  rw [hmm] at h4
  have h5 := laid_pairs n_acc Tryz.underlying123 Tryz.underlying122 (by kernel_rfl) ⟨rfl, rfl⟩ ⟨rfl, rfl⟩ Tryz.underlying5 c_u8 h3 h4
  refine .ofF fun j u hu => ⟨_, rfl, ?_⟩
  rw [addr_add, Nat.zero_add]
  have hj : j < 32 := by
   have := (List.getElem?_eq_some_iff.1 hu).1
   have hlen : accL.length = 32 := by decide
   omega
  have h6 := acc_two ⟨j / 2, by omega⟩
  simp only at h6
  have h7 := h5 (j / 2) (((accLo (j / 2) : Nat) : Int), ((accHi (j / 2) : Nat) : Int)) (by rw [List.getElem?_map, List.getElem?_range (by omega)]; rfl)
  rcases Nat.mod_two_eq_zero_or_one j with hm | hm
  ·have h8 : accL[j]? = some (.int .u8 (accLo (j / 2) : Nat)) := by
    have := congrArg (fun l => l[0]?) h6
    rw [show j = j / 2 * 2 by omega]
    simpa [List.getElem?_take, List.getElem?_drop] using this
   rw [h8] at hu
   cases hu
   have := h7.1
   rwa [show 2 * (j / 2) = j by omega] at this
  ·have h8 : accL[j]? = some (.int .u8 (accHi (j / 2) : Nat)) := by
    have := congrArg (fun l => l[1]?) h6
    rw [show j = j / 2 * 2 + 1 by omega]
    simpa [List.getElem?_take, List.getElem?_drop, show (j / 2 * 2 + 1) / 2 = j / 2 by omega] using this
   rw [h8] at hu
   cases hu
   have := h7.2
   rwa [show 2 * (j / 2) + 1 = j by omega] at this
theorem n_k : Tryz.prog.globalNamed "signet/sha.k256" = some 11 := by kernel_rfl
theorem n_g : Tryz.prog.globalNamed "signet/sha.start256" = some 2 := by kernel_rfl
theorem c52 : Tryz.prog.cellsOf 155 = 1 := by kernel_rfl
theorem t_k : (Tryz.prog.globals[11]?).map (·.type) = some 197 := by kernel_rfl
theorem t_g : (Tryz.prog.globals[2]?).map (·.type) = some 156 := by kernel_rfl
theorem shp_of {W : World} {ls : List (String × DataW Unit)} (h : laidMet Tryz.prog ls W) (m1 : ("signet/sha.k256", Rows.laid_signet_sha_k256) ∈ ls) (m2 : ("signet/sha.start256", Rows.laid_signet_sha_start256) ∈ ls) : ShP W [] :=
 ⟨fun H => laid_rd h (nm := "signet/sha.k256") (d := Rows.laid_signet_sha_k256) m1 n_k t_k Tryz.underlying197 Tryz.underlying155 c52 (by kernel_rfl) H,
  fun H => laid_rd h (nm := "signet/sha.start256") (d := Rows.laid_signet_sha_start256) m2 n_g t_g Tryz.underlying156 Tryz.underlying155 c52 (by kernel_rfl) H⟩
end Go.Proofs.YtjajcmedipjfhaaGreatDoor
