/- Texts put together by a program: JsnO JsnV JsnW JsnX JsnY RowN NodA NodB NodC. -/
import Derived.Test.YtjajcmedipjfhaaGreatDoorMf
import Derived.Test.YtjajcmedipjfhaaGreatDoorMb
import Derived.Test.YtjajcmedipjfhaaGreatDoorMa
/- The walks of the program's reader of JSON: values. -/
namespace Go.Proofs.YtjajcmedipjfhaaGreatDoor
open Sg Go.IntWalk
set_option maxRecDepth 100000
set_option maxHeartbeats 4000000
section
variable {F : World} {M : List Nat} {H : List Res} {p : Nat} {t : List UInt8} {C : Jc} {c : Cf}
theorem lay_step {n : Nd} {a' : Nat} (hi : Inv t C) (hl : t.length ≤ 262144) :
  Meets Tryz.prog 107 [.pointer (some ⟨p, 0, none⟩), .agg ⟨ndV n⟩] F M (.blk p (jrV t (.slice C.oa C.out.length C.oc) (.slice C.na C.st.length C.nc) (.slice C.ma C.st.length C.mc) a' C.s C.k 0 0) 98 :: ouR C.oa C.oc C.out :: opS C.na C.nc C.st :: nmR C.ma C.mc C.st :: mapsR C.st H)
   (fun e H' => ∃ oa' oc', e = .returned (.tuple ⟨[]⟩) ∧ H' = .blk p (jrV t (.slice oa' (C.out.length + 1) oc') (.slice C.na C.st.length C.nc) (.slice C.ma C.st.length C.mc) a' C.s [] 0 0) 98 :: ouR oa' oc' (bumpI C.out (C.st.map (·.1)) ++ [n.named C.k]) :: opS C.na C.nc C.st :: nmR C.ma C.mc C.st :: mapsR C.st H) := by
 have ho := hi.outl
 have hat := hi.at_
 have hd := hi.dep
 have h := lay_spec' (F := F) (M := M) (p := p) (t := t) (H := nmR C.ma C.mc C.st :: mapsR C.st H) (m := .slice C.ma C.st.length C.mc) (a := a') (s := C.s) (k := C.k) (c := 0) (b := 0) (oa := C.oa) (na := C.na) (oc := C.oc) (nc := C.nc) (out := C.out) (is := C.st.map (·.1)) (n := n) hi.idx2 (by omega) (by rw [List.length_map]; omega) (hi.kid2 hl)
 have hml : (C.st.map (·.1)).length = C.st.length := List.length_map _
 dsimp only [opR, opS] at h ⊢
 rw [hml] at h
 exact h
theorem laid_to (hr : Rel C c) (hi : Inv t C) {n : Nd} (hn : n.kids = 0) {a' : Nat} (h1 : C.a < a') (h2 : a' ≤ t.length) (oa' : Option Addr) (oc' : Nat) :
  StepP p t H (.go (Cf.behind (Cf.lay { c with p := a' } n))) (.returned (.bool true)) (.blk p (jrV t (.slice oa' (C.out.length + 1) oc') (.slice C.na C.st.length C.nc) (.slice C.ma C.st.length C.mc) a' (if C.st.length = 0 then 6 else 5) [] 0 0) 98 :: ouR oa' oc' (bumpI C.out (C.st.map (·.1)) ++ [n.named C.k]) :: opS C.na C.nc C.st :: nmR C.ma C.mc C.st :: mapsR C.st H) := by
 refine laid_step hr hi hn h1 h2 ⟨oa', oc', rfl, ?_⟩
 dsimp only [opR, opS]
 rw [List.length_map]
theorem flat_num {q : Nat} {ch : UInt8} (h : ch.toNat = 45 ∨ 48 ≤ ch.toNat ∧ ch.toNat ≤ 57) : flatX wholeX t q ch = (numX t q).bind fun a _ => .ok a [numNd t q a] := by
 have e1 : ∀ n : UInt8, (ch = n) ↔ (ch.toNat = n.toNat) := fun n => UInt8.toNat_inj.symm
 have e3 : (digitB ch = true) ↔ (48 ≤ ch.toNat ∧ ch.toNat ≤ 57) := by
  unfold digitB
  simp only [Bool.and_eq_true, decide_eq_true_eq]
  rfl
 have k1 : ¬ ch = 34 := fun hh => by
  have := (e1 34).1 hh
  have h34 : (34 : UInt8).toNat = 34 := rfl
  omega
 unfold flatX
 rw [if_neg k1, if_pos (by rw [e1, e3]; exact h)]
 rfl
theorem flat_odd {q : Nat} {ch : UInt8} (h : ¬ (ch.toNat = 45 ∨ 48 ≤ ch.toNat ∧ ch.toNat ≤ 57)) : flatX wholeX t q ch = if ch.toNat = 34 then (quotedX t (q + 1)).bind fun a s => .ok a [{ nd 5 with text := s }] else if ch.toNat = 110 then (wordX t q [110, 117, 108, 108]).bind fun a _ => .ok a [nd 1] else
  if ch.toNat = 102 then (wordX t q [102, 97, 108, 115, 101]).bind fun a _ => .ok a [nd 2] else if ch.toNat = 116 then (wordX t q [116, 114, 117, 101]).bind fun a _ => .ok a [nd 3] else .bad 31 q := by
 have e1 : ∀ n : UInt8, (ch = n) ↔ (ch.toNat = n.toNat) := fun n => UInt8.toNat_inj.symm
 have e3 : (digitB ch = true) ↔ (48 ≤ ch.toNat ∧ ch.toNat ≤ 57) := by
  unfold digitB
  simp only [Bool.and_eq_true, decide_eq_true_eq]
  rfl
 unfold flatX
 by_cases h34 : ch.toNat = 34
 ·rw [if_pos h34, if_pos ((e1 34).2 h34)]
 rw [if_neg h34, if_neg (fun hh => h34 ((e1 34).1 hh)), if_neg (fun hh => h (hh.imp (e1 45).1 e3.1))]
 by_cases h110 : ch.toNat = 110
 ·rw [if_pos h110, if_pos ((e1 110).2 h110)]
 rw [if_neg h110, if_neg (fun hh => h110 ((e1 110).1 hh))]
 by_cases h102 : ch.toNat = 102
 ·rw [if_pos h102, if_pos ((e1 102).2 h102)]
 rw [if_neg h102, if_neg (fun hh => h102 ((e1 102).1 hh))]
 by_cases h116 : ch.toNat = 116
 ·rw [if_pos h116, if_pos ((e1 116).2 h116)]
 rw [if_neg h116, if_neg (fun hh => h116 ((e1 116).1 hh))]
theorem value_spec (hT : Tabs F M) {ch : UInt8} (ha : C.a < t.length) (hr : Rel C c) (hi : Inv t C) (hl : t.length ≤ 262144) :
  Meets Tryz.prog 76 [.pointer (some ⟨p, 0, none⟩), .int .u8 (ch.toNat : Nat)] F M (C.res p t H) (StepP p t H (valC wholeX t c ch)) := by
 have hu := ch.toNat_lt
 have e1 : ∀ n : UInt8, (ch = n) ↔ (ch.toNat = n.toNat) := fun n => UInt8.toNat_inj.symm
 have hval : valC wholeX t c ch = if ch.toNat = 91 ∨ ch.toNat = 123 then begC c ch else (match flatX wholeX t c.p ch with
  | .bad e a => .stop e a
  | .ok a l => .go (Cf.behind (Cf.lay { c with p := a } (l.headD (nd 0))))) := by
  unfold valC
  by_cases hh : ch.toNat = 91 ∨ ch.toNat = 123
  ·rw [if_pos hh, if_pos (by rw [e1, e1]; exact hh)]
  ·rw [if_neg hh, if_neg (by rw [e1, e1]; exact hh)]
   rfl
 rw [hval]
 refine Meets.enter Tryz.func76 rfl rfl ?_
 by_cases h91 : ch.toNat = 91 ∨ ch.toNat = 123
 ·rw [if_pos h91]
  have hb := begin_step (F := F) (M := M) (p := p) (H := H) (ch := ch) (by rw [e1, e1]; exact h91) ha hr hi hl
  by_cases h9 : ch.toNat = 91
  ·repeat' (first | (apply T.mv; apply rfl; apply rfl) | (apply T.asn; apply rfl; apply rfl) | (apply T.eql; (iterate 3 apply rfl)) | (apply T.pickT; (iterate 3 apply rfl)) | with_reducible refine Sr.nil ?_ | with_reducible refine S.seq ?_ | with_reducible refine S.block ?_ | with_reducible refine S.reg ?_ | (apply T.skip; apply rfl; (first | with_reducible rfl | decide); apply rfl) | (apply S.condTV; apply rfl; (first | with_reducible rfl | decide)) | (apply T.gcase; apply rfl; apply rfl; all_goals (intro _; try (exfalso; first | omega | with_reducible contradiction))) | fail)
   refine T.call rfl rfl hb ?_
   intro e H' hS
   obtain ⟨v, rfl⟩ := hS.bool
   repeat' (first | (apply T.asn; apply rfl; apply rfl) | with_reducible refine Sr.nil ?_ | (apply T.retW; apply rfl) | (with_reducible apply T.ofRet) | fail)
   exact ⟨_, PSub.refl _, hS⟩
  ·have h12 : ch.toNat = 123 := h91.resolve_left h9
   repeat' (first | (apply T.mv; apply rfl; apply rfl) | (apply T.asn; apply rfl; apply rfl) | (apply T.eql; (iterate 3 apply rfl)) | (apply T.pickF; (iterate 3 apply rfl)) | with_reducible refine Sr.nil ?_ | with_reducible refine S.seq ?_ | with_reducible refine S.block ?_ | with_reducible refine S.reg ?_ | (apply T.ungV; apply rfl; (first | with_reducible rfl | decide)) | (apply S.condQ; apply rfl; all_goals (intro _; try (exfalso; first | omega | with_reducible contradiction))) | (apply T.gcase; apply rfl; apply rfl; all_goals (intro _; try (exfalso; first | omega | with_reducible contradiction))) | fail)
   refine T.call rfl rfl hb ?_
   intro e H' hS
   obtain ⟨v, rfl⟩ := hS.bool
   repeat' (first | (apply T.asn; apply rfl; apply rfl) | with_reducible refine Sr.nil ?_ | (apply T.retW; apply rfl) | (with_reducible apply T.ofRet) | fail)
   exact ⟨_, PSub.refl _, hS⟩
 rw [if_neg h91]
 have h9 : ¬ ch.toNat = 91 := fun h => h91 (.inl h)
 have h12 : ¬ ch.toNat = 123 := fun h => h91 (.inr h)
 clear h91 hval
 by_cases hnum : ch.toNat = 45 ∨ 48 ≤ ch.toNat ∧ ch.toNat ≤ 57
 ·rw [flat_num hnum]
  have hb := number_step (F := F) (M := M) (p := p) (H := H) ha hr hi hl
  have h34 : ¬ ch.toNat = 34 := by omega
  by_cases h45 : ch.toNat = 45
  ·repeat' (first | (apply T.mv; apply rfl; apply rfl) | (apply T.asn; apply rfl; apply rfl) | (apply T.eql; (iterate 3 apply rfl)) | (apply T.pickT; (iterate 3 apply rfl)) | (apply T.pickF; (iterate 3 apply rfl)) | with_reducible refine Sr.nil ?_ | with_reducible refine S.seq ?_ | with_reducible refine S.block ?_ | with_reducible refine S.reg ?_ | (apply T.ungV; apply rfl; (first | with_reducible rfl | decide)) | (apply T.skip; apply rfl; (first | with_reducible rfl | decide); apply rfl) | (apply T.skipU; apply rfl; apply rfl) | (apply S.condTV; apply rfl; (first | with_reducible rfl | decide)) | (apply S.condQ; apply rfl; all_goals (intro _; try (exfalso; first | omega | with_reducible contradiction))) | (apply T.gcase; apply rfl; apply rfl; all_goals (intro _; try (exfalso; first | omega | with_reducible contradiction))) | fail)
   refine T.call rfl rfl hb ?_
   intro e H' hS
   obtain ⟨v, rfl⟩ := hS.bool
   repeat' (first | (apply T.asn; apply rfl; apply rfl) | with_reducible refine Sr.nil ?_ | (apply T.retW; apply rfl) | (with_reducible apply T.ofRet) | fail)
   exact ⟨_, PSub.refl _, hS⟩
  ·obtain ⟨h48, h57⟩ := hnum.resolve_left h45
   repeat' (first | (apply T.mv; apply rfl; apply rfl) | (apply T.asn; apply rfl; apply rfl) | (apply T.leq; (iterate 3 apply rfl)) | (apply T.geq; (iterate 3 apply rfl)) | (apply T.eql; (iterate 3 apply rfl)) | (apply T.pickT; (iterate 3 apply rfl)) | (apply T.pickF; (iterate 3 apply rfl)) | with_reducible refine Sr.nil ?_ | with_reducible refine S.seq ?_ | with_reducible refine S.block ?_ | with_reducible refine S.reg ?_ | (apply T.ungV; apply rfl; (first | with_reducible rfl | decide)) | (apply S.condQ; apply rfl; all_goals (intro _; try (exfalso; first | omega | with_reducible contradiction))) | (apply T.gcase; apply rfl; apply rfl; all_goals (intro _; try (exfalso; first | omega | with_reducible contradiction))) | fail)
   refine T.call rfl rfl hb ?_
   intro e H' hS
   obtain ⟨v, rfl⟩ := hS.bool
   repeat' (first | (apply T.asn; apply rfl; apply rfl) | with_reducible refine Sr.nil ?_ | (apply T.retW; apply rfl) | (with_reducible apply T.ofRet) | fail)
   exact ⟨_, PSub.refl _, hS⟩
 rw [flat_odd hnum]
 have h45 : ¬ ch.toNat = 45 := fun h => hnum (.inl h)
 by_cases h34 : ch.toNat = 34
 ·rw [if_pos h34]
  clear hnum
  unfold Jc.res Jc.cells
  repeat' (first | (apply T.mv; apply rfl; apply rfl) | (apply T.asn; apply rfl; apply rfl) | (apply T.eql; (iterate 3 apply rfl)) | (apply T.pickF; (iterate 3 apply rfl)) | with_reducible refine Sr.nil ?_ | with_reducible refine S.seq ?_ | with_reducible refine S.block ?_ | with_reducible refine S.reg ?_ | (apply T.ungV; apply rfl; (first | with_reducible rfl | decide)) | (apply S.condQ; apply rfl; all_goals (intro _; try (exfalso; first | omega | with_reducible contradiction))) | (apply T.gcase; apply rfl; apply rfl; all_goals (intro _; try (exfalso; first | omega | with_reducible contradiction))) | fail)
  refine T.call rfl rfl (quoted_spec hT (by exact ha) hl) ?_
  have hfit := quoted_fits (t := t) (p := C.a + 1) (by omega)
  rw [hr.p] at hfit ⊢
  cases hx : quotedX t (c.p + 1) with
  | bad e1 q1 =>
   rintro _ _ ⟨a', rfl, rfl⟩
   repeat' (first | (apply T.mv; apply rfl; apply rfl) | (apply T.asn; apply rfl; apply rfl) | (apply T.extract; (iterate 3 apply rfl)) | with_reducible refine Sr.nil ?_ | with_reducible refine S.seq ?_ | with_reducible refine S.reg ?_ | with_reducible refine S.skip ?_ | (apply S.condFV; apply rfl; (first | with_reducible rfl | decide)) | (apply T.retW; apply rfl) | (with_reducible apply T.ofRet) | fail)
   exact ⟨_, PSub.take pick_hd (PSub.drop (PSub.drop (PSub.drop (maps_sub H C.st)))), _, _, _, _, _, _, rfl, rfl⟩
  | ok a' x =>
   obtain ⟨f1, f2⟩ := hfit a' x hx
   rintro _ _ ⟨rfl, rfl⟩
   repeat' (first | (apply T.mv; apply rfl; apply rfl) | (apply T.asn; apply rfl; apply rfl) | (apply T.extract; (iterate 3 apply rfl)) | (apply T.buildL; (iterate 3 apply rfl)) | with_reducible refine Sr.nil ?_ | with_reducible refine S.seq ?_ | with_reducible refine S.reg ?_ | (apply S.condTV; apply rfl; (first | with_reducible rfl | decide)) | (with_reducible apply T.ofRet) | fail)
   refine T.call rfl rfl (lay_step (n := { nd 5 with text := x }) hi hl) ?_
   rintro _ _ ⟨oa', oc', rfl, rfl⟩
   repeat' (first | (apply T.mv; apply rfl; apply rfl) | with_reducible refine Sr.nil ?_ | with_reducible refine S.reg ?_ | (with_reducible apply T.ofRet) | fail)
   refine T.call rfl rfl behind_spec ?_
   rintro _ _ ⟨rfl, rfl⟩
   repeat' (first | (apply T.mv; apply rfl; apply rfl) | (apply T.asn; apply rfl; apply rfl) | with_reducible refine Sr.nil ?_ | with_reducible refine S.seq ?_ | with_reducible refine S.reg ?_ | (apply T.retW; apply rfl) | (with_reducible apply T.ofRet) | fail)
   exact ⟨_, PSub.refl _, laid_to hr hi rfl (by rw [hr.p]; omega) f2 oa' oc'⟩
 rw [if_neg h34]
 have hlo : ¬ (48 ≤ ch.toNat ∧ ch.toNat ≤ 57) := fun h => hnum (.inr h)
 clear hnum
 by_cases h110 : ch.toNat = 110
 ·rw [if_pos h110]
  have h57 : ¬ ch.toNat ≤ 57 := by omega
  have h48 : 48 ≤ ch.toNat := by omega
  have hb := literal_step (F := F) (M := M) (p := p) (H := H) (w := [110, 117, 108, 108]) (kd := 1) (by decide) (by decide) (by decide) hr hi hl
  repeat' (first | (apply T.mv; apply rfl; apply rfl) | (apply T.asn; apply rfl; apply rfl) | (apply T.leq; (iterate 3 apply rfl)) | (apply T.geq; (iterate 3 apply rfl)) | (apply T.eql; (iterate 3 apply rfl)) | (apply T.pickT; (iterate 3 apply rfl)) | (apply T.pickF; (iterate 3 apply rfl)) | with_reducible refine Sr.nil ?_ | with_reducible refine S.seq ?_ | with_reducible refine S.block ?_ | with_reducible refine S.reg ?_ | (apply T.ungV; apply rfl; (first | with_reducible rfl | decide)) | (apply S.condQ; apply rfl; all_goals (intro _; try (exfalso; first | omega | with_reducible contradiction))) | (apply T.gcase; apply rfl; apply rfl; all_goals (intro _; try (exfalso; first | omega | with_reducible contradiction))) | fail)
  refine T.call rfl rfl hb ?_
  intro e H' hS
  obtain ⟨v, rfl⟩ := hS.bool
  repeat' (first | (apply T.asn; apply rfl; apply rfl) | with_reducible refine Sr.nil ?_ | (apply T.retW; apply rfl) | (with_reducible apply T.ofRet) | fail)
  exact ⟨_, PSub.refl _, hS⟩
 rw [if_neg h110]
 by_cases h102 : ch.toNat = 102
 ·rw [if_pos h102]
  have h57 : ¬ ch.toNat ≤ 57 := by omega
  have h48 : 48 ≤ ch.toNat := by omega
  have hb := literal_step (F := F) (M := M) (p := p) (H := H) (w := [102, 97, 108, 115, 101]) (kd := 2) (by decide) (by decide) (by decide) hr hi hl
  repeat' (first | (apply T.mv; apply rfl; apply rfl) | (apply T.asn; apply rfl; apply rfl) | (apply T.leq; (iterate 3 apply rfl)) | (apply T.geq; (iterate 3 apply rfl)) | (apply T.eql; (iterate 3 apply rfl)) | (apply T.pickT; (iterate 3 apply rfl)) | (apply T.pickF; (iterate 3 apply rfl)) | with_reducible refine Sr.nil ?_ | with_reducible refine S.seq ?_ | with_reducible refine S.block ?_ | with_reducible refine S.reg ?_ | (apply T.ungV; apply rfl; (first | with_reducible rfl | decide)) | (apply S.condQ; apply rfl; all_goals (intro _; try (exfalso; first | omega | with_reducible contradiction))) | (apply T.gcase; apply rfl; apply rfl; all_goals (intro _; try (exfalso; first | omega | with_reducible contradiction))) | fail)
  refine T.call rfl rfl hb ?_
  intro e H' hS
  obtain ⟨v, rfl⟩ := hS.bool
  repeat' (first | (apply T.asn; apply rfl; apply rfl) | with_reducible refine Sr.nil ?_ | (apply T.retW; apply rfl) | (with_reducible apply T.ofRet) | fail)
  exact ⟨_, PSub.refl _, hS⟩
 rw [if_neg h102]
 by_cases h116 : ch.toNat = 116
 ·rw [if_pos h116]
  have h57 : ¬ ch.toNat ≤ 57 := by omega
  have h48 : 48 ≤ ch.toNat := by omega
  have hb := literal_step (F := F) (M := M) (p := p) (H := H) (w := [116, 114, 117, 101]) (kd := 3) (by decide) (by decide) (by decide) hr hi hl
  repeat' (first | (apply T.mv; apply rfl; apply rfl) | (apply T.asn; apply rfl; apply rfl) | (apply T.leq; (iterate 3 apply rfl)) | (apply T.geq; (iterate 3 apply rfl)) | (apply T.eql; (iterate 3 apply rfl)) | (apply T.pickT; (iterate 3 apply rfl)) | (apply T.pickF; (iterate 3 apply rfl)) | with_reducible refine Sr.nil ?_ | with_reducible refine S.seq ?_ | with_reducible refine S.block ?_ | with_reducible refine S.reg ?_ | (apply T.ungV; apply rfl; (first | with_reducible rfl | decide)) | (apply S.condQ; apply rfl; all_goals (intro _; try (exfalso; first | omega | with_reducible contradiction))) | (apply T.gcase; apply rfl; apply rfl; all_goals (intro _; try (exfalso; first | omega | with_reducible contradiction))) | fail)
  refine T.call rfl rfl hb ?_
  intro e H' hS
  obtain ⟨v, rfl⟩ := hS.bool
  repeat' (first | (apply T.asn; apply rfl; apply rfl) | with_reducible refine Sr.nil ?_ | (apply T.retW; apply rfl) | (with_reducible apply T.ofRet) | fail)
  exact ⟨_, PSub.refl _, hS⟩
 rw [if_neg h116]
 unfold Jc.res Jc.cells
 rw [hr.p]
 by_cases h48 : 48 ≤ ch.toNat
 ·have h57 : ¬ ch.toNat ≤ 57 := by omega
  repeat' (first | (apply T.mv; apply rfl; apply rfl) | (apply T.asn; apply rfl; apply rfl) | (apply T.leq; (iterate 3 apply rfl)) | (apply T.geq; (iterate 3 apply rfl)) | (apply T.eql; (iterate 3 apply rfl)) | (apply T.pickT; (iterate 3 apply rfl)) | (apply T.pickF; (iterate 3 apply rfl)) | with_reducible refine Sr.nil ?_ | with_reducible refine S.seq ?_ | with_reducible refine S.block ?_ | with_reducible refine S.reg ?_ | with_reducible refine S.skip ?_ | with_reducible refine S.inBlock ?_ | (apply T.ungV; apply rfl; (first | with_reducible rfl | decide)) | (apply S.condQ; apply rfl; all_goals (intro _; try (exfalso; first | omega | with_reducible contradiction))) | (apply T.gcase; apply rfl; apply rfl; all_goals (intro _; try (exfalso; first | omega | with_reducible contradiction))) | fail)
  refine T.call rfl rfl odd_spec ?_
  rintro _ _ ⟨rfl, rfl⟩
  repeat' (first | (apply T.asn; apply rfl; apply rfl) | with_reducible refine Sr.nil ?_ | (apply T.retW; apply rfl) | (with_reducible apply T.ofRet) | fail)
  exact ⟨_, PSub.take pick_hd (PSub.drop (PSub.drop (PSub.drop (maps_sub H C.st)))), _, _, _, _, _, _, rfl, rfl⟩
 ·repeat' (first | (apply T.mv; apply rfl; apply rfl) | (apply T.asn; apply rfl; apply rfl) | (apply T.geq; (iterate 3 apply rfl)) | (apply T.eql; (iterate 3 apply rfl)) | (apply T.pickF; (iterate 3 apply rfl)) | with_reducible refine Sr.nil ?_ | with_reducible refine S.seq ?_ | with_reducible refine S.block ?_ | with_reducible refine S.reg ?_ | with_reducible refine S.skip ?_ | with_reducible refine S.inBlock ?_ | (apply T.ungV; apply rfl; (first | with_reducible rfl | decide)) | (apply T.skip; apply rfl; (first | with_reducible rfl | decide); apply rfl) | (apply S.condFV; apply rfl; (first | with_reducible rfl | decide)) | (apply S.condQ; apply rfl; all_goals (intro _; try (exfalso; first | omega | with_reducible contradiction))) | (apply T.gcase; apply rfl; apply rfl; all_goals (intro _; try (exfalso; first | omega | with_reducible contradiction))) | fail)
  refine T.call rfl rfl odd_spec ?_
  rintro _ _ ⟨rfl, rfl⟩
  repeat' (first | (apply T.asn; apply rfl; apply rfl) | with_reducible refine Sr.nil ?_ | (apply T.retW; apply rfl) | (with_reducible apply T.ofRet) | fail)
  exact ⟨_, PSub.take pick_hd (PSub.drop (PSub.drop (PSub.drop (maps_sub H C.st)))), _, _, _, _, _, _, rfl, rfl⟩
end
end Go.Proofs.YtjajcmedipjfhaaGreatDoor
/- The walks of the program's reader of JSON: names. -/
namespace Go.Proofs.YtjajcmedipjfhaaGreatDoor
open Sg Go.IntWalk
set_option maxRecDepth 100000
set_option maxHeartbeats 4000000
section
variable {F : World} {M : List Nat} {H : List Res} {p : Nat} {t : List UInt8} {C : Jc} {c : Cf}
theorem quotX_len {t : List UInt8} : ∀ {f q a : Nat} {acc x : List UInt8}, q ≤ t.length → quotX t f q acc = .ok a x → x.length + 4 * q ≤ acc.length + 4 * a
 | 0, q, a, acc, x, _, h => by rw [quotX] at h; cases h
 | f + 1, q, a, acc, x, hq, h => by
  rcases Nat.lt_or_ge q t.length with h6 | h6
  ·have hc : t[q]? = some (t.getD q 0) := by simp [List.getD, h6]
   rw [quot_step hc] at h
   split at h
   ·cases h
   ·split at h
    ·cases h
     omega
    ·split at h
     ·cases hx : escX t q with
      | bad e1 q1 => rw [hx] at h; cases h
      | ok a1 u =>
       rw [hx] at h
       have hf := escX_fits (t := t) (fr := q) a1 u hx
       have := quotX_len (q := a1) (by omega) h
       have := utfL_len u
       rw [List.length_append] at *
       omega
     ·split at h
      ·have := quotX_len (q := q + 1) (by omega) h
       rw [List.length_append] at this
       simp only [List.length_cons, List.length_nil] at this
       omega
      ·cases hx : sequX t q (t.getD q 0) with
       | bad e1 q1 => rw [hx] at h; cases h
       | ok a1 u =>
        rw [hx] at h
        have hf := sequX_fits (t := t) (p := q) (c := t.getD q 0) h6 a1 u hx
        have := quotX_len (q := a1) (by omega) h
        rw [List.length_append, List.length_take] at this
        omega
  ·rw [quotX, List.getElem?_eq_none h6] at h
   cases h
theorem name_spec {o n : Value} {a s : Nat} {k : List UInt8} {c b : Int} {Ho Hn : Res} {ma : Option Addr} {mc i mb : Nat} {m : Ents} {r : Stk} (hT : Tabs F M) (ha : a < t.length) (hl : t.length ≤ 262144) (hs : r.length ≤ 1000000) (hm : m.length ≤ 1000000) :
  Meets Tryz.prog 78 [.pointer (some ⟨p, 0, none⟩)] F M (.blk p (jrV t o n (.slice ma (r.length + 1) mc) a s k c b) 98 :: Ho :: Hn :: nmR ma mc ((i, some (mb, m)) :: r) :: mpR mb m :: H)
   (match quotedX t (a + 1) with
    | .bad c1 q1 => fun e H' => ∃ a' : Nat, e = .returned (.bool false) ∧ H' = .blk p (jrV t o n (.slice ma (r.length + 1) mc) a' s k c1 q1) 98 :: Ho :: Hn :: nmR ma mc ((i, some (mb, m)) :: r) :: mpR mb m :: H
    | .ok a' x => if 0 < (eget m x).getD 0 then fun e H' => e = .returned (.bool false) ∧ H' = .blk p (jrV t o n (.slice ma (r.length + 1) mc) a' s k 34 a) 98 :: Ho :: Hn :: nmR ma mc ((i, some (mb, m)) :: r) :: mpR mb m :: H
     else fun e H' => e = .returned (.bool true) ∧ H' = .blk p (jrV t o n (.slice ma (r.length + 1) mc) a' 4 x c b) 98 :: Ho :: Hn :: nmR ma mc ((i, some (mb, m)) :: r) :: mpR mb (eput m x 1) :: H) := by
 have e1 : (((r.length + 1 : Nat)) : Int) - 1 = ((r.length : Nat) : Int) := by omega
 have htop := upL_top mpV (i, some (mb, m)) r
 have hupl : (upL mpV ((i, some (mb, m)) :: r)).length = r.length + 1 := by rw [upL_len]; rfl
 refine Meets.enter Tryz.func78 rfl rfl ?_
 repeat' (first | (apply T.mv; apply rfl; apply rfl) | (apply T.asn; apply rfl; apply rfl) | (apply T.nilCheck; apply rfl; apply rfl) | (apply T.fieldAddrZ; apply rfl; apply rfl) | (apply T.load; apply rfl; apply rfl; infer_instance; apply rfl; apply rfl) | with_reducible refine Sr.nil ?_ | with_reducible refine S.seq ?_ | with_reducible refine S.reg ?_ | fail)
 refine T.call rfl rfl (quoted_spec hT ha hl) ?_
 have hfit := quoted_fits (t := t) (p := a + 1) (by omega)
 have hlen := fun a' x => quotX_len (t := t) (f := t.length + 1 - (a + 1)) (q := a + 1) (a := a') (x := x) (acc := []) (by omega)
 cases hx : quotedX t (a + 1) with
 | bad c1 q1 =>
  rintro _ _ ⟨a', rfl, rfl⟩
  repeat' (first | (apply T.mv; apply rfl; apply rfl) | (apply T.asn; apply rfl; apply rfl) | (apply T.extract; (iterate 3 apply rfl)) | (apply T.notB; apply rfl; apply rfl) | with_reducible refine Sr.nil ?_ | with_reducible refine S.seq ?_ | with_reducible refine S.reg ?_ | (apply S.condTV; apply rfl; (first | with_reducible rfl | decide)) | (apply T.retW; apply rfl) | (with_reducible apply T.ofRet) | fail)
  exact ⟨_, PSub.refl _, a', rfl, rfl⟩
 | ok a' x =>
  obtain ⟨f1, f2⟩ := hfit a' x hx
  have hxl : x.length ≤ maxLen := by
   have := hlen a' x hx
   simp only [List.length_nil, maxLen] at this ⊢
   omega
  have hml : m.length < maxLen := by simp only [maxLen]; omega
  rintro _ _ ⟨rfl, rfl⟩
  simp only
  by_cases hg : 0 < (eget m x).getD 0
  ·rw [if_pos hg]
   repeat' (first | (apply T.subI; apply rfl; apply rfl; omega; apply rfl; rw [e1]) | (apply T.loadE; apply rfl; apply rfl; infer_instance; exact htop; apply rfl) | (apply T.mapLook; apply rfl; apply rfl; infer_instance; (first | assumption | (simp only [maxLen]; omega) | omega); apply rfl) | (apply T.mv; apply rfl; apply rfl) | (apply T.asn; apply rfl; apply rfl) | (apply T.len; apply rfl; apply rfl) | (apply T.nilCheck; apply rfl; apply rfl) | (apply T.fieldAddrZ; apply rfl; apply rfl) | (apply T.load; apply rfl; apply rfl; infer_instance; apply rfl; apply rfl) | (apply T.gtr; (iterate 3 apply rfl)) | (apply T.extract; (iterate 3 apply rfl)) | (apply T.ixN; apply rfl; apply rfl; infer_instance; omega; (first | omega | (simp only [List.length_map]; omega) | (simp; omega)); apply rfl) | (apply T.notB; apply rfl; apply rfl) | with_reducible refine Sr.nil ?_ | with_reducible refine S.seq ?_ | with_reducible refine S.reg ?_ | with_reducible refine S.skip ?_ | (apply S.quiet; apply rfl; kernel_rfl) | (apply S.condFV; apply rfl; (first | with_reducible rfl | decide)) | (apply S.condQ; apply rfl; all_goals (intro _; try (exfalso; first | omega | with_reducible contradiction))) | (with_reducible apply T.ofRet) | fail)
   refine T.call rfl rfl fail_spec ?_
   rintro _ _ ⟨rfl, rfl⟩
   repeat' (first | (apply T.asn; apply rfl; apply rfl) | with_reducible refine Sr.nil ?_ | (apply T.retW; apply rfl) | (with_reducible apply T.ofRet) | fail)
   exact ⟨_, PSub.refl _, rfl, rfl⟩
  ·rw [if_neg hg]
   repeat' (first | (apply T.subI; apply rfl; apply rfl; omega; apply rfl; rw [e1]) | (apply T.loadE; apply rfl; apply rfl; infer_instance; exact htop; apply rfl) | (apply T.mapLook; apply rfl; apply rfl; infer_instance; (first | assumption | (simp only [maxLen]; omega) | omega); apply rfl) | (apply T.mv; apply rfl; apply rfl) | (apply T.asn; apply rfl; apply rfl) | (apply T.len; apply rfl; apply rfl) | (apply T.nilCheck; apply rfl; apply rfl) | (apply T.fieldAddrZ; apply rfl; apply rfl) | (apply T.load; apply rfl; apply rfl; infer_instance; apply rfl; apply rfl) | (apply T.gtr; (iterate 3 apply rfl)) | (apply T.extract; (iterate 3 apply rfl)) | (apply T.ixN; apply rfl; apply rfl; infer_instance; omega; (first | omega | (simp only [List.length_map]; omega) | (simp; omega)); apply rfl) | (apply T.notB; apply rfl; apply rfl) | with_reducible refine Sr.nil ?_ | with_reducible refine S.seq ?_ | with_reducible refine S.reg ?_ | with_reducible refine S.skip ?_ | (apply S.quiet; apply rfl; kernel_rfl) | (apply S.condFV; apply rfl; (first | with_reducible rfl | decide)) | (apply S.condQ; apply rfl; all_goals (intro _; try (exfalso; first | omega | with_reducible contradiction))) | (with_reducible apply T.ofRet) | fail)
   refine Sr.front mb ?_
   refine T.mapPutT rfl rfl rfl hxl hml rfl ?_
   refine Sr.front p ?_
   repeat' (first | (apply T.mv; apply rfl; apply rfl) | (apply T.asn; apply rfl; apply rfl) | (apply T.nilCheck; apply rfl; apply rfl) | (apply T.fieldAddrZ; apply rfl; apply rfl) | (apply T.store; apply rfl; apply rfl; infer_instance; (first | decide | (simp; omega) | simp); apply rfl) | with_reducible refine Sr.nil ?_ | with_reducible refine S.seq ?_ | with_reducible refine S.reg ?_ | (apply T.retW; apply rfl) | fail)
   exact ⟨_, PSub.take pick_hd (PSub.take (pick_tl pick_hd) (PSub.take (pick_tl pick_hd) (PSub.take (pick_tl pick_hd) (PSub.take pick_hd (PSub.refl _))))), rfl, rfl⟩
end
end Go.Proofs.YtjajcmedipjfhaaGreatDoor
/- The walks of the program's reader of JSON: names and what stands behind an item, as steps. -/
namespace Go.Proofs.YtjajcmedipjfhaaGreatDoor
open Sg Go.IntWalk
set_option maxRecDepth 100000
set_option maxHeartbeats 4000000
section
variable {F : World} {M : List Nat} {H : List Res} {p : Nat} {t : List UInt8} {C : Jc} {c : Cf}
theorem name_step (hT : Tabs F M) {i : Nat} {y : Nat × Ents} {r : Stk} (ha : C.a < t.length) (hr : Rel C c) (hi : Inv t C) (hl : t.length ≤ 262144) (hst : C.st = (i, some y) :: r) :
  Meets Tryz.prog 78 [.pointer (some ⟨p, 0, none⟩)] F M (C.res p t H) (StepP p t H (namC t c 34)) := by
 obtain ⟨oa, oc, na, nc, ma, mc, out, st, a, s, k⟩ := C
 obtain ⟨mb, m⟩ := y
 simp only at hst
 subst hst
 have hs := hr.stk
 obtain ⟨cp, cs, co, ck, ckey⟩ := c
 cases ck with
 | nil => exact hs.elim
 | cons z q =>
  obtain ⟨zi, zo⟩ := z
  cases zo with
  | none => exact hs.2.1.elim
  | some ns =>
   have hcp := hr.p
   have hout := hr.out
   simp only at hcp ha hout
   subst hcp
   subst hout
   have hns : ∀ x, eget m x = if x ∈ ns then some 1 else none := hs.2.1
   have hd := hi.dep
   simp only [List.length_cons] at hd
   have hmm := hi.maps (i, some (mb, m)) (List.mem_cons_self ..) _ rfl
   simp only at hmm
   have hat := hi.at_
   have hol := hi.outl
   simp only at hat hol
   have h := name_spec (F := F) (M := M) (H := mapsR r H) (p := p) (t := t) (o := .slice oa out.length oc) (n := .slice na (r.length + 1) nc) (a := a) (s := s) (k := k) (c := 0) (b := 0) (Ho := ouR oa oc out) (Hn := opS na nc ((i, some (mb, m)) :: r)) (ma := ma) (mc := mc) (i := i) (mb := mb) (m := m) (r := r) hT ha hl (by omega) (by omega)
   have hsub : PSub H (ouR oa oc out :: opS na nc ((i, some (mb, m)) :: r) :: nmR ma mc ((i, some (mb, m)) :: r) :: mpR mb m :: mapsR r H) := PSub.drop (PSub.drop (PSub.drop (PSub.drop (maps_sub H r))))
   unfold namC
   rw [if_pos rfl]
   refine Meets.of_st h ?_
   clear h
   have hfit := quoted_fits (t := t) (p := a + 1) (by omega)
   cases hx : quotedX t (a + 1) with
   | bad c1 q1 =>
    rintro e H' w ⟨a', rfl, rfl⟩ hw
    exact ⟨_, ⟨_, .slice na (r.length + 1) nc, .slice ma (r.length + 1) mc, a', s, k, rfl, rfl⟩, hw.psub (PSub.take pick_hd hsub)⟩
   | ok a' x =>
    obtain ⟨f1, f2⟩ := hfit a' x hx
    simp only
    by_cases hxn : x ∈ ns
    ·have hg : 0 < (eget m x).getD 0 := by rw [hns, if_pos hxn]; decide
     rw [if_pos hg, if_pos hxn]
     rintro e H' w ⟨rfl, rfl⟩ hw
     exact ⟨_, ⟨_, .slice na (r.length + 1) nc, .slice ma (r.length + 1) mc, a', s, k, rfl, rfl⟩, hw.psub (PSub.take pick_hd hsub)⟩
    ·have hg : ¬ 0 < (eget m x).getD 0 := by rw [hns, if_neg hxn]; decide
     rw [if_neg hg, if_neg hxn]
     rintro e H' w ⟨rfl, rfl⟩ hw
     refine ⟨_, ⟨⟨oa, oc, na, nc, ma, mc, out, (i, some (mb, eput m x 1)) :: r, a', 4, x⟩, rfl, rfl, ⟨rfl, rfl, rfl, rfl, hs.1, ?_, hs.2.2⟩, ⟨f2, ?_, hi.kids, ?_, ?_, ?_, hi.dep⟩⟩, hw⟩
     ·intro x'
      rw [eget_put]
      by_cases hxx : x = x'
      ·rw [if_pos hxx, if_pos (by rw [hxx]; exact List.mem_cons_self ..)]
      ·rw [if_neg hxx, hns]
       by_cases hm : x' ∈ ns
       ·rw [if_pos hm, if_pos (List.mem_cons_of_mem _ hm)]
       ·rw [if_neg hm, if_neg (by rw [List.mem_cons]; exact fun hh => hh.elim (fun e => hxx e.symm) hm)]
     ·show out.length ≤ a'
      omega
     ·intro z hz
      rcases List.mem_cons.1 hz with rfl | hz
      ·exact hi.idx (i, some (mb, m)) (List.mem_cons_self ..)
      ·exact hi.idx z (List.mem_cons_of_mem _ hz)
     ·intro z hz
      rcases List.mem_cons.1 hz with rfl | hz
      ·exact hi.kind (i, some (mb, m)) (List.mem_cons_self ..)
      ·exact hi.kind z (List.mem_cons_of_mem _ hz)
     ·intro z hz y hy
      rcases List.mem_cons.1 hz with rfl | hz
      ·cases hy
       have := eput_length m x 1
       show (eput m x 1).length ≤ a'
       omega
      ·have := hi.maps z (List.mem_cons_of_mem _ hz) y hy
       simp only at this
       show y.2.length ≤ a'
       omega
theorem step_on (hr : Rel C c) (hi : Inv t C) (ha : C.a < t.length) (s' : Nat) : StepP p t H (.go { c with p := c.p + 1, s := s' }) (.returned (.bool true)) (({ C with a := C.a + 1, s := s' } : Jc).res p t H) := by
 refine ⟨_, rfl, rfl, ⟨?_, rfl, hr.out, hr.key, hr.stk⟩, ⟨?_, ?_, hi.kids, hi.idx, hi.kind, fun z hz y hy => ?_, hi.dep⟩⟩
 ·show C.a + 1 = c.p + 1
  rw [hr.p]
 ·show C.a + 1 ≤ t.length
  omega
 ·have := hi.outl
  show C.out.length ≤ C.a + 1
  omega
 ·have := hi.maps z hz y hy
  show y.2.length ≤ C.a + 1
  omega
theorem odd_step (hr : Rel C c) : ∀ {e : Ending} {H' : List Res}, (e = .returned (.bool false) ∧ H' = .blk p (C.cells t 31 C.a) 98 :: ouR C.oa C.oc C.out :: opS C.na C.nc C.st :: nmR C.ma C.mc C.st :: mapsR C.st H) → ∃ H'', PSub H'' H' ∧ StepP p t H (.stop 31 c.p) e H'' := by
 rintro _ _ ⟨rfl, rfl⟩
 refine ⟨_, PSub.take pick_hd (PSub.drop (PSub.drop (PSub.drop (maps_sub H C.st)))), .slice C.oa C.out.length C.oc, .slice C.na C.st.length C.nc, .slice C.ma C.st.length C.mc, C.a, C.s, C.k, rfl, ?_⟩
 rw [← hr.p]
 rfl
theorem more_step {ch : UInt8} {x : Nat × Option (Nat × Ents)} {r : Stk} (ha : C.a < t.length) (hr : Rel C c) (hi : Inv t C) (hl : t.length ≤ 262144) (hst : C.st = x :: r) :
  Meets Tryz.prog 79 [.pointer (some ⟨p, 0, none⟩), .int .u8 (ch.toNat : Nat)] F M (C.res p t H) (StepP p t H (morC c ch)) := by
 have hu := ch.toNat_lt
 have e1 : ∀ n : UInt8, (ch = n) ↔ (ch.toNat = n.toNat) := fun n => UInt8.toNat_inj.symm
 have hend := end_step (F := F) (M := M) (p := p) (H := H) ha hr hi hl (by rw [hst]; exact List.cons_ne_nil _ _)
 have hon := fun s' => step_on (p := p) (H := H) hr hi ha s'
 have hodd := fun e H' => odd_step (p := p) (t := t) (H := H) hr (e := e) (H' := H')
 have hat := hi.at_
 have hol := hi.outl
 have hd := hi.dep
 have hix := hi.idx x (by rw [hst]; exact List.mem_cons_self ..)
 have hkk := hi.kind x (by rw [hst]; exact List.mem_cons_self ..)
 have hlen : C.st.length = r.length + 1 := by rw [hst]; rfl
 have htop : (upL inV (C.st.map (·.1)))[r.length]? = some (inV x.1) := by
  rw [hst]
  have := upL_top inV x.1 (r.map (·.1))
  rw [List.length_map] at this
  exact this
 have hupl : (upL inV (C.st.map (·.1))).length = C.st.length := by rw [upL_len, List.length_map]
 have hobj : topObj c.stk = x.2.isSome := by
  have hs := hr.stk
  rw [hst] at hs
  cases hck : c.stk with
  | nil => rw [hck] at hs; exact hs.elim
  | cons z q =>
   rw [hck] at hs
   obtain ⟨zi, zo⟩ := z
   obtain ⟨xi, xo⟩ := x
   cases zo <;> cases xo
   ·rfl
   ·exact hs.2.1.elim
   ·exact hs.2.1.elim
   ·rfl
 have hget : C.out[x.1]? = some (C.out.getD x.1 default) := getD_some hix
 have e2 : ((C.st.length : Nat) : Int) - 1 = ((r.length : Nat) : Int) := by omega
 have key : ∀ (obj : Bool), x.2.isSome = obj → Meets Tryz.prog 79 [.pointer (some ⟨p, 0, none⟩), .int .u8 (ch.toNat : Nat)] F M (C.res p t H) (StepP p t H (if ch.toNat = 44 then .go { c with p := c.p + 1, s := if obj then 2 else 0 } else if ch.toNat = (if obj then 125 else 93) then .go (endC c) else .stop 31 c.p)) := by
  intro obj ho
  rw [ho] at hkk
  refine Meets.enter Tryz.func79 rfl rfl ?_
  have hen2 := hend
  unfold Jc.res Jc.cells at hon ⊢
  unfold Jc.cells at hodd
  unfold Jc.res Jc.cells at hen2
  cases obj with
  | true =>
   simp only [if_true] at hkk ⊢
   by_cases h44 : ch.toNat = 44
   ·rw [if_pos h44]
    repeat' (first | (apply T.subI; apply rfl; apply rfl; omega; apply rfl; rw [e2]) | (apply T.loadE; apply rfl; apply rfl; infer_instance; exact htop; apply rfl) | (apply T.mv; apply rfl; apply rfl) | (apply T.asn; apply rfl; apply rfl) | (apply T.len; apply rfl; apply rfl) | (apply T.nilCheck; apply rfl; apply rfl) | (apply T.fieldAddrZ; apply rfl; apply rfl) | (apply T.load; apply rfl; apply rfl; infer_instance; apply rfl; apply rfl) | (apply T.eql; (iterate 3 apply rfl)) | (apply T.addI; apply rfl; apply rfl; omega; apply rfl) | (apply T.ixN; apply rfl; apply rfl; infer_instance; omega; (first | omega | (simp only [List.length_map]; omega) | (simp; omega)); apply rfl) | (apply T.ixF; apply rfl; apply rfl; infer_instance; exact (fun _ => rfl); apply rfl; omega; omega; apply rfl) | (apply T.fieldAddrF; apply rfl; infer_instance; exact (fun _ => rfl); apply rfl; omega; apply rfl) | (apply T.loadF; apply rfl; apply rfl; infer_instance; exact (fun _ => rfl); apply rfl; exact getD_some (by omega); apply rfl; apply rfl) | (apply T.pickT; (iterate 3 apply rfl)) | (apply T.store; apply rfl; apply rfl; infer_instance; (first | decide | (simp; omega) | simp); apply rfl) | with_reducible refine Sr.nil ?_ | with_reducible refine S.seq ?_ | with_reducible refine S.block ?_ | with_reducible refine S.reg ?_ | with_reducible refine S.inBlock ?_ | (apply S.quiet; apply rfl; kernel_rfl) | (apply T.ungV; apply rfl; (first | with_reducible rfl | decide)) | (apply S.condQ; apply rfl; all_goals (intro _; try (exfalso; first | omega | with_reducible contradiction))) | (apply T.gcase; apply rfl; apply rfl; all_goals (intro _; try (exfalso; first | omega | with_reducible contradiction))) | (apply T.retW; apply rfl) | fail)
    exact ⟨_, PSub.refl _, hon 2⟩
   ·rw [if_neg h44]
    by_cases h125 : ch.toNat = 125
    ·rw [if_pos h125]
     repeat' (first | (apply T.subI; apply rfl; apply rfl; omega; apply rfl; rw [e2]) | (apply T.loadE; apply rfl; apply rfl; infer_instance; exact htop; apply rfl) | (apply T.mv; apply rfl; apply rfl) | (apply T.asn; apply rfl; apply rfl) | (apply T.len; apply rfl; apply rfl) | (apply T.nilCheck; apply rfl; apply rfl) | (apply T.fieldAddrZ; apply rfl; apply rfl) | (apply T.load; apply rfl; apply rfl; infer_instance; apply rfl; apply rfl) | (apply T.eql; (iterate 3 apply rfl)) | (apply T.ixN; apply rfl; apply rfl; infer_instance; omega; (first | omega | (simp only [List.length_map]; omega) | (simp; omega)); apply rfl) | (apply T.ixF; apply rfl; apply rfl; infer_instance; exact (fun _ => rfl); apply rfl; omega; omega; apply rfl) | (apply T.fieldAddrF; apply rfl; infer_instance; exact (fun _ => rfl); apply rfl; omega; apply rfl) | (apply T.loadF; apply rfl; apply rfl; infer_instance; exact (fun _ => rfl); apply rfl; exact getD_some (by omega); apply rfl; apply rfl) | (apply T.pickT; (iterate 3 apply rfl)) | (apply T.pickF; (iterate 3 apply rfl)) | with_reducible refine Sr.nil ?_ | with_reducible refine S.seq ?_ | with_reducible refine S.block ?_ | with_reducible refine S.reg ?_ | (apply S.quiet; apply rfl; kernel_rfl) | (apply T.ungV; apply rfl; (first | with_reducible rfl | decide)) | (apply T.skip; apply rfl; (first | with_reducible rfl | decide); apply rfl) | (apply T.skipU; apply rfl; apply rfl) | (apply S.condTV; apply rfl; (first | with_reducible rfl | decide)) | (apply S.condFV; apply rfl; (first | with_reducible rfl | decide)) | (apply S.condQ; apply rfl; all_goals (intro _; try (exfalso; first | omega | with_reducible contradiction))) | (apply T.gcase; apply rfl; apply rfl; all_goals (intro _; try (exfalso; first | omega | with_reducible contradiction))) | fail)
     refine T.call rfl rfl hen2 ?_
     intro e H' hS
     obtain ⟨v, rfl⟩ := hS.bool
     repeat' (first | (apply T.asn; apply rfl; apply rfl) | with_reducible refine Sr.nil ?_ | (apply T.retW; apply rfl) | (with_reducible apply T.ofRet) | fail)
     exact ⟨_, PSub.refl _, hS⟩
    ·rw [if_neg h125]
     repeat' (first | (apply T.subI; apply rfl; apply rfl; omega; apply rfl; rw [e2]) | (apply T.loadE; apply rfl; apply rfl; infer_instance; exact htop; apply rfl) | (apply T.mv; apply rfl; apply rfl) | (apply T.asn; apply rfl; apply rfl) | (apply T.len; apply rfl; apply rfl) | (apply T.nilCheck; apply rfl; apply rfl) | (apply T.fieldAddrZ; apply rfl; apply rfl) | (apply T.load; apply rfl; apply rfl; infer_instance; apply rfl; apply rfl) | (apply T.eql; (iterate 3 apply rfl)) | (apply T.ixN; apply rfl; apply rfl; infer_instance; omega; (first | omega | (simp only [List.length_map]; omega) | (simp; omega)); apply rfl) | (apply T.ixF; apply rfl; apply rfl; infer_instance; exact (fun _ => rfl); apply rfl; omega; omega; apply rfl) | (apply T.fieldAddrF; apply rfl; infer_instance; exact (fun _ => rfl); apply rfl; omega; apply rfl) | (apply T.loadF; apply rfl; apply rfl; infer_instance; exact (fun _ => rfl); apply rfl; exact getD_some (by omega); apply rfl; apply rfl) | (apply T.not; apply rfl; apply rfl) | (apply T.pickT; (iterate 3 apply rfl)) | (apply T.pickF; (iterate 3 apply rfl)) | with_reducible refine Sr.nil ?_ | with_reducible refine S.seq ?_ | with_reducible refine S.block ?_ | with_reducible refine S.reg ?_ | (apply S.quiet; apply rfl; kernel_rfl) | (apply T.ungV; apply rfl; (first | with_reducible rfl | decide)) | (apply T.skip; apply rfl; (first | with_reducible rfl | decide); apply rfl) | (apply S.condFV; apply rfl; (first | with_reducible rfl | decide)) | (apply S.condQ; apply rfl; all_goals (intro _; try (exfalso; first | omega | with_reducible contradiction))) | (apply T.gcase; apply rfl; apply rfl; all_goals (intro _; try (exfalso; first | omega | with_reducible contradiction))) | fail)
     all_goals
      refine T.call rfl rfl odd_spec ?_
      rintro _ _ ⟨rfl, rfl⟩
      repeat' (first | (apply T.asn; apply rfl; apply rfl) | with_reducible refine Sr.nil ?_ | (apply T.retW; apply rfl) | (with_reducible apply T.ofRet) | fail)
      exact hodd _ _ ⟨rfl, rfl⟩
  | false =>
   simp only [if_false, Bool.false_eq_true] at hkk ⊢
   have hk7 : ¬ (C.out.getD x.1 default).kind = 7 := by omega
   by_cases h44 : ch.toNat = 44
   ·rw [if_pos h44]
    repeat' (first | (apply T.subI; apply rfl; apply rfl; omega; apply rfl; rw [e2]) | (apply T.loadE; apply rfl; apply rfl; infer_instance; exact htop; apply rfl) | (apply T.mv; apply rfl; apply rfl) | (apply T.asn; apply rfl; apply rfl) | (apply T.len; apply rfl; apply rfl) | (apply T.nilCheck; apply rfl; apply rfl) | (apply T.fieldAddrZ; apply rfl; apply rfl) | (apply T.load; apply rfl; apply rfl; infer_instance; apply rfl; apply rfl) | (apply T.eql; (iterate 3 apply rfl)) | (apply T.addI; apply rfl; apply rfl; omega; apply rfl) | (apply T.ixN; apply rfl; apply rfl; infer_instance; omega; (first | omega | (simp only [List.length_map]; omega) | (simp; omega)); apply rfl) | (apply T.ixF; apply rfl; apply rfl; infer_instance; exact (fun _ => rfl); apply rfl; omega; omega; apply rfl) | (apply T.fieldAddrF; apply rfl; infer_instance; exact (fun _ => rfl); apply rfl; omega; apply rfl) | (apply T.loadF; apply rfl; apply rfl; infer_instance; exact (fun _ => rfl); apply rfl; exact getD_some (by omega); apply rfl; apply rfl) | (apply T.pickT; (iterate 3 apply rfl)) | (apply T.store; apply rfl; apply rfl; infer_instance; (first | decide | (simp; omega) | simp); apply rfl) | with_reducible refine Sr.nil ?_ | with_reducible refine S.seq ?_ | with_reducible refine S.block ?_ | with_reducible refine S.reg ?_ | with_reducible refine S.inBlock ?_ | (apply S.quiet; apply rfl; kernel_rfl) | (apply T.ungV; apply rfl; (first | with_reducible rfl | decide)) | (apply S.condQ; apply rfl; all_goals (intro _; try (exfalso; first | omega | with_reducible contradiction))) | (apply T.gcase; apply rfl; apply rfl; all_goals (intro _; try (exfalso; first | omega | with_reducible contradiction))) | (apply T.retW; apply rfl) | fail)
    exact ⟨_, PSub.refl _, hon 0⟩
   ·rw [if_neg h44]
    by_cases h93 : ch.toNat = 93
    ·rw [if_pos h93]
     repeat' (first | (apply T.subI; apply rfl; apply rfl; omega; apply rfl; rw [e2]) | (apply T.loadE; apply rfl; apply rfl; infer_instance; exact htop; apply rfl) | (apply T.mv; apply rfl; apply rfl) | (apply T.asn; apply rfl; apply rfl) | (apply T.len; apply rfl; apply rfl) | (apply T.nilCheck; apply rfl; apply rfl) | (apply T.fieldAddrZ; apply rfl; apply rfl) | (apply T.load; apply rfl; apply rfl; infer_instance; apply rfl; apply rfl) | (apply T.eql; (iterate 3 apply rfl)) | (apply T.ixN; apply rfl; apply rfl; infer_instance; omega; (first | omega | (simp only [List.length_map]; omega) | (simp; omega)); apply rfl) | (apply T.ixF; apply rfl; apply rfl; infer_instance; exact (fun _ => rfl); apply rfl; omega; omega; apply rfl) | (apply T.fieldAddrF; apply rfl; infer_instance; exact (fun _ => rfl); apply rfl; omega; apply rfl) | (apply T.loadF; apply rfl; apply rfl; infer_instance; exact (fun _ => rfl); apply rfl; exact getD_some (by omega); apply rfl; apply rfl) | (apply T.not; apply rfl; apply rfl) | (apply T.pickT; (iterate 3 apply rfl)) | (apply T.pickF; (iterate 3 apply rfl)) | with_reducible refine Sr.nil ?_ | with_reducible refine S.seq ?_ | with_reducible refine S.block ?_ | with_reducible refine S.reg ?_ | (apply S.quiet; apply rfl; kernel_rfl) | (apply T.ungV; apply rfl; (first | with_reducible rfl | decide)) | (apply T.skip; apply rfl; (first | with_reducible rfl | decide); apply rfl) | (apply S.condFV; apply rfl; (first | with_reducible rfl | decide)) | (apply S.condQ; apply rfl; all_goals (intro _; try (exfalso; first | omega | with_reducible contradiction))) | (apply T.gcase; apply rfl; apply rfl; all_goals (intro _; try (exfalso; first | omega | with_reducible contradiction))) | fail)
     refine T.call rfl rfl hen2 ?_
     intro e H' hS
     obtain ⟨v, rfl⟩ := hS.bool
     repeat' (first | (apply T.asn; apply rfl; apply rfl) | with_reducible refine Sr.nil ?_ | (apply T.retW; apply rfl) | (with_reducible apply T.ofRet) | fail)
     exact ⟨_, PSub.refl _, hS⟩
    ·rw [if_neg h93]
     repeat' (first | (apply T.subI; apply rfl; apply rfl; omega; apply rfl; rw [e2]) | (apply T.loadE; apply rfl; apply rfl; infer_instance; exact htop; apply rfl) | (apply T.mv; apply rfl; apply rfl) | (apply T.asn; apply rfl; apply rfl) | (apply T.len; apply rfl; apply rfl) | (apply T.nilCheck; apply rfl; apply rfl) | (apply T.fieldAddrZ; apply rfl; apply rfl) | (apply T.load; apply rfl; apply rfl; infer_instance; apply rfl; apply rfl) | (apply T.eql; (iterate 3 apply rfl)) | (apply T.ixN; apply rfl; apply rfl; infer_instance; omega; (first | omega | (simp only [List.length_map]; omega) | (simp; omega)); apply rfl) | (apply T.ixF; apply rfl; apply rfl; infer_instance; exact (fun _ => rfl); apply rfl; omega; omega; apply rfl) | (apply T.fieldAddrF; apply rfl; infer_instance; exact (fun _ => rfl); apply rfl; omega; apply rfl) | (apply T.loadF; apply rfl; apply rfl; infer_instance; exact (fun _ => rfl); apply rfl; exact getD_some (by omega); apply rfl; apply rfl) | (apply T.pickT; (iterate 3 apply rfl)) | (apply T.pickF; (iterate 3 apply rfl)) | with_reducible refine Sr.nil ?_ | with_reducible refine S.seq ?_ | with_reducible refine S.block ?_ | with_reducible refine S.reg ?_ | (apply S.quiet; apply rfl; kernel_rfl) | (apply T.ungV; apply rfl; (first | with_reducible rfl | decide)) | (apply T.skip; apply rfl; (first | with_reducible rfl | decide); apply rfl) | (apply S.condFV; apply rfl; (first | with_reducible rfl | decide)) | (apply S.condQ; apply rfl; all_goals (intro _; try (exfalso; first | omega | with_reducible contradiction))) | (apply T.gcase; apply rfl; apply rfl; all_goals (intro _; try (exfalso; first | omega | with_reducible contradiction))) | fail)
     all_goals
      refine T.call rfl rfl odd_spec ?_
      rintro _ _ ⟨rfl, rfl⟩
      repeat' (first | (apply T.asn; apply rfl; apply rfl) | with_reducible refine Sr.nil ?_ | (apply T.retW; apply rfl) | (with_reducible apply T.ofRet) | fail)
      exact hodd _ _ ⟨rfl, rfl⟩
 have hmc : morC c ch = if ch.toNat = 44 then .go { c with p := c.p + 1, s := if x.2.isSome then 2 else 0 } else if ch.toNat = (if x.2.isSome then 125 else 93) then .go (endC c) else .stop 31 c.p := by
  unfold morC
  rw [hobj]
  by_cases h44 : ch.toNat = 44
  ·rw [if_pos h44, if_pos ((e1 44).2 h44)]
  ·rw [if_neg h44, if_neg (fun hh => h44 ((e1 44).1 hh))]
   cases x.2.isSome with
   | true =>
    simp only [if_true]
    by_cases h : ch.toNat = 125
    ·rw [if_pos h, if_pos ((e1 125).2 h)]
    ·rw [if_neg h, if_neg (fun hh => h ((e1 125).1 hh))]
   | false =>
    simp only [if_false, Bool.false_eq_true]
    by_cases h : ch.toNat = 93
    ·rw [if_pos h, if_pos ((e1 93).2 h)]
    ·rw [if_neg h, if_neg (fun hh => h ((e1 93).1 hh))]
 rw [hmc]
 exact key _ rfl
end
end Go.Proofs.YtjajcmedipjfhaaGreatDoor
/- The walks of the program's reader of JSON: a step. -/
namespace Sg
/-- What stands on the stack where a state needs it. -/
structure GoodC (c : Cf) : Prop where
 one : c.s = 1 ∨ c.s = 3 ∨ c.s = 5 → c.stk ≠ []
 top : c.s = 2 ∨ c.s = 3 → topObj c.stk = true
 le : c.s ≤ 6
section
variable {wh : List UInt8 → Int × Bool} {t : List UInt8} {c c' : Cf} {ch : UInt8}
theorem GoodC.behind (c : Cf) : GoodC c.behind := by
 unfold Cf.behind
 cases h : c.stk with
 | nil => exact ⟨fun h => by simp only [behS] at h; omega, fun h => by simp only [behS] at h; omega, Nat.le_refl _⟩
 | cons a r => exact ⟨fun _ => List.cons_ne_nil _ _, fun h => by simp only [behS] at h; omega, (by decide : 5 ≤ 6)⟩
theorem begC_go (h : begC c ch = .go c') : GoodC c' ∧ c'.p = c.p + 1 := by
 unfold begC at h
 split at h
 ·cases h
 ·cases h
  refine ⟨⟨fun _ => List.cons_ne_nil _ _, fun h => ?_, ?_⟩, rfl⟩
  ·by_cases h1 : ch = 123
   ·simp only [h1, if_true]
    rfl
   ·simp only [h1, if_false] at h
    omega
  ·show (if ch = 123 then 3 else 1) ≤ 6
   split <;> decide
theorem valC_go (hp : c.p < t.length) (h : valC wh t c ch = .go c') : GoodC c' ∧ c.p < c'.p := by
 unfold valC at h
 split at h
 ·have := begC_go h
  exact ⟨this.1, by omega⟩
 ·have hfit := flatX_fits (wh := wh) (c := ch) hp
  cases hx : flatX wh t c.p ch with
  | bad e a => rw [hx] at h; cases h
  | ok a l =>
   rw [hx] at h
   cases h
   have := hfit a l hx
   exact ⟨GoodC.behind _, show c.p < a by omega⟩
theorem namC_go (hp : c.p < t.length) (h : namC t c ch = .go c') : GoodC c' ∧ c.p < c'.p := by
 unfold namC at h
 split at h
 ·have hfit := quoted_fits (t := t) (p := c.p + 1) (by omega)
  cases hx : quotedX t (c.p + 1) with
  | bad e a => rw [hx] at h; cases h
  | ok a s =>
   rw [hx] at h
   simp only at h
   have := hfit a s hx
   split at h
   ·split at h
    ·cases h
    ·cases h
     exact ⟨⟨fun h => by simp only at h; omega, fun h => by simp only at h; omega, (by decide : 4 ≤ 6)⟩, show c.p < a by omega⟩
   ·cases h
 ·cases h
theorem endC_go : GoodC (endC c) ∧ c.p < (endC c).p := ⟨GoodC.behind _, Nat.lt_succ_self _⟩
theorem stepC_go (hp : c.p < t.length) (h : stepC wh t c ch = .go c') : GoodC c' ∧ c.p < c'.p := by
 unfold stepC at h
 split at h
 ·exact valC_go hp h
 ·split at h
  ·cases h
   exact endC_go
  ·exact valC_go hp h
 ·exact namC_go hp h
 ·split at h
  ·cases h
   exact endC_go
  ·exact namC_go hp h
 ·split at h
  ·cases h
   exact ⟨⟨fun h => by simp only at h; omega, fun h => by simp only at h; omega, (by decide : 0 ≤ 6)⟩, Nat.lt_succ_self _⟩
  ·cases h
 ·unfold morC at h
  by_cases hb : topObj c.stk = true
  ·simp only [hb, if_true] at h
   split at h
   ·cases h
    exact ⟨⟨fun h => by simp only at h; omega, fun _ => hb, (by decide : 2 ≤ 6)⟩, Nat.lt_succ_self _⟩
   ·split at h
    ·cases h
     exact endC_go
    ·cases h
  ·have hbf : topObj c.stk = false := by simpa using hb
   by_cases h44 : ch = 44
   ·rw [if_pos h44] at h
    cases h
    exact ⟨⟨fun h => by simp [hbf] at h, fun h => by simp [hbf] at h, by simp [hbf]⟩, Nat.lt_succ_self _⟩
   ·rw [if_neg h44, hbf] at h
    by_cases h93 : ch = 93
    ·rw [if_pos (by simpa using h93)] at h
     cases h
     exact endC_go
    ·rw [if_neg (by simpa using h93)] at h
     cases h
 ·cases h
theorem mach_skip {f : Nat} : mach wh t f { c with p := skipB t c.p } = mach wh t f c := by
 cases f with
 | zero => rfl
 | succ f => simp only [mach, skip_skip]
end
end Sg
namespace Go.Proofs.YtjajcmedipjfhaaGreatDoor
open Sg Go.IntWalk
set_option maxRecDepth 100000
set_option maxHeartbeats 4000000
section
variable {F : World} {M : List Nat} {H : List Res} {p : Nat} {t : List UInt8} {C : Jc} {c : Cf}
theorem top_obj (hr : Rel C c) (h : topObj c.stk = true) : ∃ i y r, C.st = (i, some y) :: r := by
 have hs := hr.stk
 cases hck : c.stk with
 | nil => rw [hck] at h; cases h
 | cons z q =>
  rw [hck] at hs h
  obtain ⟨zi, zo⟩ := z
  cases hC : C.st with
  | nil => rw [hC] at hs; exact hs.elim
  | cons x r =>
   rw [hC] at hs
   obtain ⟨xi, xo⟩ := x
   cases zo with
   | none => cases h
   | some ns => cases xo with
    | none => exact hs.2.1.elim
    | some y => exact ⟨xi, y, r, rfl⟩
theorem st_ne (hr : Rel C c) (h : c.stk ≠ []) : C.st ≠ [] := fun e => by
 have := hr.stk.len
 rw [e] at this
 exact h (List.length_eq_zero_iff.1 this.symm)
theorem step_spec (hT : Tabs F M) {ch : UInt8} (ha : C.a < t.length) (hr : Rel C c) (hi : Inv t C) (hg : GoodC c) (hl : t.length ≤ 262144) (hch : t[c.p]? = some ch) :
  Meets Tryz.prog 44 [.pointer (some ⟨p, 0, none⟩)] F M (C.res p t H) (StepP p t H (stepC wholeX t c ch)) := by
 have hu := ch.toNat_lt
 have e1 : ∀ n : UInt8, (ch = n) ↔ (ch.toNat = n.toNat) := fun n => UInt8.toNat_inj.symm
 have hb : bAt t C.a = ch.toNat := by rw [hr.p]; exact bAt_of hch
 have hsC := hr.s
 have hval := value_spec (F := F) (M := M) (p := p) (H := H) (ch := ch) hT ha hr hi hl
 have hend := fun hn => end_step (F := F) (M := M) (p := p) (H := H) ha hr hi hl (st_ne hr hn)
 have hon := fun s' => step_on (p := p) (H := H) hr hi ha s'
 have hodd := fun e H' => odd_step (p := p) (t := t) (H := H) hr (e := e) (H' := H')
 have hnam : topObj c.stk = true → Meets Tryz.prog 78 [.pointer (some ⟨p, 0, none⟩)] F M (C.res p t H) (StepP p t H (namC t c 34)) := fun h => by
  obtain ⟨i, y, r, hst⟩ := top_obj hr h
  exact name_step hT ha hr hi hl hst
 have hmor : c.stk ≠ [] → Meets Tryz.prog 79 [.pointer (some ⟨p, 0, none⟩), .int .u8 (ch.toNat : Nat)] F M (C.res p t H) (StepP p t H (morC c ch)) := fun h => by
  cases hst : C.st with
  | nil => exact absurd hst (st_ne hr h)
  | cons x r => exact more_step ha hr hi hl hst
 unfold Jc.res Jc.cells at hval hend hon hnam hmor ⊢
 unfold Jc.cells at hodd
 refine Meets.enter Tryz.func44 rfl rfl ?_
 repeat' (first | (apply T.mv; apply rfl; apply rfl) | (apply T.asn; apply rfl; apply rfl) | with_reducible refine Sr.nil ?_ | with_reducible refine S.seq ?_ | with_reducible refine S.reg ?_ | fail)
 refine T.call rfl rfl next_spec ?_
 rintro _ _ ⟨rfl, rfl⟩
 rw [hb]
 have hle := hg.le
 unfold stepC
 rcases (by omega : c.s = 0 ∨ c.s = 1 ∨ c.s = 2 ∨ c.s = 3 ∨ c.s = 4 ∨ c.s = 5 ∨ c.s = 6) with h0 | h0 | h0 | h0 | h0 | h0 | h0
 ·rw [h0] at hsC ⊢
  repeat' (first | (apply T.mv; apply rfl; apply rfl) | (apply T.asn; apply rfl; apply rfl) | (apply T.nilCheck; apply rfl; apply rfl) | (apply T.fieldAddrZ; apply rfl; apply rfl) | (apply T.load; apply rfl; apply rfl; infer_instance; apply rfl; apply rfl) | (apply T.eql; (iterate 3 apply rfl)) | with_reducible refine Sr.nil ?_ | with_reducible refine S.seq ?_ | with_reducible refine S.block ?_ | with_reducible refine S.reg ?_ | with_reducible refine S.skip ?_ | (apply S.exit; apply rfl) | (apply S.condQ; apply rfl; all_goals (intro _; try (exfalso; first | omega | with_reducible contradiction))) | (with_reducible apply T.ofRet) | fail)
  refine T.call rfl rfl hval ?_
  intro e H' hS
  obtain ⟨v, rfl⟩ := hS.bool
  repeat' (first | (apply T.asn; apply rfl; apply rfl) | with_reducible refine Sr.nil ?_ | (apply T.retW; apply rfl) | (with_reducible apply T.ofRet) | fail)
  exact ⟨_, PSub.refl _, hS⟩
 ·have hE := hend (hg.one (.inl h0))
  rw [h0] at hsC ⊢
  by_cases h1 : ch.toNat = 93
  ·simp only [(e1 93).2 h1, if_true]
   repeat' (first | (apply T.mv; apply rfl; apply rfl) | (apply T.asn; apply rfl; apply rfl) | (apply T.nilCheck; apply rfl; apply rfl) | (apply T.fieldAddrZ; apply rfl; apply rfl) | (apply T.load; apply rfl; apply rfl; infer_instance; apply rfl; apply rfl) | (apply T.eql; (iterate 3 apply rfl)) | with_reducible refine Sr.nil ?_ | with_reducible refine S.seq ?_ | with_reducible refine S.block ?_ | with_reducible refine S.reg ?_ | (apply S.exit; apply rfl) | (apply S.condTV; apply rfl; (first | with_reducible rfl | decide)) | (apply S.condQ; apply rfl; all_goals (intro _; try (exfalso; first | omega | with_reducible contradiction))) | (with_reducible apply T.ofRet) | fail)
   refine T.call rfl rfl hE ?_
   intro e H' hS
   obtain ⟨v, rfl⟩ := hS.bool
   repeat' (first | (apply T.asn; apply rfl; apply rfl) | with_reducible refine Sr.nil ?_ | (apply T.retW; apply rfl) | (with_reducible apply T.ofRet) | fail)
   exact ⟨_, PSub.refl _, hS⟩
  ·simp only [show ¬ ch = 93 from fun hh => h1 ((e1 93).1 hh), if_false]
   repeat' (first | (apply T.mv; apply rfl; apply rfl) | (apply T.asn; apply rfl; apply rfl) | (apply T.nilCheck; apply rfl; apply rfl) | (apply T.fieldAddrZ; apply rfl; apply rfl) | (apply T.load; apply rfl; apply rfl; infer_instance; apply rfl; apply rfl) | (apply T.eql; (iterate 3 apply rfl)) | with_reducible refine Sr.nil ?_ | with_reducible refine S.seq ?_ | with_reducible refine S.block ?_ | with_reducible refine S.reg ?_ | with_reducible refine S.skip ?_ | with_reducible refine S.inBlock ?_ | (apply S.exit; apply rfl) | (apply S.condQ; apply rfl; all_goals (intro _; try (exfalso; first | omega | with_reducible contradiction))) | (with_reducible apply T.ofRet) | fail)
   refine T.call rfl rfl hval ?_
   intro e H' hS
   obtain ⟨v, rfl⟩ := hS.bool
   repeat' (first | (apply T.asn; apply rfl; apply rfl) | with_reducible refine Sr.nil ?_ | (apply T.retW; apply rfl) | (with_reducible apply T.ofRet) | fail)
   exact ⟨_, PSub.refl _, hS⟩
 ·have hN := hnam (hg.top (.inl h0))
  rw [h0] at hsC ⊢
  by_cases h1 : ch.toNat = 34
  ·obtain rfl : ch = 34 := (e1 34).2 h1
   repeat' (first | (apply T.mv; apply rfl; apply rfl) | (apply T.asn; apply rfl; apply rfl) | (apply T.nilCheck; apply rfl; apply rfl) | (apply T.fieldAddrZ; apply rfl; apply rfl) | (apply T.load; apply rfl; apply rfl; infer_instance; apply rfl; apply rfl) | (apply T.eql; (iterate 3 apply rfl)) | (apply T.neq; (iterate 3 apply rfl)) | with_reducible refine Sr.nil ?_ | with_reducible refine S.seq ?_ | with_reducible refine S.block ?_ | with_reducible refine S.reg ?_ | with_reducible refine S.skip ?_ | (apply S.exit; apply rfl) | (apply S.condFV; apply rfl; (first | with_reducible rfl | decide)) | (apply S.condQ; apply rfl; all_goals (intro _; try (exfalso; first | omega | with_reducible contradiction))) | (with_reducible apply T.ofRet) | fail)
   refine T.call rfl rfl hN ?_
   intro e H' hS
   obtain ⟨v, rfl⟩ := hS.bool
   repeat' (first | (apply T.asn; apply rfl; apply rfl) | with_reducible refine Sr.nil ?_ | (apply T.retW; apply rfl) | (with_reducible apply T.ofRet) | fail)
   exact ⟨_, PSub.refl _, hS⟩
  ·have hn : namC t c ch = .stop 31 c.p := by
    unfold namC
    rw [if_neg (fun hh => h1 ((e1 34).1 hh))]
   simp only [hn]
   repeat' (first | (apply T.mv; apply rfl; apply rfl) | (apply T.asn; apply rfl; apply rfl) | (apply T.nilCheck; apply rfl; apply rfl) | (apply T.fieldAddrZ; apply rfl; apply rfl) | (apply T.load; apply rfl; apply rfl; infer_instance; apply rfl; apply rfl) | (apply T.eql; (iterate 3 apply rfl)) | (apply T.neq; (iterate 3 apply rfl)) | with_reducible refine Sr.nil ?_ | with_reducible refine S.seq ?_ | with_reducible refine S.block ?_ | with_reducible refine S.reg ?_ | with_reducible refine S.skip ?_ | (apply S.exit; apply rfl) | (apply S.condQ; apply rfl; all_goals (intro _; try (exfalso; first | omega | with_reducible contradiction))) | (with_reducible apply T.ofRet) | fail)
   refine T.call rfl rfl odd_spec ?_
   rintro _ _ ⟨rfl, rfl⟩
   repeat' (first | (apply T.asn; apply rfl; apply rfl) | with_reducible refine Sr.nil ?_ | (apply T.retW; apply rfl) | (with_reducible apply T.ofRet) | fail)
   exact hodd _ _ ⟨rfl, rfl⟩
 ·have hE := hend (hg.one (.inr (.inl h0)))
  have hN := hnam (hg.top (.inr h0))
  rw [h0] at hsC ⊢
  by_cases h2 : ch.toNat = 125
  ·simp only [(e1 125).2 h2, if_true]
   repeat' (first | (apply T.mv; apply rfl; apply rfl) | (apply T.asn; apply rfl; apply rfl) | (apply T.nilCheck; apply rfl; apply rfl) | (apply T.fieldAddrZ; apply rfl; apply rfl) | (apply T.load; apply rfl; apply rfl; infer_instance; apply rfl; apply rfl) | (apply T.eql; (iterate 3 apply rfl)) | with_reducible refine Sr.nil ?_ | with_reducible refine S.seq ?_ | with_reducible refine S.block ?_ | with_reducible refine S.reg ?_ | with_reducible refine S.skip ?_ | (apply S.exit; apply rfl) | (apply S.condTV; apply rfl; (first | with_reducible rfl | decide)) | (apply S.condQ; apply rfl; all_goals (intro _; try (exfalso; first | omega | with_reducible contradiction))) | (with_reducible apply T.ofRet) | fail)
   refine T.call rfl rfl hE ?_
   intro e H' hS
   obtain ⟨v, rfl⟩ := hS.bool
   repeat' (first | (apply T.asn; apply rfl; apply rfl) | with_reducible refine Sr.nil ?_ | (apply T.retW; apply rfl) | (with_reducible apply T.ofRet) | fail)
   exact ⟨_, PSub.refl _, hS⟩
  ·simp only [show ¬ ch = 125 from fun hh => h2 ((e1 125).1 hh), if_false]
   by_cases h1 : ch.toNat = 34
   ·obtain rfl : ch = 34 := (e1 34).2 h1
    repeat' (first | (apply T.mv; apply rfl; apply rfl) | (apply T.asn; apply rfl; apply rfl) | (apply T.nilCheck; apply rfl; apply rfl) | (apply T.fieldAddrZ; apply rfl; apply rfl) | (apply T.load; apply rfl; apply rfl; infer_instance; apply rfl; apply rfl) | (apply T.eql; (iterate 3 apply rfl)) | (apply T.neq; (iterate 3 apply rfl)) | with_reducible refine Sr.nil ?_ | with_reducible refine S.seq ?_ | with_reducible refine S.block ?_ | with_reducible refine S.reg ?_ | with_reducible refine S.skip ?_ | with_reducible refine S.inBlock ?_ | (apply S.exit; apply rfl) | (apply S.condFV; apply rfl; (first | with_reducible rfl | decide)) | (apply S.condQ; apply rfl; all_goals (intro _; try (exfalso; first | omega | with_reducible contradiction))) | (with_reducible apply T.ofRet) | fail)
    refine T.call rfl rfl hN ?_
    intro e H' hS
    obtain ⟨v, rfl⟩ := hS.bool
    repeat' (first | (apply T.asn; apply rfl; apply rfl) | with_reducible refine Sr.nil ?_ | (apply T.retW; apply rfl) | (with_reducible apply T.ofRet) | fail)
    exact ⟨_, PSub.refl _, hS⟩
   ·have hn : namC t c ch = .stop 31 c.p := by
     unfold namC
     rw [if_neg (fun hh => h1 ((e1 34).1 hh))]
    simp only [hn]
    repeat' (first | (apply T.mv; apply rfl; apply rfl) | (apply T.asn; apply rfl; apply rfl) | (apply T.nilCheck; apply rfl; apply rfl) | (apply T.fieldAddrZ; apply rfl; apply rfl) | (apply T.load; apply rfl; apply rfl; infer_instance; apply rfl; apply rfl) | (apply T.eql; (iterate 3 apply rfl)) | (apply T.neq; (iterate 3 apply rfl)) | with_reducible refine Sr.nil ?_ | with_reducible refine S.seq ?_ | with_reducible refine S.block ?_ | with_reducible refine S.reg ?_ | with_reducible refine S.skip ?_ | with_reducible refine S.inBlock ?_ | (apply S.exit; apply rfl) | (apply S.condQ; apply rfl; all_goals (intro _; try (exfalso; first | omega | with_reducible contradiction))) | (with_reducible apply T.ofRet) | fail)
    refine T.call rfl rfl odd_spec ?_
    rintro _ _ ⟨rfl, rfl⟩
    repeat' (first | (apply T.asn; apply rfl; apply rfl) | with_reducible refine Sr.nil ?_ | (apply T.retW; apply rfl) | (with_reducible apply T.ofRet) | fail)
    exact hodd _ _ ⟨rfl, rfl⟩
 ·rw [h0] at hsC ⊢
  by_cases h1 : ch.toNat = 58
  ·simp only [(e1 58).2 h1, if_true]
   have hat := hi.at_
   repeat' (first | (apply T.mv; apply rfl; apply rfl) | (apply T.asn; apply rfl; apply rfl) | (apply T.nilCheck; apply rfl; apply rfl) | (apply T.fieldAddrZ; apply rfl; apply rfl) | (apply T.load; apply rfl; apply rfl; infer_instance; apply rfl; apply rfl) | (apply T.eql; (iterate 3 apply rfl)) | (apply T.neq; (iterate 3 apply rfl)) | (apply T.addI; apply rfl; apply rfl; omega; apply rfl) | (apply T.store; apply rfl; apply rfl; infer_instance; (first | decide | (simp; omega) | simp); apply rfl) | with_reducible refine Sr.nil ?_ | with_reducible refine S.seq ?_ | with_reducible refine S.block ?_ | with_reducible refine S.reg ?_ | with_reducible refine S.skip ?_ | (apply S.exit; apply rfl) | (apply S.condFV; apply rfl; (first | with_reducible rfl | decide)) | (apply S.condQ; apply rfl; all_goals (intro _; try (exfalso; first | omega | with_reducible contradiction))) | (apply T.retW; apply rfl) | (with_reducible apply T.ofRet) | fail)
   exact ⟨_, PSub.refl _, hon 0⟩
  ·simp only [show ¬ ch = 58 from fun hh => h1 ((e1 58).1 hh), if_false]
   repeat' (first | (apply T.mv; apply rfl; apply rfl) | (apply T.asn; apply rfl; apply rfl) | (apply T.nilCheck; apply rfl; apply rfl) | (apply T.fieldAddrZ; apply rfl; apply rfl) | (apply T.load; apply rfl; apply rfl; infer_instance; apply rfl; apply rfl) | (apply T.eql; (iterate 3 apply rfl)) | (apply T.neq; (iterate 3 apply rfl)) | with_reducible refine Sr.nil ?_ | with_reducible refine S.seq ?_ | with_reducible refine S.block ?_ | with_reducible refine S.reg ?_ | with_reducible refine S.skip ?_ | (apply S.exit; apply rfl) | (apply S.condQ; apply rfl; all_goals (intro _; try (exfalso; first | omega | with_reducible contradiction))) | (with_reducible apply T.ofRet) | fail)
   refine T.call rfl rfl odd_spec ?_
   rintro _ _ ⟨rfl, rfl⟩
   repeat' (first | (apply T.asn; apply rfl; apply rfl) | with_reducible refine Sr.nil ?_ | (apply T.retW; apply rfl) | (with_reducible apply T.ofRet) | fail)
   exact hodd _ _ ⟨rfl, rfl⟩
 ·have hM := hmor (hg.one (.inr (.inr h0)))
  rw [h0] at hsC ⊢
  repeat' (first | (apply T.mv; apply rfl; apply rfl) | (apply T.asn; apply rfl; apply rfl) | (apply T.nilCheck; apply rfl; apply rfl) | (apply T.fieldAddrZ; apply rfl; apply rfl) | (apply T.load; apply rfl; apply rfl; infer_instance; apply rfl; apply rfl) | (apply T.eql; (iterate 3 apply rfl)) | with_reducible refine Sr.nil ?_ | with_reducible refine S.seq ?_ | with_reducible refine S.block ?_ | with_reducible refine S.reg ?_ | with_reducible refine S.skip ?_ | (apply S.exit; apply rfl) | (apply S.condQ; apply rfl; all_goals (intro _; try (exfalso; first | omega | with_reducible contradiction))) | (with_reducible apply T.ofRet) | fail)
  refine T.call rfl rfl hM ?_
  intro e H' hS
  obtain ⟨v, rfl⟩ := hS.bool
  repeat' (first | (apply T.asn; apply rfl; apply rfl) | with_reducible refine Sr.nil ?_ | (apply T.retW; apply rfl) | (with_reducible apply T.ofRet) | fail)
  exact ⟨_, PSub.refl _, hS⟩
 ·rw [h0] at hsC ⊢
  repeat' (first | (apply T.mv; apply rfl; apply rfl) | (apply T.asn; apply rfl; apply rfl) | (apply T.nilCheck; apply rfl; apply rfl) | (apply T.fieldAddrZ; apply rfl; apply rfl) | (apply T.load; apply rfl; apply rfl; infer_instance; apply rfl; apply rfl) | (apply T.eql; (iterate 3 apply rfl)) | with_reducible refine Sr.nil ?_ | with_reducible refine S.seq ?_ | with_reducible refine S.block ?_ | with_reducible refine S.reg ?_ | with_reducible refine S.skip ?_ | (apply S.exit; apply rfl) | (apply S.condQ; apply rfl; all_goals (intro _; try (exfalso; first | omega | with_reducible contradiction))) | (with_reducible apply T.ofRet) | fail)
  refine T.call rfl rfl odd_spec ?_
  rintro _ _ ⟨rfl, rfl⟩
  repeat' (first | (apply T.asn; apply rfl; apply rfl) | with_reducible refine Sr.nil ?_ | (apply T.retW; apply rfl) | (with_reducible apply T.ofRet) | fail)
  exact hodd _ _ ⟨rfl, rfl⟩
end
end Go.Proofs.YtjajcmedipjfhaaGreatDoor
/- The walks of the program's reader of JSON: it says what going down says. -/
namespace Go.Proofs.YtjajcmedipjfhaaGreatDoor
open Sg Go.IntWalk
set_option maxRecDepth 100000
set_option maxHeartbeats 4000000
section
variable {F : World} {M : List Nat} {H : List Res} {p : Nat} {t : List UInt8} {C : Jc} {c : Cf}
/-- What the reader of JSON answers. -/
def ParP (H : List Res) : Gt (List Nd) → Ending → List Res → Prop
 | .ok _ l => fun e H' => ∃ oa oc, e = .returned (.tuple ⟨[.slice oa l.length oc, .int .i64 0, .int .i64 0]⟩) ∧ H' = ouR oa oc l :: H
 | .bad c a => fun e H' => e = .returned (.tuple ⟨[.slice none 0 0, .int .i64 c, .int .i64 a]⟩) ∧ H' = H
theorem blank_on (hr : Rel C c) (hi : Inv t C) : Rel { C with a := skipB t C.a } { c with p := skipB t c.p } ∧ Inv t { C with a := skipB t C.a } := by
 have h1 := skip_ge t C.a
 have h2 := skip_le (t := t) hi.at_
 refine ⟨⟨?_, hr.s, hr.out, hr.key, hr.stk⟩, ⟨h2, ?_, hi.kids, hi.idx, hi.kind, fun z hz y hy => ?_, hi.dep⟩⟩
 ·show skipB t C.a = skipB t c.p
  rw [hr.p]
 ·have := hi.outl
  show C.out.length ≤ skipB t C.a
  omega
 ·have := hi.maps z hz y hy
  show y.2.length ≤ skipB t C.a
  omega
theorem good_blank (h : GoodC c) (q : Nat) : GoodC { c with p := q } := ⟨h.one, h.top, h.le⟩
theorem rest_sub (C : Jc) (p : Nat) (t : List UInt8) (H : List Res) : PSub (ouR C.oa C.oc C.out :: H) (C.res p t H) :=
 PSub.drop (PSub.take pick_hd (PSub.drop (PSub.drop (maps_sub H C.st))))
theorem parse_spec (hT : Tabs F M) (h63 : t.length ≤ maxLen) : Meets Tryz.prog 21 [sV t] F M H (ParP H (parseX wholeX t)) := by
 refine Meets.enter Tryz.func21 rfl rfl ?_
 by_cases hl : 262144 < t.length
 ·have hp : parseX wholeX t = .bad 10 0 := by unfold parseX; rw [if_pos hl]
  rw [hp]
  repeat' (first | (apply T.slen; apply rfl; apply rfl) | (apply T.mv; apply rfl; apply rfl) | (apply T.asn; apply rfl; apply rfl) | (apply T.gtr; (iterate 3 apply rfl)) | with_reducible refine Sr.nil ?_ | with_reducible refine S.seq ?_ | with_reducible refine S.reg ?_ | (apply S.condQ; apply rfl; all_goals (intro _; try (exfalso; first | omega | with_reducible contradiction))) | (apply T.retW; apply rfl) | fail)
  exact ⟨_, PSub.refl _, rfl, rfl⟩
 ·have hl' : t.length ≤ 262144 := by omega
  rw [← mach_parse hl']
  refine S.nilrow 55 1 ?_
  refine S.nilrow 3 1 ?_
  refine S.nilrow 34 6 ?_
  repeat' (first | (apply T.slen; apply rfl; apply rfl) | (apply T.mv; apply rfl; apply rfl) | (apply T.asn; apply rfl; apply rfl) | (apply T.gtr; (iterate 3 apply rfl)) | (apply T.buildL; (iterate 3 apply rfl)) | (apply T.box; apply rfl; apply rfl; intro nb) | with_reducible refine Sr.nil ?_ | with_reducible refine S.seq ?_ | with_reducible refine S.reg ?_ | with_reducible refine S.skip ?_ | (apply S.condQ; apply rfl; all_goals (intro _; try (exfalso; first | omega | with_reducible contradiction))) | fail)
  refine T.call rfl rfl (blanks_spec (t := t) (o := .slice none 0 0) (n := .slice none 0 0) (m := .slice none 0 0) (a := 0) (s := 0) (k := []) (c := 0) (b := 0) (Nat.zero_le _) (by omega)) ?_
  rintro _ _ ⟨rfl, rfl⟩
  have h0 : mach wholeX t (t.length + 1) ⟨skipB t 0, 0, [], [], []⟩ = mach wholeX t (t.length + 1) ⟨0, 0, [], [], []⟩ := mach_skip (c := ⟨0, 0, [], [], []⟩)
  have hsl := skip_le (t := t) (p := 0) (Nat.zero_le _)
  rw [← h0]
  generalize hQ : mach wholeX t (t.length + 1) ⟨skipB t 0, 0, [], [], []⟩ = Q
  repeat' (first | with_reducible refine Sr.nil ?_ | with_reducible refine S.block ?_ | (with_reducible apply T.ofRet) | fail)
  refine S.loopE 4 [0, 5] (fun R b' μ H' e => ∃ (C : Jc) (c : Cf) (f : Nat), H' = C.res nb t R ∧ e = b' ∧ (Rel C c ∧ Inv t C ∧ GoodC c ∧ skipB t c.p = c.p ∧ t.length < c.p + f ∧ mach wholeX t f c = Q) ∧ μ = t.length - C.a) rfl rfl ?_ _ _ ⟨⟨none, 0, none, 0, none, 0, [], [], skipB t 0, 0, []⟩, ⟨skipB t 0, 0, [], [], []⟩, t.length + 1, rfl, rfl, ⟨⟨rfl, rfl, rfl, rfl, trivial⟩, ⟨hsl, Nat.zero_le _, fun x hx => by (exact absurd hx List.not_mem_nil), fun x hx => by (exact absurd hx List.not_mem_nil), fun x hx => by (exact absurd hx List.not_mem_nil), fun x hx => by (exact absurd hx List.not_mem_nil), Nat.zero_le _⟩, ⟨fun h => by simp only at h; omega, fun h => by simp only at h; omega, (by decide : 0 ≤ 6)⟩, skip_skip _ _, (show t.length < skipB t 0 + (t.length + 1) by omega), hQ⟩, rfl⟩ (by repeat' first | exact trivial | refine And.intro rfl ?_)
  rintro _ _ _ ⟨C, c, f, rfl, rfl, ⟨hr, hi, hg, hsk, hf, hm⟩, rfl⟩ ih
  clear hQ h0
  have hpa := hr.p
  have hat := hi.at_
  obtain ⟨f, rfl⟩ : ∃ g, f = g + 1 := ⟨f - 1, by omega⟩
  by_cases ha : C.a < t.length
  ·have hch : t[c.p]? = some (t.getD c.p 0) := by rw [← hpa]; simp [List.getD, ha]
   have hst := step_spec (F := F) (M := M) (p := nb) (H := H) hT ha hr hi hg hl' hch
   have hm2 : mach wholeX t (f + 1) c = match stepC wholeX t c (t.getD c.p 0) with
    | .go c' => mach wholeX t f c'
    | .stop e a => .bad e a := by
    simp only [mach, hsk, hch]
    rfl
   unfold Jc.res Jc.cells at hst ⊢
   repeat' (first | (apply T.slen; apply rfl; apply rfl) | (apply T.mv; apply rfl; apply rfl) | (apply T.nilCheck; apply rfl; apply rfl) | (apply T.fieldAddrZ; apply rfl; apply rfl) | (apply T.load; apply rfl; apply rfl; infer_instance; apply rfl; apply rfl) | (apply T.lss; (iterate 3 apply rfl)) | with_reducible refine Sr.nil ?_ | with_reducible refine S.seq ?_ | with_reducible refine S.block ?_ | with_reducible refine S.reg ?_ | with_reducible refine S.skip ?_ | (apply S.condQ; apply rfl; all_goals (intro _; try (exfalso; first | omega | with_reducible contradiction))) | fail)
   refine T.call rfl rfl hst ?_
   clear hst
   cases hsc : stepC wholeX t c (t.getD c.p 0) with
   | stop e1 a1 =>
    rw [hsc] at hm2
    rintro _ _ ⟨o, n, m, a, s, k, rfl, rfl⟩
    rw [← hm, hm2]
    repeat' (first | (apply T.mv; apply rfl; apply rfl) | (apply T.asn; apply rfl; apply rfl) | (apply T.nilCheck; apply rfl; apply rfl) | (apply T.fieldAddrZ; apply rfl; apply rfl) | (apply T.load; apply rfl; apply rfl; infer_instance; apply rfl; apply rfl) | (apply T.notB; apply rfl; apply rfl) | with_reducible refine Sr.nil ?_ | with_reducible refine S.seq ?_ | (apply S.quiet; apply rfl; kernel_rfl) | (apply S.condTV; apply rfl; (first | with_reducible rfl | decide)) | (apply T.retW; apply rfl) | (with_reducible apply T.ofRet) | fail)
    exact ⟨_, PSub.drop (PSub.refl _), rfl, rfl⟩
   | go c' =>
    rw [hsc] at hm2
    obtain ⟨g1, g2⟩ := stepC_go (by rw [← hpa]; exact ha) hsc
    rintro _ _ ⟨C', rfl, rfl, hr', hi'⟩
    have hpa' := hr'.p
    unfold Jc.res Jc.cells
    repeat' (first | (apply T.mv; apply rfl; apply rfl) | (apply T.notB; apply rfl; apply rfl) | with_reducible refine Sr.nil ?_ | with_reducible refine S.reg ?_ | with_reducible refine S.skip ?_ | with_reducible refine S.inBlock ?_ | (apply S.condFV; apply rfl; (first | with_reducible rfl | decide)) | (with_reducible apply T.ofRet) | fail)
    refine T.call rfl rfl (blanks_spec hi'.at_ (by omega)) ?_
    rintro _ _ ⟨rfl, rfl⟩
    repeat' (first | with_reducible refine Sr.nil ?_ | (with_reducible apply T.ofRet) | fail)
    have hbl := blank_on hr' hi'
    have hge := skip_ge t C'.a
    exact ih _ _ _ _ ⟨{ C' with a := skipB t C'.a }, { c' with p := skipB t c'.p }, f, rfl, rfl, ⟨hbl.1, hbl.2, good_blank g1 _, skip_skip _ _, (show t.length < skipB t c'.p + f by rw [← hpa'] at g2 ⊢; omega), by rw [mach_skip]; exact hm2.symm.trans hm⟩, rfl⟩ (show t.length - skipB t C'.a < t.length - C.a by omega) (by repeat' first | exact trivial | refine And.intro rfl ?_)
  ·have hae : C.a = t.length := by omega
   have hch : t[c.p]? = none := by rw [← hpa]; exact List.getElem?_eq_none (by omega)
   have hm2 : mach wholeX t (f + 1) c = if c.s = 6 then .ok (skipB t c.p) c.out else .bad 31 t.length := by
    simp only [mach, hsk, hch]
   have hss := hr.s
   have hoo := hr.out
   have hsub := rest_sub C nb t H
   unfold Jc.res Jc.cells at hsub ⊢
   rw [← hm, hm2]
   by_cases h6 : C.s = 6
   ·rw [if_pos (by rw [← hss]; exact h6)]
    repeat' (first | (apply T.slen; apply rfl; apply rfl) | (apply T.mv; apply rfl; apply rfl) | (apply T.asn; apply rfl; apply rfl) | (apply T.nilCheck; apply rfl; apply rfl) | (apply T.fieldAddrZ; apply rfl; apply rfl) | (apply T.load; apply rfl; apply rfl; infer_instance; apply rfl; apply rfl) | (apply T.lss; (iterate 3 apply rfl)) | (apply T.neq; (iterate 3 apply rfl)) | with_reducible refine Sr.nil ?_ | with_reducible refine S.seq ?_ | with_reducible refine S.reg ?_ | with_reducible refine S.skip ?_ | (apply S.exit; apply rfl) | (apply S.condQ; apply rfl; all_goals (intro _; try (exfalso; first | omega | with_reducible contradiction))) | (apply T.retW; apply rfl) | fail)
    rw [← hoo]
    exact ⟨_, hsub, C.oa, C.oc, rfl, rfl⟩
   ·rw [if_neg (by rw [← hss]; exact h6)]
    repeat' (first | (apply T.slen; apply rfl; apply rfl) | (apply T.mv; apply rfl; apply rfl) | (apply T.asn; apply rfl; apply rfl) | (apply T.nilCheck; apply rfl; apply rfl) | (apply T.fieldAddrZ; apply rfl; apply rfl) | (apply T.load; apply rfl; apply rfl; infer_instance; apply rfl; apply rfl) | (apply T.lss; (iterate 3 apply rfl)) | (apply T.neq; (iterate 3 apply rfl)) | with_reducible refine Sr.nil ?_ | with_reducible refine S.seq ?_ | with_reducible refine S.reg ?_ | (apply S.exit; apply rfl) | (apply S.condQ; apply rfl; all_goals (intro _; try (exfalso; first | omega | with_reducible contradiction))) | (apply T.retW; apply rfl) | fail)
    exact ⟨_, PSub.drop (PSub.drop (PSub.drop (PSub.drop (maps_sub H C.st)))), rfl, rfl⟩
end
end Go.Proofs.YtjajcmedipjfhaaGreatDoor
/- A literal of records is a growable row. -/
namespace Sg
open Go Go.RowKit
theorem St.blkRowN {F : World} {M : List Nat} {w : World} {H : List Res} {b n sz : Nat} {vs : List Value} {E : TypeId} (h : St F M w (.blk b vs E :: H)) (hn : vs.length = n * sz) (hm : n ≤ maxLen) : St F M w (.row (some ⟨b, 0, none⟩) n E sz n vs :: H) := by
 refine h.weakB (fun _ h => h) h.nd (fun r hr => ?_)
 rcases List.mem_cons.1 hr with rfl | hr
 ·have hb : w.heap[b]? = some (.cells ⟨vs⟩ E (0, 0)) := h.res _ (List.mem_cons_self ..)
  exact ⟨hn, .inr ⟨b, n, ⟨vs⟩, rfl, Nat.zero_le _, hb, Nat.le_refl _, hm, by simp [hn], by simp only [Nat.zero_mul, List.drop_zero, Nat.zero_add]; rw [← hn]; exact List.take_length⟩⟩
 ·exact h.res r (List.mem_cons_of_mem _ hr)
section
variable {c : Ctx} {dr : Bool} {ds : List Deferred} {H : List Res} {e : Env} {ops : Array Oper} {l : List Oper} {κ : List Res → Env → Prop}
theorem S.rowOfN {k : List Item} {b n sz : Nat} {vs : List Value} {E : TypeId} (hn : vs.length = n * sz) (hm : n ≤ maxLen) (h : S c ds (.row (some ⟨b, 0, none⟩) n E sz n vs :: H) k e) : S c ds (.blk b vs E :: H) k e := h.weaken fun _ hw => hw.blkRowN hn hm
end
end Sg
/- The walks of the program's looks at nodes: what stands behind a value, what stands in it, its members. -/
namespace Go.Proofs.YtjajcmedipjfhaaGreatDoor
open Sg Go.IntWalk
set_option maxRecDepth 100000
set_option maxHeartbeats 4000000
section
variable {F : World} {M : List Nat} {H : List Res} {v : List Nd} {p : Nat} {oa : Option Addr} {oc n : Nat}
theorem behindN_spec {x r : List Nd} [Rd F M H oa (v.flatMap ndV)] (hn : v.length = n) (hl : n ≤ 1100000) (hx : Fo 1 x) (hd : v.drop p = x ++ r) :
  Meets Tryz.prog 45 [.slice oa n oc, .int .i64 p] F M H (fun e H' => e = .returned (.int .i64 (p + x.length : Nat)) ∧ H' = H) := by
 subst hn
 refine Meets.enter Tryz.func45 rfl rfl ?_
 have h0 := drop_le hd hx.pos
 have h1 := hx.pos
 repeat' (first | (apply T.mv; apply rfl; apply rfl) | (apply T.asn; apply rfl; apply rfl) | (apply T.len; apply rfl; apply rfl) | (apply T.lss; (iterate 3 apply rfl)) | (apply T.geq; (iterate 3 apply rfl)) | (apply T.pickF; (iterate 3 apply rfl)) | with_reducible refine Sr.nil ?_ | with_reducible refine S.seq ?_ | with_reducible refine S.block ?_ | with_reducible refine S.reg ?_ | with_reducible refine S.skip ?_ | (apply T.ungV; apply rfl; (first | with_reducible rfl | decide)) | (apply S.condQ; apply rfl; all_goals (intro _; try (exfalso; first | omega | with_reducible contradiction))) | (apply T.gcase; apply rfl; apply rfl; all_goals (intro _; try (exfalso; first | omega | with_reducible contradiction))) | fail)
 refine S.loopE 0 [0] (fun R b' μ H' e => ∃ (q k : Nat) (y : List Nd) (z : Int), H' = R ∧ e = (1, .int .i64 q) :: (5, .int .i64 z) :: b' ∧ (Fo k y ∧ v.drop q = y ++ r ∧ q + y.length = p + x.length ∧ z = (k : Int)) ∧ μ = v.length - q) rfl rfl ?_ _ _ ⟨p, 1, x, 1, rfl, rfl, ⟨hx, hd, rfl, rfl⟩, rfl⟩ (by repeat' first | exact trivial | refine And.intro rfl ?_)
 rintro _ _ _ ⟨q, k, y, z, rfl, rfl, ⟨h2, h3, h4, h5⟩, rfl⟩ ih
 cases h2 with
 | nil =>
  subst h5
  have h6 : q = p + x.length := h4
  repeat' (first | (apply T.mv; apply rfl; apply rfl) | (apply T.asn; apply rfl; apply rfl) | (apply T.gtr; (iterate 3 apply rfl)) | (apply T.pickF; (iterate 3 apply rfl)) | with_reducible refine Sr.nil ?_ | with_reducible refine S.seq ?_ | with_reducible refine S.reg ?_ | (apply S.exit; apply rfl) | (apply T.skip; apply rfl; (first | with_reducible rfl | decide); apply rfl) | (apply S.condFV; apply rfl; (first | with_reducible rfl | decide)) | (apply T.retW; apply rfl) | fail)
  exact ⟨_, PSub.refl _, by rw [h6], rfl⟩
 | @node nn m k' a b hk ha hb =>
  obtain ⟨h6, h7⟩ := drop_head (b := a ++ b ++ r) (by simpa using h3)
  have h8 : (v.getD q default).kids = (m : Int) := by rw [h6, hk]
  have h9 := ha.le
  have h10 := hb.le
  have h11 : v.drop (q + 1) = (a ++ b) ++ r := by
   rw [← List.drop_drop, h3]
   rfl
  simp only [List.length_cons, List.length_append] at h4
  repeat' (first | (apply T.mv; apply rfl; apply rfl) | (apply T.asn; apply rfl; apply rfl) | (apply T.len; apply rfl; apply rfl) | (apply T.lss; (iterate 3 apply rfl)) | (apply T.gtr; (iterate 3 apply rfl)) | (apply T.addI; apply rfl; apply rfl; omega; apply rfl) | (apply T.subI; apply rfl; apply rfl; omega; apply rfl) | (apply T.ixF; apply rfl; apply rfl; infer_instance; exact (fun _ => rfl); apply rfl; omega; omega; apply rfl) | (apply T.fieldAddrF; apply rfl; infer_instance; exact (fun _ => rfl); apply rfl; omega; apply rfl) | (apply T.loadF; apply rfl; apply rfl; infer_instance; exact (fun _ => rfl); apply rfl; exact getD_some (by omega); apply rfl; apply rfl) | (apply T.pickT; (iterate 3 apply rfl)) | with_reducible refine Sr.nil ?_ | with_reducible refine S.seq ?_ | with_reducible refine S.block ?_ | with_reducible refine S.reg ?_ | with_reducible refine S.skip ?_ | with_reducible refine S.inBlock ?_ | (apply T.ungV; apply rfl; (first | with_reducible rfl | decide)) | (apply S.condQ; apply rfl; all_goals (intro _; try (exfalso; first | omega | with_reducible contradiction))) | (apply T.gcase; apply rfl; apply rfl; all_goals (intro _; try (exfalso; first | omega | with_reducible contradiction))) | fail)
  exact ih _ _ _ _ ⟨q + 1, m + k', a ++ b, z + ((v.getD q default).kids - 1), rfl, rfl, ⟨ha.app hb, h11, by rw [List.length_append]; omega, by omega⟩, rfl⟩ (by omega) (by repeat' first | exact trivial | refine And.intro rfl ?_)
theorem kids_spec {nn : Nd} {xs : List (List Nd)} {r : List Nd} [Rd F M H oa (v.flatMap ndV)] (hn : v.length = n) (hl : n ≤ 1100000) (ha : At v p nn xs r) :
  Meets Tryz.prog 46 [.slice oa n oc, .int .i64 p] F M H (fun e H' => ∃ ka kc, e = .returned (.slice ka xs.length kc) ∧ H' = .row ka kc 3 1 xs.length ((offs (p + 1) xs).map nV) :: H) := by
 subst hn
 refine Meets.enter Tryz.func46 rfl rfl ?_
 obtain ⟨g1, g2⟩ := drop_head ha.drop
 have g3 : (v.getD p default).kids = (xs.length : Int) := by rw [g1, ha.kids]
 have g4 : xs.length < v.length := by
  have h1 := (Fo.of ha.fo).le
  have h2 := congrArg List.length ha.drop
  simp only [List.length_drop, List.length_cons, List.length_append] at h2
  omega
 refine S.nilrow 3 1 ?_
 repeat' (first | (apply T.mv; apply rfl; apply rfl) | (apply T.asn; apply rfl; apply rfl) | (apply T.len; apply rfl; apply rfl) | (apply T.lss; (iterate 3 apply rfl)) | (apply T.geq; (iterate 3 apply rfl)) | (apply T.addI; apply rfl; apply rfl; omega; apply rfl) | (apply T.pickF; (iterate 3 apply rfl)) | with_reducible refine Sr.nil ?_ | with_reducible refine S.seq ?_ | with_reducible refine S.block ?_ | with_reducible refine S.reg ?_ | with_reducible refine S.skip ?_ | (apply T.ungV; apply rfl; (first | with_reducible rfl | decide)) | (apply S.condQ; apply rfl; all_goals (intro _; try (exfalso; first | omega | with_reducible contradiction))) | (apply T.gcase; apply rfl; apply rfl; all_goals (intro _; try (exfalso; first | omega | with_reducible contradiction))) | fail)
 refine S.frontR none ?_
 refine S.loopE 1 [0, 1] (fun R b' μ H' e => ∃ (i : Nat) (ka : Option Addr) (kc m : Nat) (q : Nat), H' = .row ka kc 3 1 m ((offs (p + 1) (xs.take i)).map nV) :: R ∧ e = (5, .slice ka m kc) :: (6, .int .i64 q) :: (7, .int .i64 i) :: b' ∧ (i ≤ xs.length ∧ m = i ∧ q = p + 1 + (xs.take i).flatten.length) ∧ μ = xs.length - i) rfl rfl ?_ _ _ ⟨0, none, 0, 0, p + 1, rfl, rfl, ⟨Nat.zero_le _, rfl, rfl⟩, rfl⟩ (by repeat' first | exact trivial | refine And.intro rfl ?_)
 rintro _ _ _ ⟨i, ka, kc, m, q, rfl, rfl, ⟨h1, h2, h3⟩, rfl⟩ ih
 by_cases h4 : i < xs.length
 ·have hk := ha.kid h4
  rw [← h3] at hk
  have hx := ha.fo _ (List.getElem_mem h4)
  have hq := drop_le hk hx.pos
  have hxp := hx.pos
  have hs := offs_snoc (p + 1) (xs.take i) xs[i]
  rw [← List.take_succ_eq_append_getElem h4, ← h3] at hs
  have ht := take_flat_succ h4
  subst h2
  repeat' (first | (apply T.mv; apply rfl; apply rfl) | (apply T.asn; apply rfl; apply rfl) | (apply T.len; apply rfl; apply rfl) | (apply T.lss; (iterate 3 apply rfl)) | (apply T.geq; (iterate 3 apply rfl)) | (apply T.ixF; apply rfl; apply rfl; infer_instance; exact (fun _ => rfl); apply rfl; omega; omega; apply rfl) | (apply T.fieldAddrF; apply rfl; infer_instance; exact (fun _ => rfl); apply rfl; omega; apply rfl) | (apply T.loadF; apply rfl; apply rfl; infer_instance; exact (fun _ => rfl); apply rfl; exact getD_some (by omega); apply rfl; apply rfl) | (apply T.pickT; (iterate 3 apply rfl)) | (apply T.bs; (iterate 6 apply rfl); intro nb) | (apply T.appendN; apply rfl; apply rfl; infer_instance; apply rfl; (constructor <;> omega); apply rfl; intro na nc) | with_reducible refine Sr.nil ?_ | with_reducible refine S.seq ?_ | with_reducible refine S.block ?_ | with_reducible refine S.reg ?_ | with_reducible refine S.skip ?_ | (apply T.ungV; apply rfl; (first | with_reducible rfl | decide)) | (apply S.condQ; apply rfl; all_goals (intro _; try (exfalso; first | omega | with_reducible contradiction))) | (apply T.gcase; apply rfl; apply rfl; all_goals (intro _; try (exfalso; first | omega | with_reducible contradiction))) | fail)
  refine T.call rfl rfl (behindN_spec rfl (by omega) hx hk) ?_
  rintro _ _ ⟨rfl, rfl⟩
  have hmap : (offs (p + 1) (xs.take m)).map nV ++ [nV q] = (offs (p + 1) (xs.take (m + 1))).map nV := by rw [hs]; simp
  repeat' (first | (apply T.mv; apply rfl; apply rfl) | (apply T.asn; apply rfl; apply rfl) | (apply T.addI; apply rfl; apply rfl; omega; apply rfl) | with_reducible refine Sr.nil ?_ | with_reducible refine S.reg ?_ | with_reducible refine S.inBlock ?_ | (with_reducible apply T.ofRet) | fail)
  exact ih _ _ _ _ ⟨m + 1, na, nc, m + 1, q + xs[m].length, by rw [hs], rfl, ⟨h4, rfl, by omega⟩, rfl⟩ (by omega) (by repeat' first | exact trivial | refine And.intro rfl ?_)
 ·obtain rfl : i = xs.length := by omega
  rw [List.take_length]
  subst h2
  repeat' (first | (apply T.mv; apply rfl; apply rfl) | (apply T.asn; apply rfl; apply rfl) | (apply T.lss; (iterate 3 apply rfl)) | (apply T.ixF; apply rfl; apply rfl; infer_instance; exact (fun _ => rfl); apply rfl; omega; omega; apply rfl) | (apply T.fieldAddrF; apply rfl; infer_instance; exact (fun _ => rfl); apply rfl; omega; apply rfl) | (apply T.loadF; apply rfl; apply rfl; infer_instance; exact (fun _ => rfl); apply rfl; exact getD_some (by omega); apply rfl; apply rfl) | (apply T.pickF; (iterate 3 apply rfl)) | with_reducible refine Sr.nil ?_ | with_reducible refine S.seq ?_ | with_reducible refine S.reg ?_ | (apply S.exit; apply rfl) | (apply T.skip; apply rfl; (first | with_reducible rfl | decide); apply rfl) | (apply S.condFV; apply rfl; (first | with_reducible rfl | decide)) | (apply T.gcase; apply rfl; apply rfl; all_goals (intro _; try (exfalso; first | omega | with_reducible contradiction))) | (apply T.retW; apply rfl) | fail)
  all_goals exact ⟨_, PSub.refl _, _, _, rfl, rfl⟩
/-- What Member says. -/
def memP (p : Nat) (n : Nd) (xs : List (List Nd)) (key : List UInt8) : Int := if n.kind = 7 then membX (p + 1) xs key else -1
theorem member_spec {nn : Nd} {xs : List (List Nd)} {r : List Nd} {key : List UInt8} [Rd F M H oa (v.flatMap ndV)] (hn : v.length = n) (hl : n ≤ 1100000) (ha : At v p nn xs r) :
  Meets Tryz.prog 22 [.slice oa n oc, .int .i64 p, sV key] F M H (fun e H' => e = .returned (.int .i64 (memP p nn xs key)) ∧ H' = H) := by
 subst hn
 refine Meets.enter Tryz.func22 rfl rfl ?_
 obtain ⟨g1, g2⟩ := drop_head ha.drop
 have g3 : (v.getD p default).kids = (xs.length : Int) := by rw [g1, ha.kids]
 have g4 : xs.length < v.length := by
  have h1 := (Fo.of ha.fo).le
  have h2 := congrArg List.length ha.drop
  simp only [List.length_drop, List.length_cons, List.length_append] at h2
  omega
 unfold memP
 rw [← g1]
 by_cases hk7 : (v.getD p default).kind = 7
 ·rw [if_pos hk7]
  repeat' (first | (apply T.mv; apply rfl; apply rfl) | (apply T.asn; apply rfl; apply rfl) | (apply T.len; apply rfl; apply rfl) | (apply T.lss; (iterate 3 apply rfl)) | (apply T.geq; (iterate 3 apply rfl)) | (apply T.neq; (iterate 3 apply rfl)) | (apply T.addI; apply rfl; apply rfl; omega; apply rfl) | (apply T.ixF; apply rfl; apply rfl; infer_instance; exact (fun _ => rfl); apply rfl; omega; omega; apply rfl) | (apply T.fieldAddrF; apply rfl; infer_instance; exact (fun _ => rfl); apply rfl; omega; apply rfl) | (apply T.loadF; apply rfl; apply rfl; infer_instance; exact (fun _ => rfl); apply rfl; exact getD_some (by omega); apply rfl; apply rfl) | (apply T.pickF; (iterate 3 apply rfl)) | with_reducible refine Sr.nil ?_ | with_reducible refine S.seq ?_ | with_reducible refine S.block ?_ | with_reducible refine S.reg ?_ | with_reducible refine S.skip ?_ | (apply T.ungV; apply rfl; (first | with_reducible rfl | decide)) | (apply S.condQ; apply rfl; all_goals (intro _; try (exfalso; first | omega | with_reducible contradiction))) | (apply T.gcase; apply rfl; apply rfl; all_goals (intro _; try (exfalso; first | omega | with_reducible contradiction))) | fail)
  generalize hQ : membX (p + 1) xs key = Q
  refine S.loopE 0 [0, 1, 2] (fun R b' μ H' e => ∃ (i q : Nat), H' = R ∧ e = (7, .int .i64 q) :: (8, .int .i64 i) :: b' ∧ (i ≤ xs.length ∧ q = p + 1 + (xs.take i).flatten.length ∧ membX q (xs.drop i) key = Q) ∧ μ = xs.length - i) rfl rfl ?_ _ _ ⟨0, p + 1, rfl, rfl, ⟨Nat.zero_le _, rfl, hQ⟩, rfl⟩ (by repeat' first | exact trivial | refine And.intro rfl ?_)
  rintro _ _ _ ⟨i, q, rfl, rfl, ⟨h1, h3, h5⟩, rfl⟩ ih
  by_cases h4 : i < xs.length
  ·have hk := ha.kid h4
   rw [← h3] at hk
   have hx := ha.fo _ (List.getElem_mem h4)
   have hq := drop_le hk hx.pos
   have hxp := hx.pos
   have ht := take_flat_succ h4
   rw [List.drop_eq_getElem_cons h4, membX_cons] at h5
   have hhd : v.getD q default = headN xs[i] := by
    obtain ⟨n2, xs2, e2, -⟩ := At.of_fo hk hx
    rw [e2] at hk ⊢
    exact (drop_head hk).1
   rw [← hhd] at h5
   by_cases h6 : (v.getD q default).key = key
   ·rw [if_pos h6] at h5
    repeat' (first | (apply T.seql; (iterate 3 apply rfl)) | (apply T.mv; apply rfl; apply rfl) | (apply T.asn; apply rfl; apply rfl) | (apply T.len; apply rfl; apply rfl) | (apply T.lss; (iterate 3 apply rfl)) | (apply T.geq; (iterate 3 apply rfl)) | (apply T.ixF; apply rfl; apply rfl; infer_instance; exact (fun _ => rfl); apply rfl; omega; omega; apply rfl) | (apply T.fieldAddrF; apply rfl; infer_instance; exact (fun _ => rfl); apply rfl; omega; apply rfl) | (apply T.loadF; apply rfl; apply rfl; infer_instance; exact (fun _ => rfl); apply rfl; exact getD_some (by omega); apply rfl; apply rfl) | (apply T.pickT; (iterate 3 apply rfl)) | with_reducible refine Sr.nil ?_ | with_reducible refine S.seq ?_ | with_reducible refine S.block ?_ | with_reducible refine S.reg ?_ | with_reducible refine S.skip ?_ | (apply T.ungV; apply rfl; (first | with_reducible rfl | decide)) | (apply S.condQ; apply rfl; all_goals (intro _; try (exfalso; first | omega | with_reducible contradiction))) | (apply T.gcase; apply rfl; apply rfl; all_goals (intro _; try (exfalso; first | omega | with_reducible contradiction))) | (apply T.retW; apply rfl) | fail)
    exact ⟨_, PSub.refl _, by rw [h5], rfl⟩
   ·rw [if_neg h6] at h5
    repeat' (first | (apply T.seql; (iterate 3 apply rfl)) | (apply T.mv; apply rfl; apply rfl) | (apply T.len; apply rfl; apply rfl) | (apply T.lss; (iterate 3 apply rfl)) | (apply T.geq; (iterate 3 apply rfl)) | (apply T.ixF; apply rfl; apply rfl; infer_instance; exact (fun _ => rfl); apply rfl; omega; omega; apply rfl) | (apply T.fieldAddrF; apply rfl; infer_instance; exact (fun _ => rfl); apply rfl; omega; apply rfl) | (apply T.loadF; apply rfl; apply rfl; infer_instance; exact (fun _ => rfl); apply rfl; exact getD_some (by omega); apply rfl; apply rfl) | (apply T.pickT; (iterate 3 apply rfl)) | with_reducible refine Sr.nil ?_ | with_reducible refine S.seq ?_ | with_reducible refine S.block ?_ | with_reducible refine S.reg ?_ | with_reducible refine S.skip ?_ | (apply T.ungV; apply rfl; (first | with_reducible rfl | decide)) | (apply S.condQ; apply rfl; all_goals (intro _; try (exfalso; first | omega | with_reducible contradiction))) | (apply T.gcase; apply rfl; apply rfl; all_goals (intro _; try (exfalso; first | omega | with_reducible contradiction))) | fail)
    refine T.call rfl rfl (behindN_spec rfl (by omega) hx hk) ?_
    rintro _ _ ⟨rfl, rfl⟩
    repeat' (first | (apply T.mv; apply rfl; apply rfl) | (apply T.asn; apply rfl; apply rfl) | (apply T.addI; apply rfl; apply rfl; omega; apply rfl) | with_reducible refine Sr.nil ?_ | with_reducible refine S.reg ?_ | with_reducible refine S.inBlock ?_ | (with_reducible apply T.ofRet) | fail)
    exact ih _ _ _ _ ⟨i + 1, q + xs[i].length, rfl, rfl, ⟨h4, by omega, h5⟩, rfl⟩ (by omega) (by repeat' first | exact trivial | refine And.intro rfl ?_)
  ·obtain rfl : i = xs.length := by omega
   rw [List.drop_length] at h5
   rw [← h5]
   repeat' (first | (apply T.mv; apply rfl; apply rfl) | (apply T.asn; apply rfl; apply rfl) | (apply T.lss; (iterate 3 apply rfl)) | (apply T.ixF; apply rfl; apply rfl; infer_instance; exact (fun _ => rfl); apply rfl; omega; omega; apply rfl) | (apply T.fieldAddrF; apply rfl; infer_instance; exact (fun _ => rfl); apply rfl; omega; apply rfl) | (apply T.loadF; apply rfl; apply rfl; infer_instance; exact (fun _ => rfl); apply rfl; exact getD_some (by omega); apply rfl; apply rfl) | (apply T.pickF; (iterate 3 apply rfl)) | with_reducible refine Sr.nil ?_ | with_reducible refine S.seq ?_ | with_reducible refine S.reg ?_ | (apply S.exit; apply rfl) | (apply T.skip; apply rfl; (first | with_reducible rfl | decide); apply rfl) | (apply S.condFV; apply rfl; (first | with_reducible rfl | decide)) | (apply T.gcase; apply rfl; apply rfl; all_goals (intro _; try (exfalso; first | omega | with_reducible contradiction))) | (apply T.retW; apply rfl) | fail)
   all_goals exact ⟨_, PSub.refl _, rfl, rfl⟩
 ·rw [if_neg hk7]
  repeat' (first | (apply T.mv; apply rfl; apply rfl) | (apply T.asn; apply rfl; apply rfl) | (apply T.len; apply rfl; apply rfl) | (apply T.lss; (iterate 3 apply rfl)) | (apply T.geq; (iterate 3 apply rfl)) | (apply T.neq; (iterate 3 apply rfl)) | (apply T.ixF; apply rfl; apply rfl; infer_instance; exact (fun _ => rfl); apply rfl; omega; omega; apply rfl) | (apply T.fieldAddrF; apply rfl; infer_instance; exact (fun _ => rfl); apply rfl; omega; apply rfl) | (apply T.loadF; apply rfl; apply rfl; infer_instance; exact (fun _ => rfl); apply rfl; exact getD_some (by omega); apply rfl; apply rfl) | (apply T.pickF; (iterate 3 apply rfl)) | with_reducible refine Sr.nil ?_ | with_reducible refine S.seq ?_ | with_reducible refine S.reg ?_ | (apply T.ungV; apply rfl; (first | with_reducible rfl | decide)) | (apply S.condQ; apply rfl; all_goals (intro _; try (exfalso; first | omega | with_reducible contradiction))) | (apply T.gcase; apply rfl; apply rfl; all_goals (intro _; try (exfalso; first | omega | with_reducible contradiction))) | (apply T.retW; apply rfl) | fail)
  exact ⟨_, PSub.refl _, rfl, rfl⟩
end
end Go.Proofs.YtjajcmedipjfhaaGreatDoor
/- The walks of the document's looks at nodes. -/
namespace Go.Proofs.YtjajcmedipjfhaaGreatDoor
open Sg Go.IntWalk
set_option maxRecDepth 100000
set_option maxHeartbeats 4000000
section
variable {F : World} {M : List Nat} {H : List Res} {v : List Nd} {p : Nat} {oa : Option Addr} {oc n : Nat}
end
end Go.Proofs.YtjajcmedipjfhaaGreatDoor
/- Looks at nodes by place alone, the program's and the document's. -/
namespace Go.Proofs.YtjajcmedipjfhaaGreatDoor
open Sg Go.IntWalk
section
variable {F : World} {M : List Nat} {H : List Res} {v : List Nd} {p : Nat} {oa : Option Addr} {oc n : Nat}
theorem memberI_spec {key : List UInt8} [Rd F M H oa (v.flatMap ndV)] (hn : v.length = n) (hl : n ≤ 1100000) (ha : IsAt v p) :
  Meets Tryz.prog 22 [.slice oa n oc, .int .i64 p, sV key] F M H (fun e H' => e = .returned (.int .i64 (memI v p key)) ∧ H' = H) := by
 obtain ⟨r, ha⟩ := ha
 exact member_spec hn hl ha
theorem kidsI_spec [Rd F M H oa (v.flatMap ndV)] (hn : v.length = n) (hl : n ≤ 1100000) (ha : IsAt v p) :
  Meets Tryz.prog 46 [.slice oa n oc, .int .i64 p] F M H (fun e H' => ∃ ka kc, e = .returned (.slice ka (kidsOf v p).length kc) ∧ H' = .row ka kc 3 1 (kidsOf v p).length ((offs (p + 1) (kidsOf v p)).map nV) :: H) := by
 obtain ⟨r, ha⟩ := ha
 exact kids_spec hn hl ha
end
end Go.Proofs.YtjajcmedipjfhaaGreatDoor
