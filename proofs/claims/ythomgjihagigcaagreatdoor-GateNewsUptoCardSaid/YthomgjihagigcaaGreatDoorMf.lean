/- Texts put together by a program: JsnO JsnV JsnW JsnX JsnY ShlI GtA. -/
import Derived.Test.YthomgjihagigcaaGreatDoorMe
import Derived.Shelf.Small.Strs
import Derived.Shelf.Slices.Turned
import Derived.Shelf.Slices.Clone
import Derived.Shelf.Strings.Prefix
import Derived.Test.YthomgjihagigcaaGreatDoorProg
import Derived.Test.YthomgjihagigcaaGreatDoorMc
import Derived.Test.YthomgjihagigcaaGreatDoorMb
/- The walks of the program's reader of JSON: values. -/
namespace Go.Proofs.YthomgjihagigcaaGreatDoor
open Sg Go.IntWalk
set_option maxRecDepth 100000
set_option maxHeartbeats 4000000
section
variable {F:World} {M:List Nat} {H:List Res} {p:Nat} {t:List UInt8} {C:Jc} {c:Cf}
theorem Z7m {n:Nd} {a':Nat} (hi:Inv t C) (hl:t.length≤262144) :
  Meets Tryz.prog 121 [.pointer (some ⟨p,0,none⟩),.agg ⟨ndV n⟩] F M (.blk p (jrV t (.slice C.oa C.out.length C.oc) (.slice C.na C.st.length C.nc) (.slice C.ma C.st.length C.mc) a' C.s C.k 0 0) 136::ouR C.oa C.oc C.out::opS C.na C.nc C.st::nmR C.ma C.mc C.st::ZS C.st H)
   (fun e H'=>∃ oa' oc',e=.returned (.tuple ⟨[]⟩)∧H'=.blk p (jrV t (.slice oa' (C.out.length+1) oc') (.slice C.na C.st.length C.nc) (.slice C.ma C.st.length C.mc) a' C.s [] 0 0) 136::ouR oa' oc' (ZC C.out (C.st.map (·.1))++[n.named C.k])::opS C.na C.nc C.st::nmR C.ma C.mc C.st::ZS C.st H):=by
 have ho:=hi.outl
 have hat:=hi.at_
 have hd:=hi.dep
 have h:=Z28 (F:=F) (M:=M) (p:=p) (t:=t) (H:=nmR C.ma C.mc C.st::ZS C.st H) (m:=.slice C.ma C.st.length C.mc) (a:=a') (s:=C.s) (k:=C.k) (c:=0) (b:=0) (oa:=C.oa) (na:=C.na) (oc:=C.oc) (nc:=C.nc) (out:=C.out) (is:=C.st.map (·.1)) (n:=n) hi.idx2 (by omega) (by rw [List.length_map];omega) (hi.kid2 hl)
 have hml:(C.st.map (·.1)).length=C.st.length:=List.length_map _
 dsimp only [opR,opS] at h ⊢
 rw [hml] at h
 exact h
theorem Z86 (hr:Rel C c) (hi:Inv t C) {n:Nd} (hn:n.kids=0) {a':Nat} (h1:C.a < a') (h2:a'≤t.length) (oa':Option Addr) (oc':Nat) :
  StepP p t H (.go (Cf.behind (Cf.lay { c with p:=a' } n))) (.returned (.bool true)) (.blk p (jrV t (.slice oa' (C.out.length+1) oc') (.slice C.na C.st.length C.nc) (.slice C.ma C.st.length C.mc) a' (if C.st.length=0 then 6 else 5) [] 0 0) 136::ouR oa' oc' (ZC C.out (C.st.map (·.1))++[n.named C.k])::opS C.na C.nc C.st::nmR C.ma C.mc C.st::ZS C.st H):=by
 refine Z29 hr hi hn h1 h2 ⟨oa',oc',rfl,?_⟩
 dsimp only [opR,opS]
 rw [List.length_map]
theorem Z7t {q:Nat} {ch:UInt8} (h:ch.toNat=45∨48≤ch.toNat∧ch.toNat≤57):ZT Z9 t q ch=(numX t q).bind fun a _=>.ok a [Z6q t q a]:=by
 have e1:∀ n:UInt8,(ch=n)↔(ch.toNat=n.toNat):=fun n=>UInt8.toNat_inj.symm
 have e3:(Za ch=true)↔(48≤ch.toNat∧ch.toNat≤57):=by
  unfold Za
  simp only [Bool.and_eq_true,decide_eq_true_eq]
  rfl
 have k1:¬ch=34:=fun hh=>by
  have:=(e1 34).1 hh
  have h34:(34:UInt8).toNat=34:=rfl
  omega
 unfold ZT
 rw [if_neg k1,if_pos (by rw [e1,e3];exact h)]
 rfl
theorem Z7s {q:Nat} {ch:UInt8} (h:¬(ch.toNat=45∨48≤ch.toNat∧ch.toNat≤57)):ZT Z9 t q ch=if ch.toNat=34 then (Zo t (q+1)).bind fun a s=>.ok a [{ nd 5 with text:=s }] else if ch.toNat=110 then (ZL t q [110,117,108,108]).bind fun a _=>.ok a [nd 1] else
  if ch.toNat=102 then (ZL t q [102,97,108,115,101]).bind fun a _=>.ok a [nd 2] else if ch.toNat=116 then (ZL t q [116,114,117,101]).bind fun a _=>.ok a [nd 3] else .bad 31 q:=by
 have e1:∀ n:UInt8,(ch=n)↔(ch.toNat=n.toNat):=fun n=>UInt8.toNat_inj.symm
 have e3:(Za ch=true)↔(48≤ch.toNat∧ch.toNat≤57):=by
  unfold Za
  simp only [Bool.and_eq_true,decide_eq_true_eq]
  rfl
 unfold ZT
 by_cases h34:ch.toNat=34
 ·rw [if_pos h34,if_pos ((e1 34).2 h34)]
 rw [if_neg h34,if_neg (fun hh=>h34 ((e1 34).1 hh)),if_neg (fun hh=>h (hh.imp (e1 45).1 e3.1))]
 by_cases h110:ch.toNat=110
 ·rw [if_pos h110,if_pos ((e1 110).2 h110)]
 rw [if_neg h110,if_neg (fun hh=>h110 ((e1 110).1 hh))]
 by_cases h102:ch.toNat=102
 ·rw [if_pos h102,if_pos ((e1 102).2 h102)]
 rw [if_neg h102,if_neg (fun hh=>h102 ((e1 102).1 hh))]
 by_cases h116:ch.toNat=116
 ·rw [if_pos h116,if_pos ((e1 116).2 h116)]
 rw [if_neg h116,if_neg (fun hh=>h116 ((e1 116).1 hh))]
theorem Z5w (hT:Tabs F M) {ch:UInt8} (ha:C.a < t.length) (hr:Rel C c) (hi:Inv t C) (hl:t.length≤262144) :
  Meets Tryz.prog 103 [.pointer (some ⟨p,0,none⟩),.int .u8 (ch.toNat:Nat)] F M (C.res p t H) (StepP p t H (valC Z9 t c ch)):=by
 have hu:=ch.toNat_lt
 have e1:∀ n:UInt8,(ch=n)↔(ch.toNat=n.toNat):=fun n=>UInt8.toNat_inj.symm
 have hval:valC Z9 t c ch=if ch.toNat=91∨ch.toNat=123 then begC c ch else (match ZT Z9 t c.p ch with
  | .bad e a=>.stop e a
  | .ok a l=>.go (Cf.behind (Cf.lay { c with p:=a } (l.headD (nd 0))))):=by
  unfold valC
  by_cases hh:ch.toNat=91∨ch.toNat=123
  ·rw [if_pos hh,if_pos (by rw [e1,e1];exact hh)]
  ·rw [if_neg hh,if_neg (by rw [e1,e1];exact hh)]
   rfl
 rw [hval]
 refine Meets.enter Tryz.func103 rfl rfl ?_
 by_cases h91:ch.toNat=91∨ch.toNat=123
 ·rw [if_pos h91]
  have hb:=Z60 (F:=F) (M:=M) (p:=p) (H:=H) (ch:=ch) (by rw [e1,e1];exact h91) ha hr hi hl
  by_cases h9:ch.toNat=91
  ·repeat' (first|((first|apply T.mv|apply T.asn);apply rfl;apply rfl)|(apply T.eql;(iterate 3 apply rfl))|(apply T.pickT;(iterate 3 apply rfl))|(with_reducible first|refine Sr.nil ?_|refine S.seq ?_|refine S.block ?_|refine S.reg ?_)|(apply T.skip;apply rfl;(first|with_reducible rfl|decide);apply rfl)|(apply S.condTV;apply rfl;(first|with_reducible rfl|decide))|(apply T.gcase;apply rfl;apply rfl;all_goals (intro _;try (exfalso;first|omega|with_reducible contradiction)))|fail)
   refine T.call rfl rfl hb ?_
   intro e H' hS
   obtain ⟨v,rfl⟩:=hS.bool
   repeat' (first|(apply T.asn;apply rfl;apply rfl)|with_reducible refine Sr.nil ?_|(apply T.retW;apply rfl)|(with_reducible apply T.ofRet)|fail)
   exact ⟨_,PSub.refl _,hS⟩
  ·have h12:ch.toNat=123:=h91.resolve_left h9
   repeat' (first|((first|apply T.mv|apply T.asn);apply rfl;apply rfl)|(apply T.eql;(iterate 3 apply rfl))|(apply T.pickF;(iterate 3 apply rfl))|(with_reducible first|refine Sr.nil ?_|refine S.seq ?_|refine S.block ?_|refine S.reg ?_)|(apply T.ungV;apply rfl;(first|with_reducible rfl|decide))|(apply S.condQ;apply rfl;all_goals (intro _;try (exfalso;first|omega|with_reducible contradiction)))|(apply T.gcase;apply rfl;apply rfl;all_goals (intro _;try (exfalso;first|omega|with_reducible contradiction)))|fail)
   refine T.call rfl rfl hb ?_
   intro e H' hS
   obtain ⟨v,rfl⟩:=hS.bool
   repeat' (first|(apply T.asn;apply rfl;apply rfl)|with_reducible refine Sr.nil ?_|(apply T.retW;apply rfl)|(with_reducible apply T.ofRet)|fail)
   exact ⟨_,PSub.refl _,hS⟩
 rw [if_neg h91]
 have h9:¬ch.toNat=91:=fun h=>h91 (.inl h)
 have h12:¬ch.toNat=123:=fun h=>h91 (.inr h)
 clear h91 hval
 by_cases hnum:ch.toNat=45∨48≤ch.toNat∧ch.toNat≤57
 ·rw [Z7t hnum]
  have hb:=Z4z (F:=F) (M:=M) (p:=p) (H:=H) ha hr hi hl
  have h34:¬ch.toNat=34:=by omega
  by_cases h45:ch.toNat=45
  ·repeat' (first|((first|apply T.mv|apply T.asn);apply rfl;apply rfl)|(apply T.eql;(iterate 3 apply rfl))|(apply T.pickT;(iterate 3 apply rfl))|(apply T.pickF;(iterate 3 apply rfl))|(with_reducible first|refine Sr.nil ?_|refine S.seq ?_|refine S.block ?_|refine S.reg ?_)|(apply T.ungV;apply rfl;(first|with_reducible rfl|decide))|(apply T.skip;apply rfl;(first|with_reducible rfl|decide);apply rfl)|(apply T.skipU;apply rfl;apply rfl)|(apply S.condTV;apply rfl;(first|with_reducible rfl|decide))|(apply S.condQ;apply rfl;all_goals (intro _;try (exfalso;first|omega|with_reducible contradiction)))|(apply T.gcase;apply rfl;apply rfl;all_goals (intro _;try (exfalso;first|omega|with_reducible contradiction)))|fail)
   refine T.call rfl rfl hb ?_
   intro e H' hS
   obtain ⟨v,rfl⟩:=hS.bool
   repeat' (first|(apply T.asn;apply rfl;apply rfl)|with_reducible refine Sr.nil ?_|(apply T.retW;apply rfl)|(with_reducible apply T.ofRet)|fail)
   exact ⟨_,PSub.refl _,hS⟩
  ·obtain ⟨h48,h57⟩:=hnum.resolve_left h45
   repeat' (first|((first|apply T.mv|apply T.asn);apply rfl;apply rfl)|((first|apply T.leq|apply T.geq|apply T.eql);(iterate 3 apply rfl))|(apply T.pickT;(iterate 3 apply rfl))|(apply T.pickF;(iterate 3 apply rfl))|(with_reducible first|refine Sr.nil ?_|refine S.seq ?_|refine S.block ?_|refine S.reg ?_)|(apply T.ungV;apply rfl;(first|with_reducible rfl|decide))|(apply S.condQ;apply rfl;all_goals (intro _;try (exfalso;first|omega|with_reducible contradiction)))|(apply T.gcase;apply rfl;apply rfl;all_goals (intro _;try (exfalso;first|omega|with_reducible contradiction)))|fail)
   refine T.call rfl rfl hb ?_
   intro e H' hS
   obtain ⟨v,rfl⟩:=hS.bool
   repeat' (first|(apply T.asn;apply rfl;apply rfl)|with_reducible refine Sr.nil ?_|(apply T.retW;apply rfl)|(with_reducible apply T.ofRet)|fail)
   exact ⟨_,PSub.refl _,hS⟩
 rw [Z7s hnum]
 have h45:¬ch.toNat=45:=fun h=>hnum (.inl h)
 by_cases h34:ch.toNat=34
 ·rw [if_pos h34]
  clear hnum
  unfold Jc.res Jc.cells
  repeat' (first|((first|apply T.mv|apply T.asn);apply rfl;apply rfl)|(apply T.eql;(iterate 3 apply rfl))|(apply T.pickF;(iterate 3 apply rfl))|(with_reducible first|refine Sr.nil ?_|refine S.seq ?_|refine S.block ?_|refine S.reg ?_)|(apply T.ungV;apply rfl;(first|with_reducible rfl|decide))|(apply S.condQ;apply rfl;all_goals (intro _;try (exfalso;first|omega|with_reducible contradiction)))|(apply T.gcase;apply rfl;apply rfl;all_goals (intro _;try (exfalso;first|omega|with_reducible contradiction)))|fail)
  refine T.call rfl rfl (Z23 hT (by exact ha) hl) ?_
  have hfit:=Zn (t:=t) (p:=C.a+1) (by omega)
  rw [hr.p] at hfit ⊢
  cases hx:Zo t (c.p+1) with
  | bad e1 q1 =>
   rintro _ _ ⟨a',rfl,rfl⟩
   repeat' (first|((first|apply T.mv|apply T.asn);apply rfl;apply rfl)|(apply T.extract;(iterate 3 apply rfl))|(with_reducible first|refine Sr.nil ?_|refine S.seq ?_|refine S.reg ?_|refine S.skip ?_)|(apply S.condFV;apply rfl;(first|with_reducible rfl|decide))|(apply T.retW;apply rfl)|(with_reducible apply T.ofRet)|fail)
   exact ⟨_,PSub.take Z0 (PSub.drop (PSub.drop (PSub.drop (ZD H C.st)))),_,_,_,_,_,_,rfl,rfl⟩
  | ok a' x =>
   obtain ⟨f1,f2⟩:=hfit a' x hx
   rintro _ _ ⟨rfl,rfl⟩
   repeat' (first|((first|apply T.mv|apply T.asn);apply rfl;apply rfl)|(apply T.extract;(iterate 3 apply rfl))|(apply T.buildL;(iterate 3 apply rfl))|(with_reducible first|refine Sr.nil ?_|refine S.seq ?_|refine S.reg ?_)|(apply S.condTV;apply rfl;(first|with_reducible rfl|decide))|(with_reducible apply T.ofRet)|fail)
   refine T.call rfl rfl (Z7m (n:={ nd 5 with text:=x }) hi hl) ?_
   rintro _ _ ⟨oa',oc',rfl,rfl⟩
   repeat' (first|(apply T.mv;apply rfl;apply rfl)|(with_reducible first|refine Sr.nil ?_|refine S.reg ?_)|(with_reducible apply T.ofRet)|fail)
   refine T.call rfl rfl Z0w ?_
   rintro _ _ ⟨rfl,rfl⟩
   repeat' (first|((first|apply T.mv|apply T.asn);apply rfl;apply rfl)|(with_reducible first|refine Sr.nil ?_|refine S.seq ?_|refine S.reg ?_)|(apply T.retW;apply rfl)|(with_reducible apply T.ofRet)|fail)
   exact ⟨_,PSub.refl _,Z86 hr hi rfl (by rw [hr.p];omega) f2 oa' oc'⟩
 rw [if_neg h34]
 have hlo:¬(48≤ch.toNat∧ch.toNat≤57):=fun h=>hnum (.inr h)
 clear hnum
 by_cases h110:ch.toNat=110
 ·rw [if_pos h110]
  have h57:¬ch.toNat≤57:=by omega
  have h48:48≤ch.toNat:=by omega
  have hb:=Z0H (F:=F) (M:=M) (p:=p) (H:=H) (w:=[110,117,108,108]) (kd:=1) (by decide) (by decide) (by decide) hr hi hl
  repeat' (first|((first|apply T.mv|apply T.asn);apply rfl;apply rfl)|((first|apply T.leq|apply T.geq|apply T.eql);(iterate 3 apply rfl))|(apply T.pickT;(iterate 3 apply rfl))|(apply T.pickF;(iterate 3 apply rfl))|(with_reducible first|refine Sr.nil ?_|refine S.seq ?_|refine S.block ?_|refine S.reg ?_)|(apply T.ungV;apply rfl;(first|with_reducible rfl|decide))|(apply S.condQ;apply rfl;all_goals (intro _;try (exfalso;first|omega|with_reducible contradiction)))|(apply T.gcase;apply rfl;apply rfl;all_goals (intro _;try (exfalso;first|omega|with_reducible contradiction)))|fail)
  refine T.call rfl rfl hb ?_
  intro e H' hS
  obtain ⟨v,rfl⟩:=hS.bool
  repeat' (first|(apply T.asn;apply rfl;apply rfl)|with_reducible refine Sr.nil ?_|(apply T.retW;apply rfl)|(with_reducible apply T.ofRet)|fail)
  exact ⟨_,PSub.refl _,hS⟩
 rw [if_neg h110]
 by_cases h102:ch.toNat=102
 ·rw [if_pos h102]
  have h57:¬ch.toNat≤57:=by omega
  have h48:48≤ch.toNat:=by omega
  have hb:=Z0H (F:=F) (M:=M) (p:=p) (H:=H) (w:=[102,97,108,115,101]) (kd:=2) (by decide) (by decide) (by decide) hr hi hl
  repeat' (first|((first|apply T.mv|apply T.asn);apply rfl;apply rfl)|((first|apply T.leq|apply T.geq|apply T.eql);(iterate 3 apply rfl))|(apply T.pickT;(iterate 3 apply rfl))|(apply T.pickF;(iterate 3 apply rfl))|(with_reducible first|refine Sr.nil ?_|refine S.seq ?_|refine S.block ?_|refine S.reg ?_)|(apply T.ungV;apply rfl;(first|with_reducible rfl|decide))|(apply S.condQ;apply rfl;all_goals (intro _;try (exfalso;first|omega|with_reducible contradiction)))|(apply T.gcase;apply rfl;apply rfl;all_goals (intro _;try (exfalso;first|omega|with_reducible contradiction)))|fail)
  refine T.call rfl rfl hb ?_
  intro e H' hS
  obtain ⟨v,rfl⟩:=hS.bool
  repeat' (first|(apply T.asn;apply rfl;apply rfl)|with_reducible refine Sr.nil ?_|(apply T.retW;apply rfl)|(with_reducible apply T.ofRet)|fail)
  exact ⟨_,PSub.refl _,hS⟩
 rw [if_neg h102]
 by_cases h116:ch.toNat=116
 ·rw [if_pos h116]
  have h57:¬ch.toNat≤57:=by omega
  have h48:48≤ch.toNat:=by omega
  have hb:=Z0H (F:=F) (M:=M) (p:=p) (H:=H) (w:=[116,114,117,101]) (kd:=3) (by decide) (by decide) (by decide) hr hi hl
  repeat' (first|((first|apply T.mv|apply T.asn);apply rfl;apply rfl)|((first|apply T.leq|apply T.geq|apply T.eql);(iterate 3 apply rfl))|(apply T.pickT;(iterate 3 apply rfl))|(apply T.pickF;(iterate 3 apply rfl))|(with_reducible first|refine Sr.nil ?_|refine S.seq ?_|refine S.block ?_|refine S.reg ?_)|(apply T.ungV;apply rfl;(first|with_reducible rfl|decide))|(apply S.condQ;apply rfl;all_goals (intro _;try (exfalso;first|omega|with_reducible contradiction)))|(apply T.gcase;apply rfl;apply rfl;all_goals (intro _;try (exfalso;first|omega|with_reducible contradiction)))|fail)
  refine T.call rfl rfl hb ?_
  intro e H' hS
  obtain ⟨v,rfl⟩:=hS.bool
  repeat' (first|(apply T.asn;apply rfl;apply rfl)|with_reducible refine Sr.nil ?_|(apply T.retW;apply rfl)|(with_reducible apply T.ofRet)|fail)
  exact ⟨_,PSub.refl _,hS⟩
 rw [if_neg h116]
 unfold Jc.res Jc.cells
 rw [hr.p]
 by_cases h48:48≤ch.toNat
 ·have h57:¬ch.toNat≤57:=by omega
  repeat' (first|((first|apply T.mv|apply T.asn);apply rfl;apply rfl)|((first|apply T.leq|apply T.geq|apply T.eql);(iterate 3 apply rfl))|(apply T.pickT;(iterate 3 apply rfl))|(apply T.pickF;(iterate 3 apply rfl))|(with_reducible first|refine Sr.nil ?_|refine S.seq ?_|refine S.block ?_|refine S.reg ?_|refine S.skip ?_|refine S.inBlock ?_)|(apply T.ungV;apply rfl;(first|with_reducible rfl|decide))|(apply S.condQ;apply rfl;all_goals (intro _;try (exfalso;first|omega|with_reducible contradiction)))|(apply T.gcase;apply rfl;apply rfl;all_goals (intro _;try (exfalso;first|omega|with_reducible contradiction)))|fail)
  refine T.call rfl rfl Zp ?_
  rintro _ _ ⟨rfl,rfl⟩
  repeat' (first|(apply T.asn;apply rfl;apply rfl)|with_reducible refine Sr.nil ?_|(apply T.retW;apply rfl)|(with_reducible apply T.ofRet)|fail)
  exact ⟨_,PSub.take Z0 (PSub.drop (PSub.drop (PSub.drop (ZD H C.st)))),_,_,_,_,_,_,rfl,rfl⟩
 ·repeat' (first|((first|apply T.mv|apply T.asn);apply rfl;apply rfl)|((first|apply T.geq|apply T.eql);(iterate 3 apply rfl))|(apply T.pickF;(iterate 3 apply rfl))|(with_reducible first|refine Sr.nil ?_|refine S.seq ?_|refine S.block ?_|refine S.reg ?_|refine S.skip ?_|refine S.inBlock ?_)|(apply T.ungV;apply rfl;(first|with_reducible rfl|decide))|(apply T.skip;apply rfl;(first|with_reducible rfl|decide);apply rfl)|(apply S.condFV;apply rfl;(first|with_reducible rfl|decide))|(apply S.condQ;apply rfl;all_goals (intro _;try (exfalso;first|omega|with_reducible contradiction)))|(apply T.gcase;apply rfl;apply rfl;all_goals (intro _;try (exfalso;first|omega|with_reducible contradiction)))|fail)
  refine T.call rfl rfl Zp ?_
  rintro _ _ ⟨rfl,rfl⟩
  repeat' (first|(apply T.asn;apply rfl;apply rfl)|with_reducible refine Sr.nil ?_|(apply T.retW;apply rfl)|(with_reducible apply T.ofRet)|fail)
  exact ⟨_,PSub.take Z0 (PSub.drop (PSub.drop (PSub.drop (ZD H C.st)))),_,_,_,_,_,_,rfl,rfl⟩
end
end Go.Proofs.YthomgjihagigcaaGreatDoor
/- The walks of the program's reader of JSON: names. -/
namespace Go.Proofs.YthomgjihagigcaaGreatDoor
open Sg Go.IntWalk
set_option maxRecDepth 100000
set_option maxHeartbeats 4000000
section
variable {F:World} {M:List Nat} {H:List Res} {p:Nat} {t:List UInt8} {C:Jc} {c:Cf}
theorem Z1n {t:List UInt8}:∀ {f q a:Nat} {acc x:List UInt8},q≤t.length→ZI t f q acc=.ok a x→x.length+4*q≤acc.length+4*a
 | 0,q,a,acc,x,_,h=>by rw [ZI] at h;cases h
 | f+1,q,a,acc,x,hq,h=>by
  rcases Nat.lt_or_ge q t.length with h6|h6
  ·have hc:t[q]?=some (t.getD q 0):=by simp [List.getD,h6]
   rw [Z25 hc] at h
   split at h
   ·cases h
   ·split at h
    ·cases h
     omega
    ·split at h
     ·cases hx:escX t q with
      | bad e1 q1=>rw [hx] at h;cases h
      | ok a1 u =>
       rw [hx] at h
       have hf:=Z0n (t:=t) (fr:=q) a1 u hx
       have:=Z1n (q:=a1) (by omega) h
       have:=Z35 u
       rw [List.length_append] at *
       omega
     ·split at h
      ·have:=Z1n (q:=q+1) (by omega) h
       rw [List.length_append] at this
       simp only [List.length_cons,List.length_nil] at this
       omega
      ·cases hx:Z0g t q (t.getD q 0) with
       | bad e1 q1=>rw [hx] at h;cases h
       | ok a1 u =>
        rw [hx] at h
        have hf:=ZY (t:=t) (p:=q) (c:=t.getD q 0) h6 a1 u hx
        have:=Z1n (q:=a1) (by omega) h
        rw [List.length_append,List.length_take] at this
        omega
  ·rw [ZI,List.getElem?_eq_none h6] at h
   cases h
theorem Z6v {o n:Value} {a s:Nat} {k:List UInt8} {c b:Int} {Ho Hn:Res} {ma:Option Addr} {mc i mb:Nat} {m:Ents} {r:Stk} (hT:Tabs F M) (ha:a < t.length) (hl:t.length≤262144) (hs:r.length≤1000000) (hm:m.length≤1000000) :
  Meets Tryz.prog 105 [.pointer (some ⟨p,0,none⟩)] F M (.blk p (jrV t o n (.slice ma (r.length+1) mc) a s k c b) 136::Ho::Hn::nmR ma mc ((i,some (mb,m))::r)::mpR mb m::H)
   (match Zo t (a+1) with
    | .bad c1 q1=>fun e H'=>∃ a':Nat,e=.returned (.bool false)∧H'=.blk p (jrV t o n (.slice ma (r.length+1) mc) a' s k c1 q1) 136::Ho::Hn::nmR ma mc ((i,some (mb,m))::r)::mpR mb m::H
    | .ok a' x=>if 0 < (eget m x).getD 0 then fun e H'=>e=.returned (.bool false)∧H'=.blk p (jrV t o n (.slice ma (r.length+1) mc) a' s k 34 a) 136::Ho::Hn::nmR ma mc ((i,some (mb,m))::r)::mpR mb m::H
     else fun e H'=>e=.returned (.bool true)∧H'=.blk p (jrV t o n (.slice ma (r.length+1) mc) a' 4 x c b) 136::Ho::Hn::nmR ma mc ((i,some (mb,m))::r)::mpR mb (eput m x 1)::H):=by
 have e1:(((r.length+1:Nat)):Int) - 1=((r.length:Nat):Int):=by omega
 have htop:=Z4d mpV (i,some (mb,m)) r
 have hupl:(upL mpV ((i,some (mb,m))::r)).length=r.length+1:=by rw [Z4e];rfl
 refine Meets.enter Tryz.func105 rfl rfl ?_
 repeat' (first|((first|apply T.mv|apply T.asn|apply T.nilCheck|apply T.fieldAddrZ);apply rfl;apply rfl)|(apply T.load;apply rfl;apply rfl;infer_instance;apply rfl;apply rfl)|(with_reducible first|refine Sr.nil ?_|refine S.seq ?_|refine S.reg ?_)|fail)
 refine T.call rfl rfl (Z23 hT ha hl) ?_
 have hfit:=Zn (t:=t) (p:=a+1) (by omega)
 have hlen:=fun a' x=>Z1n (t:=t) (f:=t.length+1 - (a+1)) (q:=a+1) (a:=a') (x:=x) (acc:=[]) (by omega)
 cases hx:Zo t (a+1) with
 | bad c1 q1 =>
  rintro _ _ ⟨a',rfl,rfl⟩
  repeat' (first|((first|apply T.mv|apply T.asn);apply rfl;apply rfl)|(apply T.extract;(iterate 3 apply rfl))|(apply T.notB;apply rfl;apply rfl)|(with_reducible first|refine Sr.nil ?_|refine S.seq ?_|refine S.reg ?_)|(apply S.condTV;apply rfl;(first|with_reducible rfl|decide))|(apply T.retW;apply rfl)|(with_reducible apply T.ofRet)|fail)
  exact ⟨_,PSub.refl _,a',rfl,rfl⟩
 | ok a' x =>
  obtain ⟨f1,f2⟩:=hfit a' x hx
  have hxl:x.length≤maxLen:=by
   have:=hlen a' x hx
   simp only [List.length_nil,maxLen] at this ⊢
   omega
  have hml:m.length < maxLen:=by simp only [maxLen];omega
  rintro _ _ ⟨rfl,rfl⟩
  simp only
  by_cases hg:0 < (eget m x).getD 0
  ·rw [if_pos hg]
   repeat' (first|(apply T.subI;apply rfl;apply rfl;omega;apply rfl;rw [e1])|(apply T.loadE;apply rfl;apply rfl;infer_instance;exact htop;apply rfl)|(apply T.mapLook;apply rfl;apply rfl;infer_instance;(first|assumption|(simp only [maxLen];omega)|omega);apply rfl)|((first|apply T.mv|apply T.asn|apply T.len|apply T.nilCheck|apply T.fieldAddrZ);apply rfl;apply rfl)|(apply T.load;apply rfl;apply rfl;infer_instance;apply rfl;apply rfl)|((first|apply T.gtr|apply T.extract);(iterate 3 apply rfl))|(apply T.ixN;apply rfl;apply rfl;infer_instance;omega;(first|omega|(simp only [List.length_map];omega)|(simp;omega));apply rfl)|(apply T.notB;apply rfl;apply rfl)|(with_reducible first|refine Sr.nil ?_|refine S.seq ?_|refine S.reg ?_|refine S.skip ?_)|(apply S.quiet;apply rfl;kernel_rfl)|(apply S.condFV;apply rfl;(first|with_reducible rfl|decide))|(apply S.condQ;apply rfl;all_goals (intro _;try (exfalso;first|omega|with_reducible contradiction)))|(with_reducible apply T.ofRet)|fail)
   refine T.call rfl rfl Zx ?_
   rintro _ _ ⟨rfl,rfl⟩
   repeat' (first|(apply T.asn;apply rfl;apply rfl)|with_reducible refine Sr.nil ?_|(apply T.retW;apply rfl)|(with_reducible apply T.ofRet)|fail)
   exact ⟨_,PSub.refl _,rfl,rfl⟩
  ·rw [if_neg hg]
   repeat' (first|(apply T.subI;apply rfl;apply rfl;omega;apply rfl;rw [e1])|(apply T.loadE;apply rfl;apply rfl;infer_instance;exact htop;apply rfl)|(apply T.mapLook;apply rfl;apply rfl;infer_instance;(first|assumption|(simp only [maxLen];omega)|omega);apply rfl)|((first|apply T.mv|apply T.asn|apply T.len|apply T.nilCheck|apply T.fieldAddrZ);apply rfl;apply rfl)|(apply T.load;apply rfl;apply rfl;infer_instance;apply rfl;apply rfl)|((first|apply T.gtr|apply T.extract);(iterate 3 apply rfl))|(apply T.ixN;apply rfl;apply rfl;infer_instance;omega;(first|omega|(simp only [List.length_map];omega)|(simp;omega));apply rfl)|(apply T.notB;apply rfl;apply rfl)|(with_reducible first|refine Sr.nil ?_|refine S.seq ?_|refine S.reg ?_|refine S.skip ?_)|(apply S.quiet;apply rfl;kernel_rfl)|(apply S.condFV;apply rfl;(first|with_reducible rfl|decide))|(apply S.condQ;apply rfl;all_goals (intro _;try (exfalso;first|omega|with_reducible contradiction)))|(with_reducible apply T.ofRet)|fail)
   refine Sr.front mb ?_
   refine T.mapPutT rfl rfl rfl hxl hml rfl ?_
   refine Sr.front p ?_
   repeat' (first|((first|apply T.mv|apply T.asn|apply T.nilCheck|apply T.fieldAddrZ);apply rfl;apply rfl)|(apply T.store;apply rfl;apply rfl;infer_instance;(first|decide|(simp;omega)|simp);apply rfl)|(with_reducible first|refine Sr.nil ?_|refine S.seq ?_|refine S.reg ?_)|(apply T.retW;apply rfl)|fail)
   exact ⟨_,PSub.take Z0 (PSub.take (Z1 Z0) (PSub.take (Z1 Z0) (PSub.take (Z1 Z0) (PSub.take Z0 (PSub.refl _))))),rfl,rfl⟩
end
end Go.Proofs.YthomgjihagigcaaGreatDoor
/- The walks of the program's reader of JSON: names and what stands behind an item, as steps. -/
namespace Go.Proofs.YthomgjihagigcaaGreatDoor
open Sg Go.IntWalk
set_option maxRecDepth 100000
set_option maxHeartbeats 4000000
section
variable {F:World} {M:List Nat} {H:List Res} {p:Nat} {t:List UInt8} {C:Jc} {c:Cf}
theorem Z6u (hT:Tabs F M) {i:Nat} {y:Nat × Ents} {r:Stk} (ha:C.a < t.length) (hr:Rel C c) (hi:Inv t C) (hl:t.length≤262144) (hst:C.st=(i,some y)::r) :
  Meets Tryz.prog 105 [.pointer (some ⟨p,0,none⟩)] F M (C.res p t H) (StepP p t H (namC t c 34)):=by
 obtain ⟨oa,oc,na,nc,ma,mc,out,st,a,s,k⟩:=C
 obtain ⟨mb,m⟩:=y
 simp only at hst
 subst hst
 have hs:=hr.stk
 obtain ⟨cp,cs,co,ck,ckey⟩:=c
 cases ck with
 | nil=>exact hs.elim
 | cons z q =>
  obtain ⟨zi,zo⟩:=z
  cases zo with
  | none=>exact hs.2.1.elim
  | some ns =>
   have hcp:=hr.p
   have hout:=hr.out
   simp only at hcp ha hout
   subst hcp
   subst hout
   have hns:∀ x,eget m x=if x∈ns then some 1 else none:=hs.2.1
   have hd:=hi.dep
   simp only [List.length_cons] at hd
   have hmm:=hi.maps (i,some (mb,m)) (List.mem_cons_self ..) _ rfl
   simp only at hmm
   have hat:=hi.at_
   have hol:=hi.outl
   simp only at hat hol
   have h:=Z6v (F:=F) (M:=M) (H:=ZS r H) (p:=p) (t:=t) (o:=.slice oa out.length oc) (n:=.slice na (r.length+1) nc) (a:=a) (s:=s) (k:=k) (c:=0) (b:=0) (Ho:=ouR oa oc out) (Hn:=opS na nc ((i,some (mb,m))::r)) (ma:=ma) (mc:=mc) (i:=i) (mb:=mb) (m:=m) (r:=r) hT ha hl (by omega) (by omega)
   have hsub:PSub H (ouR oa oc out::opS na nc ((i,some (mb,m))::r)::nmR ma mc ((i,some (mb,m))::r)::mpR mb m::ZS r H):=PSub.drop (PSub.drop (PSub.drop (PSub.drop (ZD H r))))
   unfold namC
   rw [if_pos rfl]
   refine Meets.of_st h ?_
   clear h
   have hfit:=Zn (t:=t) (p:=a+1) (by omega)
   cases hx:Zo t (a+1) with
   | bad c1 q1 =>
    rintro e H' w ⟨a',rfl,rfl⟩ hw
    exact ⟨_,⟨_,.slice na (r.length+1) nc,.slice ma (r.length+1) mc,a',s,k,rfl,rfl⟩,hw.psub (PSub.take Z0 hsub)⟩
   | ok a' x =>
    obtain ⟨f1,f2⟩:=hfit a' x hx
    simp only
    by_cases hxn:x∈ns
    ·have hg:0 < (eget m x).getD 0:=by rw [hns,if_pos hxn];decide
     rw [if_pos hg,if_pos hxn]
     rintro e H' w ⟨rfl,rfl⟩ hw
     exact ⟨_,⟨_,.slice na (r.length+1) nc,.slice ma (r.length+1) mc,a',s,k,rfl,rfl⟩,hw.psub (PSub.take Z0 hsub)⟩
    ·have hg:¬0 < (eget m x).getD 0:=by rw [hns,if_neg hxn];decide
     rw [if_neg hg,if_neg hxn]
     rintro e H' w ⟨rfl,rfl⟩ hw
     refine ⟨_,⟨⟨oa,oc,na,nc,ma,mc,out,(i,some (mb,eput m x 1))::r,a',4,x⟩,rfl,rfl,⟨rfl,rfl,rfl,rfl,hs.1,?_,hs.2.2⟩,⟨f2,?_,hi.kids,?_,?_,?_,hi.dep⟩⟩,hw⟩
     ·intro x'
      rw [Z7y]
      by_cases hxx:x=x'
      ·rw [if_pos hxx,if_pos (by rw [hxx];exact List.mem_cons_self ..)]
      ·rw [if_neg hxx,hns]
       by_cases hm:x'∈ns
       ·rw [if_pos hm,if_pos (List.mem_cons_of_mem _ hm)]
       ·rw [if_neg hm,if_neg (by rw [List.mem_cons];exact fun hh=>hh.elim (fun e=>hxx e.symm) hm)]
     ·show out.length≤a'
      omega
     ·intro z hz
      rcases List.mem_cons.1 hz with rfl|hz
      ·exact hi.idx (i,some (mb,m)) (List.mem_cons_self ..)
      ·exact hi.idx z (List.mem_cons_of_mem _ hz)
     ·intro z hz
      rcases List.mem_cons.1 hz with rfl|hz
      ·exact hi.kind (i,some (mb,m)) (List.mem_cons_self ..)
      ·exact hi.kind z (List.mem_cons_of_mem _ hz)
     ·intro z hz y hy
      rcases List.mem_cons.1 hz with rfl|hz
      ·cases hy
       have:=Z4L m x 1
       show (eput m x 1).length≤a'
       omega
      ·have:=hi.maps z (List.mem_cons_of_mem _ hz) y hy
       simp only at this
       show y.2.length≤a'
       omega
theorem Z6a (hr:Rel C c) (hi:Inv t C) (ha:C.a < t.length) (s':Nat):StepP p t H (.go { c with p:=c.p+1,s:=s' }) (.returned (.bool true)) (({ C with a:=C.a+1,s:=s' }:Jc).res p t H):=by
 refine ⟨_,rfl,rfl,⟨?_,rfl,hr.out,hr.key,hr.stk⟩,⟨?_,?_,hi.kids,hi.idx,hi.kind,fun z hz y hy=>?_,hi.dep⟩⟩
 ·show C.a+1=c.p+1
  rw [hr.p]
 ·show C.a+1≤t.length
  omega
 ·have:=hi.outl
  show C.out.length≤C.a+1
  omega
 ·have:=hi.maps z hz y hy
  show y.2.length≤C.a+1
  omega
theorem Z56 (hr:Rel C c):∀ {e:Ending} {H':List Res},(e=.returned (.bool false)∧H'=.blk p (C.cells t 31 C.a) 136::ouR C.oa C.oc C.out::opS C.na C.nc C.st::nmR C.ma C.mc C.st::ZS C.st H)→∃ H'',PSub H'' H'∧StepP p t H (.stop 31 c.p) e H'':=by
 rintro _ _ ⟨rfl,rfl⟩
 refine ⟨_,PSub.take Z0 (PSub.drop (PSub.drop (PSub.drop (ZD H C.st)))),.slice C.oa C.out.length C.oc,.slice C.na C.st.length C.nc,.slice C.ma C.st.length C.mc,C.a,C.s,C.k,rfl,?_⟩
 rw [←hr.p]
 rfl
theorem Z6y {ch:UInt8} {x:Nat × Option (Nat × Ents)} {r:Stk} (ha:C.a < t.length) (hr:Rel C c) (hi:Inv t C) (hl:t.length≤262144) (hst:C.st=x::r) :
  Meets Tryz.prog 106 [.pointer (some ⟨p,0,none⟩),.int .u8 (ch.toNat:Nat)] F M (C.res p t H) (StepP p t H (morC c ch)):=by
 have hu:=ch.toNat_lt
 have e1:∀ n:UInt8,(ch=n)↔(ch.toNat=n.toNat):=fun n=>UInt8.toNat_inj.symm
 have hend:=Z5n (F:=F) (M:=M) (p:=p) (H:=H) ha hr hi hl (by rw [hst];exact List.cons_ne_nil _ _)
 have hon:=fun s'=>Z6a (p:=p) (H:=H) hr hi ha s'
 have hodd:=fun e H'=>Z56 (p:=p) (t:=t) (H:=H) hr (e:=e) (H':=H')
 have hat:=hi.at_
 have hol:=hi.outl
 have hd:=hi.dep
 have hix:=hi.idx x (by rw [hst];exact List.mem_cons_self ..)
 have hkk:=hi.kind x (by rw [hst];exact List.mem_cons_self ..)
 have hlen:C.st.length=r.length+1:=by rw [hst];rfl
 have htop:(upL inV (C.st.map (·.1)))[r.length]?=some (inV x.1):=by
  rw [hst]
  have:=Z4d inV x.1 (r.map (·.1))
  rw [List.length_map] at this
  exact this
 have hupl:(upL inV (C.st.map (·.1))).length=C.st.length:=by rw [Z4e,List.length_map]
 have hobj:Z0x c.stk=x.2.isSome:=by
  have hs:=hr.stk
  rw [hst] at hs
  cases hck:c.stk with
  | nil=>rw [hck] at hs;exact hs.elim
  | cons z q =>
   rw [hck] at hs
   obtain ⟨zi,zo⟩:=z
   obtain ⟨xi,xo⟩:=x
   cases zo<;>cases xo
   ·rfl
   ·exact hs.2.1.elim
   ·exact hs.2.1.elim
   ·rfl
 have hget:C.out[x.1]?=some (C.out.getD x.1 default):=Zq hix
 have e2:((C.st.length:Nat):Int) - 1=((r.length:Nat):Int):=by omega
 have key:∀ (obj:Bool),x.2.isSome=obj→Meets Tryz.prog 106 [.pointer (some ⟨p,0,none⟩),.int .u8 (ch.toNat:Nat)] F M (C.res p t H) (StepP p t H (if ch.toNat=44 then .go { c with p:=c.p+1,s:=if obj then 2 else 0 } else if ch.toNat=(if obj then 125 else 93) then .go (endC c) else .stop 31 c.p)):=by
  intro obj ho
  rw [ho] at hkk
  refine Meets.enter Tryz.func106 rfl rfl ?_
  have hen2:=hend
  unfold Jc.res Jc.cells at hon ⊢
  unfold Jc.cells at hodd
  unfold Jc.res Jc.cells at hen2
  cases obj with
  | true =>
   simp only [if_true] at hkk ⊢
   by_cases h44:ch.toNat=44
   ·rw [if_pos h44]
    repeat' (first|(apply T.subI;apply rfl;apply rfl;omega;apply rfl;rw [e2])|(apply T.loadE;apply rfl;apply rfl;infer_instance;exact htop;apply rfl)|((first|apply T.mv|apply T.asn|apply T.len|apply T.nilCheck);apply rfl;apply rfl)|(apply T.fieldAddrZ;apply rfl;apply rfl)|(apply T.load;apply rfl;apply rfl;infer_instance;apply rfl;apply rfl)|(apply T.eql;(iterate 3 apply rfl))|(apply T.addI;apply rfl;apply rfl;omega;apply rfl)|(apply T.ixN;apply rfl;apply rfl;infer_instance;omega;(first|omega|(simp only [List.length_map];omega)|(simp;omega));apply rfl)|(apply T.ixF;apply rfl;apply rfl;infer_instance;exact (fun _=>rfl);apply rfl;omega;omega;apply rfl)|(apply T.fieldAddrF;apply rfl;infer_instance;exact (fun _=>rfl);apply rfl;omega;apply rfl)|(apply T.loadF;apply rfl;apply rfl;infer_instance;exact (fun _=>rfl);apply rfl;exact Zq (by omega);apply rfl;apply rfl)|(apply T.pickT;(iterate 3 apply rfl))|(apply T.store;apply rfl;apply rfl;infer_instance;(first|decide|(simp;omega)|simp);apply rfl)|(with_reducible first|refine Sr.nil ?_|refine S.seq ?_|refine S.block ?_|refine S.reg ?_|refine S.inBlock ?_)|(apply S.quiet;apply rfl;kernel_rfl)|(apply T.ungV;apply rfl;(first|with_reducible rfl|decide))|(apply S.condQ;apply rfl;all_goals (intro _;try (exfalso;first|omega|with_reducible contradiction)))|(apply T.gcase;apply rfl;apply rfl;all_goals (intro _;try (exfalso;first|omega|with_reducible contradiction)))|(apply T.retW;apply rfl)|fail)
    exact ⟨_,PSub.refl _,hon 2⟩
   ·rw [if_neg h44]
    by_cases h125:ch.toNat=125
    ·rw [if_pos h125]
     repeat' (first|(apply T.subI;apply rfl;apply rfl;omega;apply rfl;rw [e2])|(apply T.loadE;apply rfl;apply rfl;infer_instance;exact htop;apply rfl)|((first|apply T.mv|apply T.asn|apply T.len|apply T.nilCheck);apply rfl;apply rfl)|(apply T.fieldAddrZ;apply rfl;apply rfl)|(apply T.load;apply rfl;apply rfl;infer_instance;apply rfl;apply rfl)|(apply T.eql;(iterate 3 apply rfl))|(apply T.ixN;apply rfl;apply rfl;infer_instance;omega;(first|omega|(simp only [List.length_map];omega)|(simp;omega));apply rfl)|(apply T.ixF;apply rfl;apply rfl;infer_instance;exact (fun _=>rfl);apply rfl;omega;omega;apply rfl)|(apply T.fieldAddrF;apply rfl;infer_instance;exact (fun _=>rfl);apply rfl;omega;apply rfl)|(apply T.loadF;apply rfl;apply rfl;infer_instance;exact (fun _=>rfl);apply rfl;exact Zq (by omega);apply rfl;apply rfl)|(apply T.pickT;(iterate 3 apply rfl))|(apply T.pickF;(iterate 3 apply rfl))|(with_reducible first|refine Sr.nil ?_|refine S.seq ?_|refine S.block ?_|refine S.reg ?_)|(apply S.quiet;apply rfl;kernel_rfl)|(apply T.ungV;apply rfl;(first|with_reducible rfl|decide))|(apply T.skip;apply rfl;(first|with_reducible rfl|decide);apply rfl)|(apply T.skipU;apply rfl;apply rfl)|(apply S.condTV;apply rfl;(first|with_reducible rfl|decide))|(apply S.condFV;apply rfl;(first|with_reducible rfl|decide))|(apply S.condQ;apply rfl;all_goals (intro _;try (exfalso;first|omega|with_reducible contradiction)))|(apply T.gcase;apply rfl;apply rfl;all_goals (intro _;try (exfalso;first|omega|with_reducible contradiction)))|fail)
     refine T.call rfl rfl hen2 ?_
     intro e H' hS
     obtain ⟨v,rfl⟩:=hS.bool
     repeat' (first|(apply T.asn;apply rfl;apply rfl)|with_reducible refine Sr.nil ?_|(apply T.retW;apply rfl)|(with_reducible apply T.ofRet)|fail)
     exact ⟨_,PSub.refl _,hS⟩
    ·rw [if_neg h125]
     repeat' (first|(apply T.subI;apply rfl;apply rfl;omega;apply rfl;rw [e2])|(apply T.loadE;apply rfl;apply rfl;infer_instance;exact htop;apply rfl)|((first|apply T.mv|apply T.asn|apply T.len|apply T.nilCheck|apply T.not);apply rfl;apply rfl)|(apply T.fieldAddrZ;apply rfl;apply rfl)|(apply T.load;apply rfl;apply rfl;infer_instance;apply rfl;apply rfl)|(apply T.eql;(iterate 3 apply rfl))|(apply T.ixN;apply rfl;apply rfl;infer_instance;omega;(first|omega|(simp only [List.length_map];omega)|(simp;omega));apply rfl)|(apply T.ixF;apply rfl;apply rfl;infer_instance;exact (fun _=>rfl);apply rfl;omega;omega;apply rfl)|(apply T.fieldAddrF;apply rfl;infer_instance;exact (fun _=>rfl);apply rfl;omega;apply rfl)|(apply T.loadF;apply rfl;apply rfl;infer_instance;exact (fun _=>rfl);apply rfl;exact Zq (by omega);apply rfl;apply rfl)|(apply T.pickT;(iterate 3 apply rfl))|(apply T.pickF;(iterate 3 apply rfl))|(with_reducible first|refine Sr.nil ?_|refine S.seq ?_|refine S.block ?_|refine S.reg ?_)|(apply S.quiet;apply rfl;kernel_rfl)|(apply T.ungV;apply rfl;(first|with_reducible rfl|decide))|(apply T.skip;apply rfl;(first|with_reducible rfl|decide);apply rfl)|(apply S.condFV;apply rfl;(first|with_reducible rfl|decide))|(apply S.condQ;apply rfl;all_goals (intro _;try (exfalso;first|omega|with_reducible contradiction)))|(apply T.gcase;apply rfl;apply rfl;all_goals (intro _;try (exfalso;first|omega|with_reducible contradiction)))|fail)
     all_goals
      refine T.call rfl rfl Zp ?_
      rintro _ _ ⟨rfl,rfl⟩
      repeat' (first|(apply T.asn;apply rfl;apply rfl)|with_reducible refine Sr.nil ?_|(apply T.retW;apply rfl)|(with_reducible apply T.ofRet)|fail)
      exact hodd _ _ ⟨rfl,rfl⟩
  | false =>
   simp only [if_false,Bool.false_eq_true] at hkk ⊢
   have hk7:¬(C.out.getD x.1 default).kind=7:=by omega
   by_cases h44:ch.toNat=44
   ·rw [if_pos h44]
    repeat' (first|(apply T.subI;apply rfl;apply rfl;omega;apply rfl;rw [e2])|(apply T.loadE;apply rfl;apply rfl;infer_instance;exact htop;apply rfl)|((first|apply T.mv|apply T.asn|apply T.len|apply T.nilCheck);apply rfl;apply rfl)|(apply T.fieldAddrZ;apply rfl;apply rfl)|(apply T.load;apply rfl;apply rfl;infer_instance;apply rfl;apply rfl)|(apply T.eql;(iterate 3 apply rfl))|(apply T.addI;apply rfl;apply rfl;omega;apply rfl)|(apply T.ixN;apply rfl;apply rfl;infer_instance;omega;(first|omega|(simp only [List.length_map];omega)|(simp;omega));apply rfl)|(apply T.ixF;apply rfl;apply rfl;infer_instance;exact (fun _=>rfl);apply rfl;omega;omega;apply rfl)|(apply T.fieldAddrF;apply rfl;infer_instance;exact (fun _=>rfl);apply rfl;omega;apply rfl)|(apply T.loadF;apply rfl;apply rfl;infer_instance;exact (fun _=>rfl);apply rfl;exact Zq (by omega);apply rfl;apply rfl)|(apply T.pickT;(iterate 3 apply rfl))|(apply T.store;apply rfl;apply rfl;infer_instance;(first|decide|(simp;omega)|simp);apply rfl)|(with_reducible first|refine Sr.nil ?_|refine S.seq ?_|refine S.block ?_|refine S.reg ?_|refine S.inBlock ?_)|(apply S.quiet;apply rfl;kernel_rfl)|(apply T.ungV;apply rfl;(first|with_reducible rfl|decide))|(apply S.condQ;apply rfl;all_goals (intro _;try (exfalso;first|omega|with_reducible contradiction)))|(apply T.gcase;apply rfl;apply rfl;all_goals (intro _;try (exfalso;first|omega|with_reducible contradiction)))|(apply T.retW;apply rfl)|fail)
    exact ⟨_,PSub.refl _,hon 0⟩
   ·rw [if_neg h44]
    by_cases h93:ch.toNat=93
    ·rw [if_pos h93]
     repeat' (first|(apply T.subI;apply rfl;apply rfl;omega;apply rfl;rw [e2])|(apply T.loadE;apply rfl;apply rfl;infer_instance;exact htop;apply rfl)|((first|apply T.mv|apply T.asn|apply T.len|apply T.nilCheck|apply T.not);apply rfl;apply rfl)|(apply T.fieldAddrZ;apply rfl;apply rfl)|(apply T.load;apply rfl;apply rfl;infer_instance;apply rfl;apply rfl)|(apply T.eql;(iterate 3 apply rfl))|(apply T.ixN;apply rfl;apply rfl;infer_instance;omega;(first|omega|(simp only [List.length_map];omega)|(simp;omega));apply rfl)|(apply T.ixF;apply rfl;apply rfl;infer_instance;exact (fun _=>rfl);apply rfl;omega;omega;apply rfl)|(apply T.fieldAddrF;apply rfl;infer_instance;exact (fun _=>rfl);apply rfl;omega;apply rfl)|(apply T.loadF;apply rfl;apply rfl;infer_instance;exact (fun _=>rfl);apply rfl;exact Zq (by omega);apply rfl;apply rfl)|(apply T.pickT;(iterate 3 apply rfl))|(apply T.pickF;(iterate 3 apply rfl))|(with_reducible first|refine Sr.nil ?_|refine S.seq ?_|refine S.block ?_|refine S.reg ?_)|(apply S.quiet;apply rfl;kernel_rfl)|(apply T.ungV;apply rfl;(first|with_reducible rfl|decide))|(apply T.skip;apply rfl;(first|with_reducible rfl|decide);apply rfl)|(apply S.condFV;apply rfl;(first|with_reducible rfl|decide))|(apply S.condQ;apply rfl;all_goals (intro _;try (exfalso;first|omega|with_reducible contradiction)))|(apply T.gcase;apply rfl;apply rfl;all_goals (intro _;try (exfalso;first|omega|with_reducible contradiction)))|fail)
     refine T.call rfl rfl hen2 ?_
     intro e H' hS
     obtain ⟨v,rfl⟩:=hS.bool
     repeat' (first|(apply T.asn;apply rfl;apply rfl)|with_reducible refine Sr.nil ?_|(apply T.retW;apply rfl)|(with_reducible apply T.ofRet)|fail)
     exact ⟨_,PSub.refl _,hS⟩
    ·rw [if_neg h93]
     repeat' (first|(apply T.subI;apply rfl;apply rfl;omega;apply rfl;rw [e2])|(apply T.loadE;apply rfl;apply rfl;infer_instance;exact htop;apply rfl)|((first|apply T.mv|apply T.asn|apply T.len|apply T.nilCheck);apply rfl;apply rfl)|(apply T.fieldAddrZ;apply rfl;apply rfl)|(apply T.load;apply rfl;apply rfl;infer_instance;apply rfl;apply rfl)|(apply T.eql;(iterate 3 apply rfl))|(apply T.ixN;apply rfl;apply rfl;infer_instance;omega;(first|omega|(simp only [List.length_map];omega)|(simp;omega));apply rfl)|(apply T.ixF;apply rfl;apply rfl;infer_instance;exact (fun _=>rfl);apply rfl;omega;omega;apply rfl)|(apply T.fieldAddrF;apply rfl;infer_instance;exact (fun _=>rfl);apply rfl;omega;apply rfl)|(apply T.loadF;apply rfl;apply rfl;infer_instance;exact (fun _=>rfl);apply rfl;exact Zq (by omega);apply rfl;apply rfl)|(apply T.pickT;(iterate 3 apply rfl))|(apply T.pickF;(iterate 3 apply rfl))|(with_reducible first|refine Sr.nil ?_|refine S.seq ?_|refine S.block ?_|refine S.reg ?_)|(apply S.quiet;apply rfl;kernel_rfl)|(apply T.ungV;apply rfl;(first|with_reducible rfl|decide))|(apply T.skip;apply rfl;(first|with_reducible rfl|decide);apply rfl)|(apply S.condFV;apply rfl;(first|with_reducible rfl|decide))|(apply S.condQ;apply rfl;all_goals (intro _;try (exfalso;first|omega|with_reducible contradiction)))|(apply T.gcase;apply rfl;apply rfl;all_goals (intro _;try (exfalso;first|omega|with_reducible contradiction)))|fail)
     all_goals
      refine T.call rfl rfl Zp ?_
      rintro _ _ ⟨rfl,rfl⟩
      repeat' (first|(apply T.asn;apply rfl;apply rfl)|with_reducible refine Sr.nil ?_|(apply T.retW;apply rfl)|(with_reducible apply T.ofRet)|fail)
      exact hodd _ _ ⟨rfl,rfl⟩
 have hmc:morC c ch=if ch.toNat=44 then .go { c with p:=c.p+1,s:=if x.2.isSome then 2 else 0 } else if ch.toNat=(if x.2.isSome then 125 else 93) then .go (endC c) else .stop 31 c.p:=by
  unfold morC
  rw [hobj]
  by_cases h44:ch.toNat=44
  ·rw [if_pos h44,if_pos ((e1 44).2 h44)]
  ·rw [if_neg h44,if_neg (fun hh=>h44 ((e1 44).1 hh))]
   cases x.2.isSome with
   | true =>
    simp only [if_true]
    by_cases h:ch.toNat=125
    ·rw [if_pos h,if_pos ((e1 125).2 h)]
    ·rw [if_neg h,if_neg (fun hh=>h ((e1 125).1 hh))]
   | false =>
    simp only [if_false,Bool.false_eq_true]
    by_cases h:ch.toNat=93
    ·rw [if_pos h,if_pos ((e1 93).2 h)]
    ·rw [if_neg h,if_neg (fun hh=>h ((e1 93).1 hh))]
 rw [hmc]
 exact key _ rfl
end
end Go.Proofs.YthomgjihagigcaaGreatDoor
/- The walks of the program's reader of JSON: a step. -/
namespace Sg
structure GoodC (c:Cf):Prop where
 one:c.s=1∨c.s=3∨c.s=5→c.stk≠[]
 top:c.s=2∨c.s=3→Z0x c.stk=true
 le:c.s≤6
section
variable {wh:List UInt8→Int × Bool} {t:List UInt8} {c c':Cf} {ch:UInt8}
theorem GoodC.behind (c:Cf):GoodC c.behind:=by
 unfold Cf.behind
 cases h:c.stk with
 | nil=>exact ⟨fun h=>by simp only [behS] at h;omega,fun h=>by simp only [behS] at h;omega,Nat.le_refl _⟩
 | cons a r=>exact ⟨fun _=>List.cons_ne_nil _ _,fun h=>by simp only [behS] at h;omega,(by decide:5≤6)⟩
theorem Z8f (h:begC c ch=.go c'):GoodC c'∧c'.p=c.p+1:=by
 unfold begC at h
 split at h
 ·cases h
 ·cases h
  refine ⟨⟨fun _=>List.cons_ne_nil _ _,fun h=>?_,?_⟩,rfl⟩
  ·by_cases h1:ch=123
   ·simp only [h1,if_true]
    rfl
   ·simp only [h1,if_false] at h
    omega
  ·show (if ch=123 then 3 else 1)≤6
   split<;>decide
theorem Z65 (hp:c.p < t.length) (h:valC wh t c ch=.go c'):GoodC c'∧c.p < c'.p:=by
 unfold valC at h
 split at h
 ·have:=Z8f h
  exact ⟨this.1,by omega⟩
 ·have hfit:=Z0m (wh:=wh) (c:=ch) hp
  cases hx:ZT wh t c.p ch with
  | bad e a=>rw [hx] at h;cases h
  | ok a l =>
   rw [hx] at h
   cases h
   have:=hfit a l hx
   exact ⟨GoodC.behind _,show c.p < a by omega⟩
theorem Z6x (hp:c.p < t.length) (h:namC t c ch=.go c'):GoodC c'∧c.p < c'.p:=by
 unfold namC at h
 split at h
 ·have hfit:=Zn (t:=t) (p:=c.p+1) (by omega)
  cases hx:Zo t (c.p+1) with
  | bad e a=>rw [hx] at h;cases h
  | ok a s =>
   rw [hx] at h
   simp only at h
   have:=hfit a s hx
   split at h
   ·split at h
    ·cases h
    ·cases h
     exact ⟨⟨fun h=>by simp only at h;omega,fun h=>by simp only at h;omega,(by decide:4≤6)⟩,show c.p < a by omega⟩
   ·cases h
 ·cases h
theorem Z3o:GoodC (endC c)∧c.p < (endC c).p:=⟨GoodC.behind _,Nat.lt_succ_self _⟩
theorem Z75 (hp:c.p < t.length) (h:Z15 wh t c ch=.go c'):GoodC c'∧c.p < c'.p:=by
 unfold Z15 at h
 split at h
 ·exact Z65 hp h
 ·split at h
  ·cases h
   exact Z3o
  ·exact Z65 hp h
 ·exact Z6x hp h
 ·split at h
  ·cases h
   exact Z3o
  ·exact Z6x hp h
 ·split at h
  ·cases h
   exact ⟨⟨fun h=>by simp only at h;omega,fun h=>by simp only at h;omega,(by decide:0≤6)⟩,Nat.lt_succ_self _⟩
  ·cases h
 ·unfold morC at h
  by_cases hb:Z0x c.stk=true
  ·simp only [hb,if_true] at h
   split at h
   ·cases h
    exact ⟨⟨fun h=>by simp only at h;omega,fun _=>hb,(by decide:2≤6)⟩,Nat.lt_succ_self _⟩
   ·split at h
    ·cases h
     exact Z3o
    ·cases h
  ·have hbf:Z0x c.stk=false:=by simpa using hb
   by_cases h44:ch=44
   ·rw [if_pos h44] at h
    cases h
    exact ⟨⟨fun h=>by simp [hbf] at h,fun h=>by simp [hbf] at h,by simp [hbf]⟩,Nat.lt_succ_self _⟩
   ·rw [if_neg h44,hbf] at h
    by_cases h93:ch=93
    ·rw [if_pos (by simpa using h93)] at h
     cases h
     exact Z3o
    ·rw [if_neg (by simpa using h93)] at h
     cases h
 ·cases h
theorem Z3P {f:Nat}:mach wh t f { c with p:=Z2 t c.p }=mach wh t f c:=by
 cases f with
 | zero=>rfl
 | succ f=>simp only [mach,Ze]
end
end Sg
namespace Go.Proofs.YthomgjihagigcaaGreatDoor
open Sg Go.IntWalk
set_option maxRecDepth 100000
set_option maxHeartbeats 4000000
section
variable {F:World} {M:List Nat} {H:List Res} {p:Nat} {t:List UInt8} {C:Jc} {c:Cf}
theorem Z7Q (hr:Rel C c) (h:Z0x c.stk=true):∃ i y r,C.st=(i,some y)::r:=by
 have hs:=hr.stk
 cases hck:c.stk with
 | nil=>rw [hck] at h;cases h
 | cons z q =>
  rw [hck] at hs h
  obtain ⟨zi,zo⟩:=z
  cases hC:C.st with
  | nil=>rw [hC] at hs;exact hs.elim
  | cons x r =>
   rw [hC] at hs
   obtain ⟨xi,xo⟩:=x
   cases zo with
   | none=>cases h
   | some ns=>cases xo with
    | none=>exact hs.2.1.elim
    | some y=>exact ⟨xi,y,r,rfl⟩
theorem Z8k (hr:Rel C c) (h:c.stk≠[]):C.st≠[]:=fun e=>by
 have:=hr.stk.len
 rw [e] at this
 exact h (List.length_eq_zero_iff.1 this.symm)
theorem Z69 (hT:Tabs F M) {ch:UInt8} (ha:C.a < t.length) (hr:Rel C c) (hi:Inv t C) (hg:GoodC c) (hl:t.length≤262144) (hch:t[c.p]?=some ch) :
  Meets Tryz.prog 92 [.pointer (some ⟨p,0,none⟩)] F M (C.res p t H) (StepP p t H (Z15 Z9 t c ch)):=by
 have hu:=ch.toNat_lt
 have e1:∀ n:UInt8,(ch=n)↔(ch.toNat=n.toNat):=fun n=>UInt8.toNat_inj.symm
 have hb:bAt t C.a=ch.toNat:=by rw [hr.p];exact Z13 hch
 have hsC:=hr.s
 have hval:=Z5w (F:=F) (M:=M) (p:=p) (H:=H) (ch:=ch) hT ha hr hi hl
 have hend:=fun hn=>Z5n (F:=F) (M:=M) (p:=p) (H:=H) ha hr hi hl (Z8k hr hn)
 have hon:=fun s'=>Z6a (p:=p) (H:=H) hr hi ha s'
 have hodd:=fun e H'=>Z56 (p:=p) (t:=t) (H:=H) hr (e:=e) (H':=H')
 have hnam:Z0x c.stk=true→Meets Tryz.prog 105 [.pointer (some ⟨p,0,none⟩)] F M (C.res p t H) (StepP p t H (namC t c 34)):=fun h=>by
  obtain ⟨i,y,r,hst⟩:=Z7Q hr h
  exact Z6u hT ha hr hi hl hst
 have hmor:c.stk≠[]→Meets Tryz.prog 106 [.pointer (some ⟨p,0,none⟩),.int .u8 (ch.toNat:Nat)] F M (C.res p t H) (StepP p t H (morC c ch)):=fun h=>by
  cases hst:C.st with
  | nil=>exact absurd hst (Z8k hr h)
  | cons x r=>exact Z6y ha hr hi hl hst
 unfold Jc.res Jc.cells at hval hend hon hnam hmor ⊢
 unfold Jc.cells at hodd
 refine Meets.enter Tryz.func92 rfl rfl ?_
 repeat' (first|((first|apply T.mv|apply T.asn);apply rfl;apply rfl)|(with_reducible first|refine Sr.nil ?_|refine S.seq ?_|refine S.reg ?_)|fail)
 refine T.call rfl rfl Zw ?_
 rintro _ _ ⟨rfl,rfl⟩
 rw [hb]
 have hle:=hg.le
 unfold Z15
 rcases (by omega:c.s=0∨c.s=1∨c.s=2∨c.s=3∨c.s=4∨c.s=5∨c.s=6) with h0|h0|h0|h0|h0|h0|h0
 ·rw [h0] at hsC ⊢
  repeat' (first|((first|apply T.mv|apply T.asn|apply T.nilCheck|apply T.fieldAddrZ);apply rfl;apply rfl)|(apply T.load;apply rfl;apply rfl;infer_instance;apply rfl;apply rfl)|(apply T.eql;(iterate 3 apply rfl))|(with_reducible first|refine Sr.nil ?_|refine S.seq ?_|refine S.block ?_|refine S.reg ?_|refine S.skip ?_)|(apply S.exit;apply rfl)|(apply S.condQ;apply rfl;all_goals (intro _;try (exfalso;first|omega|with_reducible contradiction)))|(with_reducible apply T.ofRet)|fail)
  refine T.call rfl rfl hval ?_
  intro e H' hS
  obtain ⟨v,rfl⟩:=hS.bool
  repeat' (first|(apply T.asn;apply rfl;apply rfl)|with_reducible refine Sr.nil ?_|(apply T.retW;apply rfl)|(with_reducible apply T.ofRet)|fail)
  exact ⟨_,PSub.refl _,hS⟩
 ·have hE:=hend (hg.one (.inl h0))
  rw [h0] at hsC ⊢
  by_cases h1:ch.toNat=93
  ·simp only [(e1 93).2 h1,if_true]
   repeat' (first|((first|apply T.mv|apply T.asn|apply T.nilCheck|apply T.fieldAddrZ);apply rfl;apply rfl)|(apply T.load;apply rfl;apply rfl;infer_instance;apply rfl;apply rfl)|(apply T.eql;(iterate 3 apply rfl))|(with_reducible first|refine Sr.nil ?_|refine S.seq ?_|refine S.block ?_|refine S.reg ?_)|(apply S.exit;apply rfl)|(apply S.condTV;apply rfl;(first|with_reducible rfl|decide))|(apply S.condQ;apply rfl;all_goals (intro _;try (exfalso;first|omega|with_reducible contradiction)))|(with_reducible apply T.ofRet)|fail)
   refine T.call rfl rfl hE ?_
   intro e H' hS
   obtain ⟨v,rfl⟩:=hS.bool
   repeat' (first|(apply T.asn;apply rfl;apply rfl)|with_reducible refine Sr.nil ?_|(apply T.retW;apply rfl)|(with_reducible apply T.ofRet)|fail)
   exact ⟨_,PSub.refl _,hS⟩
  ·simp only [show ¬ch=93 from fun hh=>h1 ((e1 93).1 hh),if_false]
   repeat' (first|((first|apply T.mv|apply T.asn|apply T.nilCheck|apply T.fieldAddrZ);apply rfl;apply rfl)|(apply T.load;apply rfl;apply rfl;infer_instance;apply rfl;apply rfl)|(apply T.eql;(iterate 3 apply rfl))|(with_reducible first|refine Sr.nil ?_|refine S.seq ?_|refine S.block ?_|refine S.reg ?_|refine S.skip ?_|refine S.inBlock ?_)|(apply S.exit;apply rfl)|(apply S.condQ;apply rfl;all_goals (intro _;try (exfalso;first|omega|with_reducible contradiction)))|(with_reducible apply T.ofRet)|fail)
   refine T.call rfl rfl hval ?_
   intro e H' hS
   obtain ⟨v,rfl⟩:=hS.bool
   repeat' (first|(apply T.asn;apply rfl;apply rfl)|with_reducible refine Sr.nil ?_|(apply T.retW;apply rfl)|(with_reducible apply T.ofRet)|fail)
   exact ⟨_,PSub.refl _,hS⟩
 ·have hN:=hnam (hg.top (.inl h0))
  rw [h0] at hsC ⊢
  by_cases h1:ch.toNat=34
  ·obtain rfl:ch=34:=(e1 34).2 h1
   repeat' (first|((first|apply T.mv|apply T.asn|apply T.nilCheck|apply T.fieldAddrZ);apply rfl;apply rfl)|(apply T.load;apply rfl;apply rfl;infer_instance;apply rfl;apply rfl)|((first|apply T.eql|apply T.neq);(iterate 3 apply rfl))|(with_reducible first|refine Sr.nil ?_|refine S.seq ?_|refine S.block ?_|refine S.reg ?_|refine S.skip ?_)|(apply S.exit;apply rfl)|(apply S.condFV;apply rfl;(first|with_reducible rfl|decide))|(apply S.condQ;apply rfl;all_goals (intro _;try (exfalso;first|omega|with_reducible contradiction)))|(with_reducible apply T.ofRet)|fail)
   refine T.call rfl rfl hN ?_
   intro e H' hS
   obtain ⟨v,rfl⟩:=hS.bool
   repeat' (first|(apply T.asn;apply rfl;apply rfl)|with_reducible refine Sr.nil ?_|(apply T.retW;apply rfl)|(with_reducible apply T.ofRet)|fail)
   exact ⟨_,PSub.refl _,hS⟩
  ·have hn:namC t c ch=.stop 31 c.p:=by
    unfold namC
    rw [if_neg (fun hh=>h1 ((e1 34).1 hh))]
   simp only [hn]
   repeat' (first|((first|apply T.mv|apply T.asn|apply T.nilCheck|apply T.fieldAddrZ);apply rfl;apply rfl)|(apply T.load;apply rfl;apply rfl;infer_instance;apply rfl;apply rfl)|((first|apply T.eql|apply T.neq);(iterate 3 apply rfl))|(with_reducible first|refine Sr.nil ?_|refine S.seq ?_|refine S.block ?_|refine S.reg ?_|refine S.skip ?_)|(apply S.exit;apply rfl)|(apply S.condQ;apply rfl;all_goals (intro _;try (exfalso;first|omega|with_reducible contradiction)))|(with_reducible apply T.ofRet)|fail)
   refine T.call rfl rfl Zp ?_
   rintro _ _ ⟨rfl,rfl⟩
   repeat' (first|(apply T.asn;apply rfl;apply rfl)|with_reducible refine Sr.nil ?_|(apply T.retW;apply rfl)|(with_reducible apply T.ofRet)|fail)
   exact hodd _ _ ⟨rfl,rfl⟩
 ·have hE:=hend (hg.one (.inr (.inl h0)))
  have hN:=hnam (hg.top (.inr h0))
  rw [h0] at hsC ⊢
  by_cases h2:ch.toNat=125
  ·simp only [(e1 125).2 h2,if_true]
   repeat' (first|((first|apply T.mv|apply T.asn|apply T.nilCheck|apply T.fieldAddrZ);apply rfl;apply rfl)|(apply T.load;apply rfl;apply rfl;infer_instance;apply rfl;apply rfl)|(apply T.eql;(iterate 3 apply rfl))|(with_reducible first|refine Sr.nil ?_|refine S.seq ?_|refine S.block ?_|refine S.reg ?_|refine S.skip ?_)|(apply S.exit;apply rfl)|(apply S.condTV;apply rfl;(first|with_reducible rfl|decide))|(apply S.condQ;apply rfl;all_goals (intro _;try (exfalso;first|omega|with_reducible contradiction)))|(with_reducible apply T.ofRet)|fail)
   refine T.call rfl rfl hE ?_
   intro e H' hS
   obtain ⟨v,rfl⟩:=hS.bool
   repeat' (first|(apply T.asn;apply rfl;apply rfl)|with_reducible refine Sr.nil ?_|(apply T.retW;apply rfl)|(with_reducible apply T.ofRet)|fail)
   exact ⟨_,PSub.refl _,hS⟩
  ·simp only [show ¬ch=125 from fun hh=>h2 ((e1 125).1 hh),if_false]
   by_cases h1:ch.toNat=34
   ·obtain rfl:ch=34:=(e1 34).2 h1
    repeat' (first|((first|apply T.mv|apply T.asn|apply T.nilCheck|apply T.fieldAddrZ);apply rfl;apply rfl)|(apply T.load;apply rfl;apply rfl;infer_instance;apply rfl;apply rfl)|((first|apply T.eql|apply T.neq);(iterate 3 apply rfl))|(with_reducible first|refine Sr.nil ?_|refine S.seq ?_|refine S.block ?_|refine S.reg ?_|refine S.skip ?_|refine S.inBlock ?_)|(apply S.exit;apply rfl)|(apply S.condFV;apply rfl;(first|with_reducible rfl|decide))|(apply S.condQ;apply rfl;all_goals (intro _;try (exfalso;first|omega|with_reducible contradiction)))|(with_reducible apply T.ofRet)|fail)
    refine T.call rfl rfl hN ?_
    intro e H' hS
    obtain ⟨v,rfl⟩:=hS.bool
    repeat' (first|(apply T.asn;apply rfl;apply rfl)|with_reducible refine Sr.nil ?_|(apply T.retW;apply rfl)|(with_reducible apply T.ofRet)|fail)
    exact ⟨_,PSub.refl _,hS⟩
   ·have hn:namC t c ch=.stop 31 c.p:=by
     unfold namC
     rw [if_neg (fun hh=>h1 ((e1 34).1 hh))]
    simp only [hn]
    repeat' (first|((first|apply T.mv|apply T.asn|apply T.nilCheck|apply T.fieldAddrZ);apply rfl;apply rfl)|(apply T.load;apply rfl;apply rfl;infer_instance;apply rfl;apply rfl)|((first|apply T.eql|apply T.neq);(iterate 3 apply rfl))|(with_reducible first|refine Sr.nil ?_|refine S.seq ?_|refine S.block ?_|refine S.reg ?_|refine S.skip ?_|refine S.inBlock ?_)|(apply S.exit;apply rfl)|(apply S.condQ;apply rfl;all_goals (intro _;try (exfalso;first|omega|with_reducible contradiction)))|(with_reducible apply T.ofRet)|fail)
    refine T.call rfl rfl Zp ?_
    rintro _ _ ⟨rfl,rfl⟩
    repeat' (first|(apply T.asn;apply rfl;apply rfl)|with_reducible refine Sr.nil ?_|(apply T.retW;apply rfl)|(with_reducible apply T.ofRet)|fail)
    exact hodd _ _ ⟨rfl,rfl⟩
 ·rw [h0] at hsC ⊢
  by_cases h1:ch.toNat=58
  ·simp only [(e1 58).2 h1,if_true]
   have hat:=hi.at_
   repeat' (first|((first|apply T.mv|apply T.asn|apply T.nilCheck|apply T.fieldAddrZ);apply rfl;apply rfl)|(apply T.load;apply rfl;apply rfl;infer_instance;apply rfl;apply rfl)|((first|apply T.eql|apply T.neq);(iterate 3 apply rfl))|(apply T.addI;apply rfl;apply rfl;omega;apply rfl)|(apply T.store;apply rfl;apply rfl;infer_instance;(first|decide|(simp;omega)|simp);apply rfl)|(with_reducible first|refine Sr.nil ?_|refine S.seq ?_|refine S.block ?_|refine S.reg ?_|refine S.skip ?_)|(apply S.exit;apply rfl)|(apply S.condFV;apply rfl;(first|with_reducible rfl|decide))|(apply S.condQ;apply rfl;all_goals (intro _;try (exfalso;first|omega|with_reducible contradiction)))|(apply T.retW;apply rfl)|(with_reducible apply T.ofRet)|fail)
   exact ⟨_,PSub.refl _,hon 0⟩
  ·simp only [show ¬ch=58 from fun hh=>h1 ((e1 58).1 hh),if_false]
   repeat' (first|((first|apply T.mv|apply T.asn|apply T.nilCheck|apply T.fieldAddrZ);apply rfl;apply rfl)|(apply T.load;apply rfl;apply rfl;infer_instance;apply rfl;apply rfl)|((first|apply T.eql|apply T.neq);(iterate 3 apply rfl))|(with_reducible first|refine Sr.nil ?_|refine S.seq ?_|refine S.block ?_|refine S.reg ?_|refine S.skip ?_)|(apply S.exit;apply rfl)|(apply S.condQ;apply rfl;all_goals (intro _;try (exfalso;first|omega|with_reducible contradiction)))|(with_reducible apply T.ofRet)|fail)
   refine T.call rfl rfl Zp ?_
   rintro _ _ ⟨rfl,rfl⟩
   repeat' (first|(apply T.asn;apply rfl;apply rfl)|with_reducible refine Sr.nil ?_|(apply T.retW;apply rfl)|(with_reducible apply T.ofRet)|fail)
   exact hodd _ _ ⟨rfl,rfl⟩
 ·have hM:=hmor (hg.one (.inr (.inr h0)))
  rw [h0] at hsC ⊢
  repeat' (first|((first|apply T.mv|apply T.asn|apply T.nilCheck|apply T.fieldAddrZ);apply rfl;apply rfl)|(apply T.load;apply rfl;apply rfl;infer_instance;apply rfl;apply rfl)|(apply T.eql;(iterate 3 apply rfl))|(with_reducible first|refine Sr.nil ?_|refine S.seq ?_|refine S.block ?_|refine S.reg ?_|refine S.skip ?_)|(apply S.exit;apply rfl)|(apply S.condQ;apply rfl;all_goals (intro _;try (exfalso;first|omega|with_reducible contradiction)))|(with_reducible apply T.ofRet)|fail)
  refine T.call rfl rfl hM ?_
  intro e H' hS
  obtain ⟨v,rfl⟩:=hS.bool
  repeat' (first|(apply T.asn;apply rfl;apply rfl)|with_reducible refine Sr.nil ?_|(apply T.retW;apply rfl)|(with_reducible apply T.ofRet)|fail)
  exact ⟨_,PSub.refl _,hS⟩
 ·rw [h0] at hsC ⊢
  repeat' (first|((first|apply T.mv|apply T.asn|apply T.nilCheck|apply T.fieldAddrZ);apply rfl;apply rfl)|(apply T.load;apply rfl;apply rfl;infer_instance;apply rfl;apply rfl)|(apply T.eql;(iterate 3 apply rfl))|(with_reducible first|refine Sr.nil ?_|refine S.seq ?_|refine S.block ?_|refine S.reg ?_|refine S.skip ?_)|(apply S.exit;apply rfl)|(apply S.condQ;apply rfl;all_goals (intro _;try (exfalso;first|omega|with_reducible contradiction)))|(with_reducible apply T.ofRet)|fail)
  refine T.call rfl rfl Zp ?_
  rintro _ _ ⟨rfl,rfl⟩
  repeat' (first|(apply T.asn;apply rfl;apply rfl)|with_reducible refine Sr.nil ?_|(apply T.retW;apply rfl)|(with_reducible apply T.ofRet)|fail)
  exact hodd _ _ ⟨rfl,rfl⟩
end
end Go.Proofs.YthomgjihagigcaaGreatDoor
/- The walks of the program's reader of JSON: it says what going down says. -/
namespace Go.Proofs.YthomgjihagigcaaGreatDoor
open Sg Go.IntWalk
set_option maxRecDepth 100000
set_option maxHeartbeats 4000000
section
variable {F:World} {M:List Nat} {H:List Res} {p:Nat} {t:List UInt8} {C:Jc} {c:Cf}
def ParP (H:List Res):Gt (List Nd)→Ending→List Res→Prop
 | .ok _ l=>fun e H'=>∃ oa oc,e=.returned (.tuple ⟨[.slice oa l.length oc,.int .i64 0,.int .i64 0]⟩)∧H'=ouR oa oc l::H
 | .bad c a=>fun e H'=>e=.returned (.tuple ⟨[.slice none 0 0,.int .i64 c,.int .i64 a]⟩)∧H'=H
theorem Z7C (hr:Rel C c) (hi:Inv t C):Rel { C with a:=Z2 t C.a } { c with p:=Z2 t c.p }∧Inv t { C with a:=Z2 t C.a }:=by
 have h1:=Zd t C.a
 have h2:=Zb (t:=t) hi.at_
 refine ⟨⟨?_,hr.s,hr.out,hr.key,hr.stk⟩,⟨h2,?_,hi.kids,hi.idx,hi.kind,fun z hz y hy=>?_,hi.dep⟩⟩
 ·show Z2 t C.a=Z2 t c.p
  rw [hr.p]
 ·have:=hi.outl
  show C.out.length≤Z2 t C.a
  omega
 ·have:=hi.maps z hz y hy
  show y.2.length≤Z2 t C.a
  omega
theorem Z5T (h:GoodC c) (q:Nat):GoodC { c with p:=q }:=⟨h.one,h.top,h.le⟩
theorem Z7a (C:Jc) (p:Nat) (t:List UInt8) (H:List Res):PSub (ouR C.oa C.oc C.out::H) (C.res p t H) :=
 PSub.drop (PSub.take Z0 (PSub.drop (PSub.drop (ZD H C.st))))
theorem Z5H (hT:Tabs F M) (h63:t.length≤maxLen):Meets Tryz.prog 84 [sV t] F M H (ParP H (ZM Z9 t)):=by
 refine Meets.enter Tryz.func84 rfl rfl ?_
 by_cases hl:262144 < t.length
 ·have hp:ZM Z9 t=.bad 10 0:=by unfold ZM;rw [if_pos hl]
  rw [hp]
  repeat' (first|((first|apply T.slen|apply T.mv|apply T.asn);apply rfl;apply rfl)|(apply T.gtr;(iterate 3 apply rfl))|(with_reducible first|refine Sr.nil ?_|refine S.seq ?_|refine S.reg ?_)|(apply S.condQ;apply rfl;all_goals (intro _;try (exfalso;first|omega|with_reducible contradiction)))|(apply T.retW;apply rfl)|fail)
  exact ⟨_,PSub.refl _,rfl,rfl⟩
 ·have hl':t.length≤262144:=by omega
  rw [←Z5O hl']
  refine S.nilrow 161 1 ?_
  refine S.nilrow 3 1 ?_
  refine S.nilrow 124 6 ?_
  repeat' (first|((first|apply T.slen|apply T.mv|apply T.asn);apply rfl;apply rfl)|(apply T.gtr;(iterate 3 apply rfl))|(apply T.buildL;(iterate 3 apply rfl))|(apply T.box;apply rfl;apply rfl;intro nb)|(with_reducible first|refine Sr.nil ?_|refine S.seq ?_|refine S.reg ?_|refine S.skip ?_)|(apply S.condQ;apply rfl;all_goals (intro _;try (exfalso;first|omega|with_reducible contradiction)))|fail)
  refine T.call rfl rfl (Z2o (t:=t) (o:=.slice none 0 0) (n:=.slice none 0 0) (m:=.slice none 0 0) (a:=0) (s:=0) (k:=[]) (c:=0) (b:=0) (Nat.zero_le _) (by omega)) ?_
  rintro _ _ ⟨rfl,rfl⟩
  have h0:mach Z9 t (t.length+1) ⟨Z2 t 0,0,[],[],[]⟩=mach Z9 t (t.length+1) ⟨0,0,[],[],[]⟩:=Z3P (c:=⟨0,0,[],[],[]⟩)
  have hsl:=Zb (t:=t) (p:=0) (Nat.zero_le _)
  rw [←h0]
  generalize hQ:mach Z9 t (t.length+1) ⟨Z2 t 0,0,[],[],[]⟩=Q
  repeat' (first|(with_reducible first|refine Sr.nil ?_|refine S.block ?_)|(with_reducible apply T.ofRet)|fail)
  refine S.loopE 4 [0,5] (fun R b' μ H' e=>∃ (C:Jc) (c:Cf) (f:Nat),H'=C.res nb t R∧e=b'∧(Rel C c∧Inv t C∧GoodC c∧Z2 t c.p=c.p∧t.length < c.p+f∧mach Z9 t f c=Q)∧μ=t.length - C.a) rfl rfl ?_ _ _ ⟨⟨none,0,none,0,none,0,[],[],Z2 t 0,0,[]⟩,⟨Z2 t 0,0,[],[],[]⟩,t.length+1,rfl,rfl,⟨⟨rfl,rfl,rfl,rfl,trivial⟩,⟨hsl,Nat.zero_le _,fun x hx=>by (exact absurd hx List.not_mem_nil),fun x hx=>by (exact absurd hx List.not_mem_nil),fun x hx=>by (exact absurd hx List.not_mem_nil),fun x hx=>by (exact absurd hx List.not_mem_nil),Nat.zero_le _⟩,⟨fun h=>by simp only at h;omega,fun h=>by simp only at h;omega,(by decide:0≤6)⟩,Ze _ _,(show t.length < Z2 t 0+(t.length+1) by omega),hQ⟩,rfl⟩ (by repeat' first|exact trivial|refine And.intro rfl ?_)
  rintro _ _ _ ⟨C,c,f,rfl,rfl,⟨hr,hi,hg,hsk,hf,hm⟩,rfl⟩ ih
  clear hQ h0
  have hpa:=hr.p
  have hat:=hi.at_
  obtain ⟨f,rfl⟩:∃ g,f=g+1:=⟨f - 1,by omega⟩
  by_cases ha:C.a < t.length
  ·have hch:t[c.p]?=some (t.getD c.p 0):=by rw [←hpa];simp [List.getD,ha]
   have hst:=Z69 (F:=F) (M:=M) (p:=nb) (H:=H) hT ha hr hi hg hl' hch
   have hm2:mach Z9 t (f+1) c=match Z15 Z9 t c (t.getD c.p 0) with
    | .go c'=>mach Z9 t f c'
    | .stop e a=>.bad e a:=by
    simp only [mach,hsk,hch]
    rfl
   unfold Jc.res Jc.cells at hst ⊢
   repeat' (first|((first|apply T.slen|apply T.mv|apply T.nilCheck|apply T.fieldAddrZ);apply rfl;apply rfl)|(apply T.load;apply rfl;apply rfl;infer_instance;apply rfl;apply rfl)|(apply T.lss;(iterate 3 apply rfl))|(with_reducible first|refine Sr.nil ?_|refine S.seq ?_|refine S.block ?_|refine S.reg ?_|refine S.skip ?_)|(apply S.condQ;apply rfl;all_goals (intro _;try (exfalso;first|omega|with_reducible contradiction)))|fail)
   refine T.call rfl rfl hst ?_
   clear hst
   cases hsc:Z15 Z9 t c (t.getD c.p 0) with
   | stop e1 a1 =>
    rw [hsc] at hm2
    rintro _ _ ⟨o,n,m,a,s,k,rfl,rfl⟩
    rw [←hm,hm2]
    repeat' (first|((first|apply T.mv|apply T.asn|apply T.nilCheck|apply T.fieldAddrZ);apply rfl;apply rfl)|(apply T.load;apply rfl;apply rfl;infer_instance;apply rfl;apply rfl)|(apply T.notB;apply rfl;apply rfl)|(with_reducible first|refine Sr.nil ?_|refine S.seq ?_)|(apply S.quiet;apply rfl;kernel_rfl)|(apply S.condTV;apply rfl;(first|with_reducible rfl|decide))|(apply T.retW;apply rfl)|(with_reducible apply T.ofRet)|fail)
    exact ⟨_,PSub.drop (PSub.refl _),rfl,rfl⟩
   | go c' =>
    rw [hsc] at hm2
    obtain ⟨g1,g2⟩:=Z75 (by rw [←hpa];exact ha) hsc
    rintro _ _ ⟨C',rfl,rfl,hr',hi'⟩
    have hpa':=hr'.p
    unfold Jc.res Jc.cells
    repeat' (first|(apply T.mv;apply rfl;apply rfl)|(apply T.notB;apply rfl;apply rfl)|(with_reducible first|refine Sr.nil ?_|refine S.reg ?_|refine S.skip ?_|refine S.inBlock ?_)|(apply S.condFV;apply rfl;(first|with_reducible rfl|decide))|(with_reducible apply T.ofRet)|fail)
    refine T.call rfl rfl (Z2o hi'.at_ (by omega)) ?_
    rintro _ _ ⟨rfl,rfl⟩
    repeat' (first|with_reducible refine Sr.nil ?_|(with_reducible apply T.ofRet)|fail)
    have hbl:=Z7C hr' hi'
    have hge:=Zd t C'.a
    exact ih _ _ _ _ ⟨{ C' with a:=Z2 t C'.a },{ c' with p:=Z2 t c'.p },f,rfl,rfl,⟨hbl.1,hbl.2,Z5T g1 _,Ze _ _,(show t.length < Z2 t c'.p+f by rw [←hpa'] at g2 ⊢;omega),by rw [Z3P];exact hm2.symm.trans hm⟩,rfl⟩ (show t.length - Z2 t C'.a < t.length - C.a by omega) (by repeat' first|exact trivial|refine And.intro rfl ?_)
  ·have hae:C.a=t.length:=by omega
   have hch:t[c.p]?=none:=by rw [←hpa];exact List.getElem?_eq_none (by omega)
   have hm2:mach Z9 t (f+1) c=if c.s=6 then .ok (Z2 t c.p) c.out else .bad 31 t.length:=by
    simp only [mach,hsk,hch]
   have hss:=hr.s
   have hoo:=hr.out
   have hsub:=Z7a C nb t H
   unfold Jc.res Jc.cells at hsub ⊢
   rw [←hm,hm2]
   by_cases h6:C.s=6
   ·rw [if_pos (by rw [←hss];exact h6)]
    repeat' (first|((first|apply T.slen|apply T.mv|apply T.asn|apply T.nilCheck|apply T.fieldAddrZ);apply rfl;apply rfl)|(apply T.load;apply rfl;apply rfl;infer_instance;apply rfl;apply rfl)|((first|apply T.lss|apply T.neq);(iterate 3 apply rfl))|(with_reducible first|refine Sr.nil ?_|refine S.seq ?_|refine S.reg ?_|refine S.skip ?_)|(apply S.exit;apply rfl)|(apply S.condQ;apply rfl;all_goals (intro _;try (exfalso;first|omega|with_reducible contradiction)))|(apply T.retW;apply rfl)|fail)
    rw [←hoo]
    exact ⟨_,hsub,C.oa,C.oc,rfl,rfl⟩
   ·rw [if_neg (by rw [←hss];exact h6)]
    repeat' (first|((first|apply T.slen|apply T.mv|apply T.asn|apply T.nilCheck|apply T.fieldAddrZ);apply rfl;apply rfl)|(apply T.load;apply rfl;apply rfl;infer_instance;apply rfl;apply rfl)|((first|apply T.lss|apply T.neq);(iterate 3 apply rfl))|(with_reducible first|refine Sr.nil ?_|refine S.seq ?_|refine S.reg ?_)|(apply S.exit;apply rfl)|(apply S.condQ;apply rfl;all_goals (intro _;try (exfalso;first|omega|with_reducible contradiction)))|(apply T.retW;apply rfl)|fail)
    exact ⟨_,PSub.drop (PSub.drop (PSub.drop (PSub.drop (ZD H C.st)))),rfl,rfl⟩
end
end Go.Proofs.YthomgjihagigcaaGreatDoor
/- The library's contracts, laid at this program (printed by the kit's tools lay-shelf and lay-plain, cut out by a program). -/
namespace Go.Proofs
open Go.Shelf
def Tryz.lays137_ren:Go.Shelf.Ren:=⟨fun|137=>43|217=>56|266=>67|n=>n,fun|9=>9|5=>5|3=>3|n=>n,fun|n=>n⟩
theorem Tryz.lays137:Go.Proofs.Lays.n137 Tryz.prog Tryz.lays137_ren:={
 mixed:=by kernel_rfl
 f137:=Tryz.func43.trans (congrArg some (by kernel_rfl))
 f217:=Tryz.func56.trans (congrArg some (by kernel_rfl))
 f266:=Tryz.func67.trans (congrArg some (by kernel_rfl))
 t3:=Tryz.underlying3
 a3:=Tryz.isAgg3
 z3:=Tryz.sizeOf3
 v3:=Tryz.zeroValue3
 t5:=Tryz.underlying5
 a5:=Tryz.isAgg5
 z5:=Tryz.sizeOf5
 v5:=Tryz.zeroValue5
 t9:=Tryz.underlying9
 a9:=Tryz.isAgg9
 z9:=Tryz.sizeOf9
 v9:=Tryz.zeroValue9 }
open Go.RowKit in
theorem Tryz.strings_IndexByte (s:ByteArray) (c:Int) (w:World) :
  Calls Tryz.prog 43 #[.string s,.int .u8 c] w fun e w'=>e=.returned (.int .i64 (Lib.indexByte s.data.toList c.toNat.toUInt8))∧w'=w:=Any.strings_IndexByte Tryz.lays137 s c w
def Tryz.lays99_ren:Go.Shelf.Ren:=⟨fun|99=>74|206=>83|n=>n,fun|9=>9|4=>4|3=>3|n=>n,fun|n=>n⟩
theorem Tryz.lays99:Go.Proofs.Lays.n99 Tryz.prog Tryz.lays99_ren:={
 mixed:=by kernel_rfl
 f99:=Tryz.func74.trans (congrArg some (by kernel_rfl))
 f206:=Tryz.func83.trans (congrArg some (by kernel_rfl))
 t3:=Tryz.underlying3
 a3:=Tryz.isAgg3
 z3:=Tryz.sizeOf3
 v3:=Tryz.zeroValue3
 t4:=Tryz.underlying4
 a4:=Tryz.isAgg4
 z4:=Tryz.sizeOf4
 v4:=Tryz.zeroValue4
 t9:=Tryz.underlying9
 a9:=Tryz.isAgg9
 z9:=Tryz.sizeOf9
 v9:=Tryz.zeroValue9 }
open Go.RowKit Go.Lib in
theorem Tryz.strings_HasPrefix (s p:ByteArray) (w:World) :
  Calls Tryz.prog 74 #[.string s,.string p] w fun e w'=>e=.returned (.bool (Lib.hasPrefix s.data.toList p.data.toList))∧w'=w:=Any.strings_HasPrefix Tryz.lays99 s p w
end Go.Proofs
/- The walks of the program's reader of rules: words. -/
namespace Sg
theorem Z1t (c:UInt8):Za c=decide (48≤c.toNat∧c.toNat≤57):=by
 unfold Za
 simp only [UInt8.le_iff_toNat_le,Bool.decide_and]
 rfl
theorem Z3R (c:UInt8):∀ l:List UInt8,0≤Go.Lib.indexByte l c↔c∈l
 | []=>by simp [Go.Lib.indexByte]
 | b::l=>by
  have ih:=Z3R c l
  have hge:=Go.Lib.indexByte_ge l c
  unfold Go.Lib.indexByte
  by_cases h:b=c
  ·subst h
   simp
  ·have h':¬c=b:=fun e=>h e.symm
   simp only [beq_iff_eq,h,if_false,List.mem_cons,h',false_or]
   rw [←ih]
   split<;>omega
abbrev blkL:List UInt8:=[32,9,10,13]
abbrev sgnL:List UInt8:=[40,41,46,61,33,60,62,45]
abbrev nmsL:List UInt8:=[43,45,46,101,69]
theorem u8_nat {a b:UInt8}:a=b↔a.toNat=b.toNat:=UInt8.toNat_inj.symm
theorem Z7L (c:UInt8):c∈blkL↔Z12 c=true:=by
 rw [blankB_iff]
 simp only [blkL,List.mem_cons,List.not_mem_nil,or_false,u8_nat]
 exact Iff.rfl
theorem Z2Q (c:UInt8):c∈sgnL↔(c.toNat=40∨c.toNat=41∨c.toNat=46∨c.toNat=61∨c.toNat=33∨c.toNat=60∨c.toNat=62∨c.toNat=45):=by
 simp only [sgnL,List.mem_cons,List.not_mem_nil,or_false,u8_nat]
 exact Iff.rfl
theorem Z8r (c:UInt8):c∈nmsL↔(c.toNat=43∨c.toNat=45∨c.toNat=46∨c.toNat=101∨c.toNat=69):=by
 simp only [nmsL,List.mem_cons,List.not_mem_nil,or_false,u8_nat]
 exact Iff.rfl
def kdC (c:UInt8):Nat:=if letB c=true then 1 else if Za c=true then 2 else if c.toNat=34 then 3 else if c∈sgnL then 4 else 5
def kdX (t:List UInt8) (q:Nat):Nat:=if q < t.length then kdC (t.getD q 0) else 0
end Sg
namespace Go.Proofs.YthomgjihagigcaaGreatDoor
open Sg Go.IntWalk
set_option maxRecDepth 100000
set_option maxHeartbeats 4000000
theorem Z7B {a b:Bool} (h:a=b):Ending.returned (.bool a)=.returned (.bool b):=by rw [h]
theorem Z03 (s:List UInt8) (ch:UInt8):PCall Tryz.prog 43 [sV s,.int .u8 (ch.toNat:Nat)] (.int .i64 (Lib.indexByte s ch)):=fun w=>by
 have h:=Tryz.strings_IndexByte (ByteArray.mk s.toArray) (ch.toNat:Nat) w
 have h2:((ch.toNat:Nat):Int).toNat.toUInt8=ch:=by rw [Int.toNat_natCast];simp
 rw [h2] at h
 exact h
section
variable {F:World} {M:List Nat} {H:List Res} {t:List UInt8} {p oc n:Nat} {a:Nat} {o:Int} {oa:Option Addr} {c:UInt8}
abbrev paV (t:List UInt8) (a:Nat) (o:Int) (oa:Option Addr) (n oc:Nat):List Value:=[sV t,.int .i64 a,.int .i64 o,.slice oa n oc]
abbrev paR (p:Nat) (t:List UInt8) (a:Nat) (o:Int) (oa:Option Addr) (n oc:Nat) (H:List Res):List Res:=.blk p (paV t a o oa n oc) 73::H
abbrev gFlt (c a:Int):PanicEntry:=⟨.iface 69 (.agg ⟨[.int .i64 c,.int .i64 a]⟩),false,false⟩
theorem Z08:Meets Tryz.prog 44 [.int .u8 (c.toNat:Nat)] F M H (fun e H'=>e=.returned (.bool (letB c))∧H'=H):=by
 refine Meets.enter Tryz.func44 rfl rfl ?_
 have hc:=c.toNat_lt
 repeat' (first|((first|apply T.mv|apply T.asn);apply rfl;apply rfl)|((first|apply T.leq|apply T.geq|apply T.eql);(iterate 3 apply rfl))|(apply T.pickT;(iterate 3 apply rfl))|(apply T.pickF;(iterate 3 apply rfl))|(with_reducible first|refine Sr.nil ?_|refine S.seq ?_|refine S.reg ?_)|(apply T.ungV;apply rfl;(first|with_reducible rfl|decide))|(apply T.skip;apply rfl;(first|with_reducible rfl|decide);apply rfl)|(apply T.skipU;apply rfl;apply rfl)|(apply T.gcase;apply rfl;apply rfl;all_goals (intro _;try (exfalso;first|omega|with_reducible contradiction)))|(apply T.retW;apply rfl)|fail)
 all_goals exact ⟨_,PSub.refl _,Z7B (by first|exact (decide_eq_true (by omega)).symm|exact (decide_eq_false (by omega)).symm|exact decide_eq_decide.2 (by omega)),rfl⟩
theorem ZQ:Meets Tryz.prog 45 [.int .u8 (c.toNat:Nat)] F M H (fun e H'=>e=.returned (.bool (Za c))∧H'=H):=by
 refine Meets.enter Tryz.func45 rfl rfl ?_
 have hc:=c.toNat_lt
 rw [Z1t]
 repeat' (first|((first|apply T.mv|apply T.asn);apply rfl;apply rfl)|((first|apply T.leq|apply T.geq);(iterate 3 apply rfl))|(apply T.pickT;(iterate 3 apply rfl))|(apply T.pickF;(iterate 3 apply rfl))|(with_reducible first|refine Sr.nil ?_|refine S.seq ?_|refine S.reg ?_)|(apply T.ungV;apply rfl;(first|with_reducible rfl|decide))|(apply T.skip;apply rfl;(first|with_reducible rfl|decide);apply rfl)|(apply T.gcase;apply rfl;apply rfl;all_goals (intro _;try (exfalso;first|omega|with_reducible contradiction)))|(apply T.retW;apply rfl)|fail)
 all_goals exact ⟨_,PSub.refl _,Z7B (by first|exact (decide_eq_true (by omega)).symm|exact (decide_eq_false (by omega)).symm|exact decide_eq_decide.2 (by omega)),rfl⟩
theorem Zf {n':Nat}:Meets Tryz.prog 27 [.pointer (some ⟨p,0,none⟩)] F M (paR p t a o oa n' oc H) (fun e H'=>e=.panicked [gFlt 180 a]∧H'=H):=by
 refine Meets.enter Tryz.func27 rfl rfl ?_
 repeat' (first|((first|apply T.mv|apply T.nilCheck|apply T.fieldAddrZ);apply rfl;apply rfl)|(apply T.load;apply rfl;apply rfl;infer_instance;apply rfl;apply rfl)|(apply T.buildL;(iterate 3 apply rfl))|(apply T.makeI;(iterate 3 apply rfl))|with_reducible refine S.reg ?_|fail)
 refine T.panic rfl ?_
 repeat' (first|(with_reducible apply T.diesW)|fail)
 exact ⟨_,PSub.drop (PSub.refl _),rfl,rfl⟩
theorem ZP (ha:a≤t.length) (hl:t.length≤1024):Meets Tryz.prog 26 [.pointer (some ⟨p,0,none⟩)] F M (paR p t a o oa n oc H) (fun e H'=>e=.returned (.int .i64 (kdX t (Z2 t a):Nat))∧H'=paR p t (Z2 t a) o oa n oc H):=by
 refine Meets.enter Tryz.func26 rfl rfl ?_
 have hsl:=Zj (t:=t) ha
 have hsr:Z2 t a < t.length→Z12 (t.getD (Z2 t a) 0)=false:=fun h=>Z6g (Nat.le_refl _) h
 generalize hQ:Z2 t a=Q at *
 repeat' (first|(apply T.asn;apply rfl;apply rfl)|(with_reducible first|refine Sr.nil ?_|refine S.seq ?_|refine S.block ?_|refine S.reg ?_)|fail)
 refine S.loopE 1 [0] (fun R b' μ H' e=>∃ q:Nat,H'=paR p t q o oa n oc R∧e=b'∧(q≤t.length∧Z2 t q=Q)∧μ=t.length - q) rfl rfl ?_ _ _ ⟨a,rfl,rfl,⟨ha,hQ⟩,rfl⟩ (by repeat' first|exact trivial|refine And.intro rfl ?_)
 rintro _ _ _ ⟨q,rfl,rfl,⟨h1,h2⟩,rfl⟩ ih
 by_cases h3:q < t.length
 ·cases hb:Z12 (t.getD q 0) with
  | true =>
   have h4:0≤Lib.indexByte blkL (t.getD q 0):=(Z3R _ _).2 ((Z7L _).2 hb)
   have h5:Z2 t q=Z2 t (q+1):=Z1l h3 hb
   have h6:Z2 t (q+1)=Q:=h5.symm.trans h2
   repeat' (first|with_reducible refine S.seq ?_|fail)
   (apply S.draw;(case Hs=>exact paR p t q o oa n oc H);(case es=>exact  [20]);(case n=>exact  23);(case hn=>rfl))
   repeat' (first|(apply T.lss;(iterate 3 apply rfl);rw [decide_eq_true (by omega)])|(apply T.pcall;apply rfl;infer_instance;apply rfl;with_reducible exact Z03 blkL _)|((first|apply T.slen|apply T.mv|apply T.nilCheck|apply T.fieldAddrZ);apply rfl;apply rfl)|(apply T.sidx;apply rfl;apply rfl;omega;apply rfl)|(apply T.load;apply rfl;apply rfl;infer_instance;apply rfl;apply rfl)|(apply T.geq;(iterate 3 apply rfl))|(apply T.addI;apply rfl;apply rfl;omega;apply rfl)|(apply T.pickT;(iterate 3 apply rfl))|(apply T.store;apply rfl;apply rfl;infer_instance;(first|decide|(simp;omega)|simp);apply rfl)|(with_reducible first|refine Sr.nil ?_|refine S.block ?_|refine S.reg ?_|refine S.skip ?_|refine S.inBlock ?_)|(apply T.ungV;apply rfl;(first|with_reducible rfl|decide))|(apply S.condQ;apply rfl;all_goals (intro _;try (exfalso;first|omega|with_reducible contradiction)))|(apply SA.gz;(iterate 4 apply rfl);(first|with_reducible rfl|decide);apply rfl;kernel_rfl)|(apply SA.gn;(iterate 4 apply rfl);(first|with_reducible rfl|decide);apply rfl;kernel_rfl)|(apply SA.qn;(iterate 4 apply rfl);kernel_rfl)|(apply SA.qz;(iterate 4 apply rfl);kernel_rfl)|(apply SA.en;apply rfl;apply rfl;kernel_rfl)|(apply SA.done;apply rfl;kernel_rfl)|(apply SK.intro;(first|exact fun _ h=>h|exact fun _ h=>St.psub h (by ((repeat (first|dsimp only [List.set_cons_zero]|dsimp only [List.set_cons_succ]));repeat' first|exact PSub.refl _|exact PSub.nil|(with_reducible apply PSub.app)|(apply PSub.take;(repeat' first|(with_reducible exact Z0)|(with_reducible apply Z1)))|(with_reducible apply PSub.drop)|((apply PSub.take);(repeat' first|exact Z0|(apply Z1)))))))|fail)
   skip
   exact ih _ _ _ _ ⟨q+1,rfl,rfl,⟨h3,h6⟩,rfl⟩ (by omega) (by repeat' first|exact trivial|refine And.intro rfl ?_)
  | false =>
   have h4:¬0≤Lib.indexByte blkL (t.getD q 0):=fun h=>by rw [(Z7L _).1 ((Z3R _ _).1 h)] at hb;cases hb
   have h5:q=Q:=(Z1k h3 hb).symm.trans h2
   subst h5
   clear ih
   repeat' (first|with_reducible refine S.seq ?_|fail)
   (apply S.draw;(case Hs=>exact paR p t q o oa n oc H);(case es=>exact  [20]);(case n=>exact  23);(case hn=>rfl))
   repeat' (first|(apply T.lss;(iterate 3 apply rfl);rw [decide_eq_true (by omega)])|(apply T.pcall;apply rfl;infer_instance;apply rfl;with_reducible exact Z03 blkL _)|((first|apply T.slen|apply T.mv|apply T.asn|apply T.nilCheck|apply T.fieldAddrZ);apply rfl;apply rfl)|(apply T.sidx;apply rfl;apply rfl;omega;apply rfl)|(apply T.load;apply rfl;apply rfl;infer_instance;apply rfl;apply rfl)|((first|apply T.geq|apply T.eql);(iterate 3 apply rfl))|(apply T.pickT;(iterate 3 apply rfl))|(with_reducible first|refine Sr.nil ?_|refine S.seq ?_|refine S.block ?_|refine S.reg ?_|refine S.skip ?_)|(apply S.exit;apply rfl)|(apply S.quiet;apply rfl;kernel_rfl)|(apply T.ungV;apply rfl;(first|with_reducible rfl|decide))|(apply S.condQ;apply rfl;all_goals (intro _;try (exfalso;first|omega|with_reducible contradiction)))|(apply SA.gz;(iterate 4 apply rfl);(first|with_reducible rfl|decide);apply rfl;kernel_rfl)|(apply SA.gn;(iterate 4 apply rfl);(first|with_reducible rfl|decide);apply rfl;kernel_rfl)|(apply SA.qn;(iterate 4 apply rfl);kernel_rfl)|(apply SA.qz;(iterate 4 apply rfl);kernel_rfl)|(apply SA.en;apply rfl;apply rfl;kernel_rfl)|(apply SA.done;apply rfl;kernel_rfl)|(apply SK.intro;(first|exact fun _ h=>h|exact fun _ h=>St.psub h (by ((repeat (first|dsimp only [List.set_cons_zero]|dsimp only [List.set_cons_succ]));repeat' first|exact PSub.refl _|exact PSub.nil|(with_reducible apply PSub.app)|(apply PSub.take;(repeat' first|(with_reducible exact Z0)|(with_reducible apply Z1)))|(with_reducible apply PSub.drop)|((apply PSub.take);(repeat' first|exact Z0|(apply Z1)))))))|fail)
   have hk:kdX t q=kdC (t.getD q 0):=if_pos h3
   rw [hk]
   skip
   generalize t.getD q 0=ch at *
   refine T.call rfl rfl Z08 ?_
   rintro _ _ ⟨rfl,rfl⟩
   unfold kdC
   cases hc1:letB ch with
   | true =>
    rw [if_pos rfl]
    repeat' (first|(apply T.asn;apply rfl;apply rfl)|(with_reducible first|refine Sr.nil ?_|refine S.seq ?_|refine S.reg ?_)|(apply S.condTV;apply rfl;(first|with_reducible rfl|decide))|(apply T.retW;apply rfl)|(with_reducible apply T.ofRet)|fail)
    exact ⟨_,PSub.refl _,rfl,rfl⟩
   | false =>
    rw [if_neg (by simp)]
    repeat' (first|((first|apply T.mv|apply T.asn);apply rfl;apply rfl)|(with_reducible first|refine Sr.nil ?_|refine S.seq ?_|refine S.reg ?_)|(apply S.condFV;apply rfl;(first|with_reducible rfl|decide))|(with_reducible apply T.ofRet)|fail)
    refine T.call rfl rfl ZQ ?_
    rintro _ _ ⟨rfl,rfl⟩
    cases hc2:Za ch with
    | true =>
     rw [if_pos rfl]
     repeat' (first|(apply T.asn;apply rfl;apply rfl)|(with_reducible first|refine Sr.nil ?_|refine S.seq ?_|refine S.reg ?_)|(apply S.condTV;apply rfl;(first|with_reducible rfl|decide))|(apply T.retW;apply rfl)|(with_reducible apply T.ofRet)|fail)
     exact ⟨_,PSub.refl _,rfl,rfl⟩
    | false =>
     rw [if_neg (by simp)]
     by_cases hc3:ch.toNat=34
     ·rw [if_pos hc3]
      repeat' (first|((first|apply T.mv|apply T.asn);apply rfl;apply rfl)|(apply T.eql;(iterate 3 apply rfl))|(with_reducible first|refine Sr.nil ?_|refine S.seq ?_|refine S.reg ?_)|(apply S.condFV;apply rfl;(first|with_reducible rfl|decide))|(apply S.condQ;apply rfl;all_goals (intro _;try (exfalso;first|omega|with_reducible contradiction)))|(apply T.retW;apply rfl)|(with_reducible apply T.ofRet)|fail)
      exact ⟨_,PSub.refl _,rfl,rfl⟩
     ·rw [if_neg hc3]
      have hx:=Z3R ch sgnL
      by_cases hc4:ch∈sgnL
      ·have hx2:=hx.2 hc4
       rw [if_pos hc4]
       repeat' (first|(apply T.pcall;apply rfl;infer_instance;apply rfl;with_reducible exact Z03 sgnL _)|((first|apply T.mv|apply T.asn);apply rfl;apply rfl)|((first|apply T.geq|apply T.eql);(iterate 3 apply rfl))|(with_reducible first|refine Sr.nil ?_|refine S.seq ?_|refine S.reg ?_)|(apply S.condFV;apply rfl;(first|with_reducible rfl|decide))|(apply S.condQ;apply rfl;all_goals (intro _;try (exfalso;first|omega|with_reducible contradiction)))|(apply T.retW;apply rfl)|(with_reducible apply T.ofRet)|fail)
       exact ⟨_,PSub.refl _,rfl,rfl⟩
      ·have hx2:¬0≤Lib.indexByte sgnL ch:=fun h=>hc4 (hx.1 h)
       rw [if_neg hc4]
       repeat' (first|(apply T.pcall;apply rfl;infer_instance;apply rfl;with_reducible exact Z03 sgnL _)|((first|apply T.mv|apply T.asn);apply rfl;apply rfl)|((first|apply T.geq|apply T.eql);(iterate 3 apply rfl))|(with_reducible first|refine Sr.nil ?_|refine S.seq ?_|refine S.reg ?_|refine S.skip ?_|refine S.inBlock ?_)|(apply S.condFV;apply rfl;(first|with_reducible rfl|decide))|(apply S.condQ;apply rfl;all_goals (intro _;try (exfalso;first|omega|with_reducible contradiction)))|(apply T.retW;apply rfl)|(with_reducible apply T.ofRet)|fail)
       exact ⟨_,PSub.refl _,rfl,rfl⟩
 ·have h5:q=Q:=(Z0r (by omega)).symm.trans h2
  subst h5
  clear ih
  repeat' (first|with_reducible refine S.seq ?_|fail)
  (apply S.draw;(case Hs=>exact paR p t q o oa n oc H);(case es=>exact  [20]);(case n=>exact  23);(case hn=>rfl))
  have hk:kdX t q=0:=if_neg h3
  rw [hk]
  repeat' (first|(apply T.lss;(iterate 3 apply rfl);rw [decide_eq_false (by omega)])|((first|apply T.slen|apply T.mv|apply T.asn|apply T.nilCheck|apply T.fieldAddrZ);apply rfl;apply rfl)|(apply T.load;apply rfl;apply rfl;infer_instance;apply rfl;apply rfl)|(apply T.eql;(iterate 3 apply rfl))|(apply T.pickF;(iterate 3 apply rfl))|(with_reducible first|refine Sr.nil ?_|refine S.seq ?_|refine S.reg ?_)|(apply S.exit;apply rfl)|(apply S.quiet;apply rfl;kernel_rfl)|(apply T.skip;apply rfl;(first|with_reducible rfl|decide);apply rfl)|(apply S.condFV;apply rfl;(first|with_reducible rfl|decide))|(apply S.condQ;apply rfl;all_goals (intro _;try (exfalso;first|omega|with_reducible contradiction)))|(apply T.retW;apply rfl)|(apply SA.gxv;(iterate 5 apply rfl);kernel_rfl;apply rfl)|(apply SA.qn;(iterate 4 apply rfl);kernel_rfl)|(apply SA.qz;(iterate 4 apply rfl);kernel_rfl)|(apply SA.en;apply rfl;apply rfl;kernel_rfl)|(apply SA.done;apply rfl;kernel_rfl)|(apply SK.intro;(first|exact fun _ h=>h|exact fun _ h=>St.psub h (by ((repeat (first|dsimp only [List.set_cons_zero]|dsimp only [List.set_cons_succ]));repeat' first|exact PSub.refl _|exact PSub.nil|(with_reducible apply PSub.app)|(apply PSub.take;(repeat' first|(with_reducible exact Z0)|(with_reducible apply Z1)))|(with_reducible apply PSub.drop)|((apply PSub.take);(repeat' first|exact Z0|(apply Z1)))))))|fail)
  skip
  exact ⟨_,PSub.refl _,rfl,rfl⟩
theorem Z4G:Meets Tryz.prog 66 [.int .u8 (c.toNat:Nat)] F M H (fun e H'=>e=.returned (.bool (wdB c))∧H'=H):=by
 refine Meets.enter Tryz.func66 rfl rfl ?_
 unfold wdB
 repeat' (first|((first|apply T.mv|apply T.asn);apply rfl;apply rfl)|(with_reducible first|refine Sr.nil ?_|refine S.seq ?_|refine S.reg ?_)|fail)
 refine T.call rfl rfl Z08 ?_
 rintro _ _ ⟨rfl,rfl⟩
 cases hc1:letB c with
 | true =>
  repeat' (first|((first|apply T.mv|apply T.asn);apply rfl;apply rfl)|(apply T.pickT;(iterate 3 apply rfl))|with_reducible refine Sr.nil ?_|(apply T.skip;apply rfl;(first|with_reducible rfl|decide);apply rfl)|(apply T.retW;apply rfl)|(with_reducible apply T.ofRet)|fail)
  exact ⟨_,PSub.refl _,rfl,rfl⟩
 | false =>
  repeat' (first|(apply T.mv;apply rfl;apply rfl)|(apply T.ungV;apply rfl;(first|with_reducible rfl|decide))|(with_reducible apply T.ofRet)|fail)
  refine T.call rfl rfl ZQ ?_
  rintro _ _ ⟨rfl,rfl⟩
  repeat' (first|(apply T.asn;apply rfl;apply rfl)|(apply T.pickF;(iterate 3 apply rfl))|with_reducible refine Sr.nil ?_|(apply T.retW;apply rfl)|(with_reducible apply T.ofRet)|fail)
  exact ⟨_,PSub.refl _,rfl,rfl⟩
theorem Z2g {g:FuncId} [HF Tryz.prog g] {f:UInt8→Bool} (hf:∀ c:UInt8,Meets Tryz.prog g [.int .u8 (c.toNat:Nat)] F M (paR p t a o oa n oc H) (fun e H'=>e=.returned (.bool (f c))∧H'=paR p t a o oa n oc H)) (ha:a≤t.length) (hl:t.length≤1024) :
  Meets Tryz.prog 65 [.pointer (some ⟨p,0,none⟩),.func (.func g) #[] #[]] F M (paR p t a o oa n oc H) (fun e H'=>e=.returned (sV (sl t a (runE f t a)))∧H'=paR p t a o oa n oc H):=by
 refine Meets.enter Tryz.func65 rfl rfl ?_
 have hle:=Z1Z (f:=f) (t:=t) ha
 have hge:=Z1m (f:=f) (t:=t) (p:=a)
 generalize hQ:runE f t a=Q at *
 repeat' (first|((first|apply T.mv|apply T.asn|apply T.nilCheck|apply T.fieldAddrZ);apply rfl;apply rfl)|(apply T.load;apply rfl;apply rfl;infer_instance;apply rfl;apply rfl)|(with_reducible first|refine Sr.nil ?_|refine S.seq ?_|refine S.block ?_|refine S.reg ?_)|fail)
 refine S.loopE 1 [0,1] (fun R b' μ H' e=>∃ q:Nat,H'=paR p t a o oa n oc R∧e=(5,.int .i64 q)::b'∧(q≤t.length∧runE f t q=Q)∧μ=t.length - q) rfl rfl ?_ _ _ ⟨a,rfl,rfl,⟨ha,hQ⟩,rfl⟩ (by repeat' first|exact trivial|refine And.intro rfl ?_)
 rintro _ _ _ ⟨q,rfl,rfl,⟨h1,h2⟩,rfl⟩ ih
 by_cases h3:q < t.length
 ·repeat' (first|((first|apply T.slen|apply T.mv|apply T.nilCheck|apply T.fieldAddrZ);apply rfl;apply rfl)|(apply T.sidx;apply rfl;apply rfl;omega;apply rfl)|(apply T.load;apply rfl;apply rfl;infer_instance;apply rfl;apply rfl)|(apply T.lss;(iterate 3 apply rfl))|(with_reducible first|refine S.seq ?_|refine S.reg ?_)|(apply T.ungV;apply rfl;(first|with_reducible rfl|decide))|(apply T.gcase;apply rfl;apply rfl;all_goals (intro _;try (exfalso;first|omega|with_reducible contradiction)))|fail)
  refine Sr.callv (first:=[]) (cap:=[]) (vs:=[.int .u8 ((t.getD q 0).toNat:Nat)]) rfl rfl rfl (hf (t.getD q 0)) ?_
  rintro _ _ ⟨rfl,rfl⟩
  cases hb:f (t.getD q 0) with
  | true =>
   have h6:runE f t (q+1)=Q:=(Z1l h3 hb).symm.trans h2
   repeat' (first|((first|apply T.mv|apply T.asn);apply rfl;apply rfl)|(apply T.addI;apply rfl;apply rfl;omega;apply rfl)|(apply T.pickT;(iterate 3 apply rfl))|(with_reducible first|refine Sr.nil ?_|refine S.block ?_|refine S.reg ?_|refine S.skip ?_|refine S.inBlock ?_)|(apply S.condTV;apply rfl;(first|with_reducible rfl|decide))|(with_reducible apply T.ofRet)|fail)
   exact ih _ _ _ _ ⟨q+1,rfl,rfl,⟨h3,h6⟩,rfl⟩ (by omega) (by repeat' first|exact trivial|refine And.intro rfl ?_)
  | false =>
   have h5:q=Q:=(Z1k h3 hb).symm.trans h2
   subst h5
   clear ih
   repeat' (first|(apply T.sslice;(iterate 3 apply rfl);omega;apply rfl)|((first|apply T.mv|apply T.asn|apply T.nilCheck|apply T.fieldAddrZ);apply rfl;apply rfl)|(apply T.load;apply rfl;apply rfl;infer_instance;apply rfl;apply rfl)|(apply T.pickT;(iterate 3 apply rfl))|(with_reducible first|refine Sr.nil ?_|refine S.seq ?_)|(apply S.exit;apply rfl)|(apply S.quiet;apply rfl;kernel_rfl)|(apply S.condFV;apply rfl;(first|with_reducible rfl|decide))|(apply T.retW;apply rfl)|(with_reducible apply T.ofRet)|fail)
   exact ⟨_,PSub.refl _,rfl,rfl⟩
 ·have h5:q=Q:=(Z0r (by omega)).symm.trans h2
  subst h5
  clear ih
  repeat' (first|(apply T.sslice;(iterate 3 apply rfl);omega;apply rfl)|((first|apply T.slen|apply T.mv|apply T.asn|apply T.nilCheck|apply T.fieldAddrZ);apply rfl;apply rfl)|(apply T.load;apply rfl;apply rfl;infer_instance;apply rfl;apply rfl)|(apply T.lss;(iterate 3 apply rfl))|(apply T.pickF;(iterate 3 apply rfl))|(with_reducible first|refine Sr.nil ?_|refine S.seq ?_|refine S.reg ?_)|(apply S.exit;apply rfl)|(apply S.quiet;apply rfl;kernel_rfl)|(apply T.skip;apply rfl;(first|with_reducible rfl|decide);apply rfl)|(apply S.condFV;apply rfl;(first|with_reducible rfl|decide))|(apply T.gcase;apply rfl;apply rfl;all_goals (intro _;try (exfalso;first|omega|with_reducible contradiction)))|(apply T.retW;apply rfl)|fail)
  exact ⟨_,PSub.refl _,rfl,rfl⟩
theorem Z2T (ha:a≤t.length) (hl:t.length≤1024) :
  Meets Tryz.prog 55 [.pointer (some ⟨p,0,none⟩)] F M (paR p t a o oa n oc H) (fun e H'=>e=.returned (sV (wdX t a))∧H'=paR p t a o oa n oc H):=by
 refine Meets.enter Tryz.func55 rfl rfl ?_
 repeat' (first|((first|apply T.mv|apply T.asn);apply rfl;apply rfl)|(with_reducible first|refine Sr.nil ?_|refine S.seq ?_|refine S.reg ?_)|fail)
 refine T.call rfl rfl (Z2g (f:=wdB) (fun c=>Z4G) ha hl) ?_
 rintro _ _ ⟨rfl,rfl⟩
 repeat' (first|(apply T.asn;apply rfl;apply rfl)|with_reducible refine Sr.nil ?_|(apply T.retW;apply rfl)|(with_reducible apply T.ofRet)|fail)
 exact ⟨_,PSub.refl _,rfl,rfl⟩
end
end Go.Proofs.YthomgjihagigcaaGreatDoor
