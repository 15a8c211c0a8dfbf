/- Texts put together by a program: GtQ GtS. -/
import Derived.Test.YthomgjihagigcaaGreatDoorMn
import Derived.Test.YthomgjihagigcaaGreatDoorMa
import Derived.Test.YthomgjihagigcaaGreatDoorRows
import Derived.Lay
import Derived.ChangeMaps5
/- The walk of GateNews. -/
/- guards -/
namespace Go.Proofs.YthomgjihagigcaaGreatDoor
open Sg Go.IntWalk
set_option maxRecDepth 100000
set_option maxHeartbeats 4000000
section
variable {F:World} {M:List Nat} {H:List Res} {xs ys:List (List UInt8)} {P:Pol} {t:List UInt8} {n g c1 c2 n1 n2:Nat} {a1 a2:Option Addr}
def OpP (P:Pol) (H:List Res) (e:Ending) (H':List Res):Prop :=
 (e=.returned (.tuple ⟨[.pointer none,.pointer none,.bool true]⟩)∧H'=H) ∨
 (∃ (g m b mb:Nat) (s1 s2 r ri:Value),e=.returned (.tuple ⟨[.pointer (some ⟨g,0,none⟩),.pointer (some ⟨m,0,none⟩),.bool true]⟩)∧H'=gaR g P 0 s1 s2 r ri b mb H)
theorem Z4x (hT:GtT F M) (hJ:Tabs F M) (h1:Rd F M H a1 (xs.map sV)) (h2:Rd F M H a2 (ys.map sV)) (hx:xs.length=n1) (hy:ys.length=n2) (k1:n1≤1000000000) (k2:n2≤1000000000) :
  Meets Tryz.prog 4 [.agg ⟨poV P (.slice a1 n1 c1) (.slice a2 n2 c2)⟩,sV t] F M H (OpP P H):=by
 refine Meets.enter Tryz.func4 rfl rfl ?_
 have t1:∀ g X,Rd F M X (some ⟨g,0,none⟩) ((xs++List.replicate 70 ZH).map sV)→Rd F M X (some ⟨g,0,none⟩) (xs.map sV):=fun g X h=>by
  have:=h.take n1
  rwa [←List.map_take,List.take_append_of_le_length (by omega),List.take_of_length_le (by omega)] at this
 have t2:∀ g X,Rd F M X (some ⟨g,0,none⟩) ((ys++List.replicate 70 ZH).map sV)→Rd F M X (some ⟨g,0,none⟩) (ys.map sV):=fun g X h=>by
  have:=h.take n2
  rwa [←List.map_take,List.take_append_of_le_length (by omega),List.take_of_length_le (by omega)] at this
 have e0:=fun X (h1:Rd F M X a1 (xs.map sV)) (h2:Rd F M X a2 (ys.map sV))=>Z4r (F:=F) (M:=M) (H:=X) (P:=P) (c1:=c1) (c2:=c2) h1 h2 hx hy k1 k2
 have e1:=fun g1 g2 X (h1:Rd F M X (some ⟨g1,0,none⟩) ((xs++List.replicate 70 ZH).map sV)) (h2:Rd F M X (some ⟨g2,0,none⟩) ((ys++List.replicate 70 ZH).map sV))=>Z3V (F:=F) (M:=M) (H:=X) (P:=P) (t:=t) (c1:=n1+70) (c2:=n2+70) hT hJ (t1 g1 X h1) (t2 g2 X h2) hx hy k1 k2
 have e2:=fun g1 g2 X (h1:Rd F M X (some ⟨g1,0,none⟩) ((xs++List.replicate 70 ZH).map sV)) (h2:Rd F M X (some ⟨g2,0,none⟩) ((ys++List.replicate 70 ZH).map sV)) (h3:Rd F M X a1 (xs.map sV)) (h4:Rd F M X a2 (ys.map sV))=>Z3x (F:=F) (M:=M) (H:=X) (P:=P) (c1:=c1) (c2:=c2) h1 h2 h3 h4 hx hy k1 k2
 have hx7:(xs++List.replicate 70 ZH).length=n1+70:=by rw [List.length_append,List.length_replicate,hx]
 have hy7:(ys++List.replicate 70 ZH).length=n2+70:=by rw [List.length_append,List.length_replicate,hy]
 repeat' (first|(apply T.asn;apply rfl;apply rfl)|(apply T.loadW;apply rfl;apply rfl;infer_instance;(first|rfl|(simp only [List.length_append,List.length_map,List.length_set,List.length_replicate,List.length_cons,List.length_nil];first|done|omega));apply rfl)|(apply T.box;apply rfl;apply rfl;intro nb)|(with_reducible first|refine Sr.nil ?_|refine S.seq ?_|refine S.reg ?_)|fail)
 obtain ⟨pb,hpb⟩:∃ pb,pb=nb:=⟨_,rfl⟩
 subst hpb
 refine T.call rfl rfl (e0 _ inferInstance inferInstance) ?_
 rintro _ _ ⟨g1,g2,rfl,rfl⟩
 repeat' (first|(apply T.mv;apply rfl;apply rfl)|(apply T.loadW;apply rfl;apply rfl;infer_instance;(first|rfl|(simp only [List.length_append,List.length_map,List.length_set,List.length_replicate,List.length_cons,List.length_nil];first|done|omega));apply rfl)|(apply T.storeW;apply rfl;apply rfl;infer_instance;(first|rfl|(simp only [List.length_append,List.length_map,List.length_set,List.length_replicate,List.length_cons,List.length_nil];first|done|omega));(first|rfl|(simp only [List.length_append,List.length_map,List.length_set,List.length_replicate,List.length_cons,List.length_nil];first|done|omega));(first|rfl|(repeat' first|apply all_nV|apply all_bV|apply all_iV|rfl|apply all_app)))|(apply T.alloc;apply rfl;intro nb)|(with_reducible first|refine Sr.nil ?_|refine S.seq ?_|refine S.reg ?_)|(with_reducible apply T.ofRet)|fail)
 obtain ⟨qb,hqb⟩:∃ qb,qb=nb:=⟨_,rfl⟩
 subst hqb
 refine T.call rfl rfl (e1 g1 g2 _ inferInstance inferInstance) ?_
 have e3:=fun X=>Z4t (F:=F) (M:=M) (H:=X) (P:=P) (t:=t) (c1:=c1) (c2:=c2) (n1:=n1) (n2:=n2) (q1:=a1) (q2:=a2)
 generalize newC P.lee t=c at e3 ⊢
 clear e0 e1
 rintro _ _ (⟨hc,rfl,rfl⟩|⟨rfl,gb,b,mb,s1,s2,r,ri,rfl,rfl⟩)
 ·repeat' (first|((first|apply T.mv|apply T.asn);apply rfl;apply rfl)|(apply T.extract;(iterate 3 apply rfl))|(apply T.loadW;apply rfl;apply rfl;infer_instance;(first|rfl|(simp only [List.length_append,List.length_map,List.length_set,List.length_replicate,List.length_cons,List.length_nil];first|done|omega));apply rfl)|(with_reducible first|refine Sr.nil ?_|refine S.seq ?_|refine S.reg ?_)|(with_reducible apply T.ofRet)|fail)
  refine T.call rfl rfl (e3 _) ?_
  rintro _ _ ⟨rfl,⟨_,rfl⟩|⟨h0,_⟩⟩
  ·repeat' (first|(apply T.neq;(iterate 3 apply rfl);rw [decide_eq_false (fun h=>h rfl)])|(apply T.neqB;(iterate 3 apply rfl))|(apply T.eqlP0;apply rfl;apply rfl)|((first|apply T.mv|apply T.asn);apply rfl;apply rfl)|(apply T.extract;(iterate 3 apply rfl))|(apply T.pickF;(iterate 3 apply rfl))|(apply T.loadW;apply rfl;apply rfl;infer_instance;(first|rfl|(simp only [List.length_append,List.length_map,List.length_set,List.length_replicate,List.length_cons,List.length_nil];first|done|omega));apply rfl)|(with_reducible first|refine Sr.nil ?_|refine S.seq ?_|refine S.reg ?_)|(apply T.ungV;apply rfl;(first|with_reducible rfl|decide))|(with_reducible apply T.ofRet)|fail)
   refine T.call rfl rfl (e2 g1 g2 _ inferInstance inferInstance inferInstance inferInstance) ?_
   rintro _ _ ⟨rfl,rfl⟩
   repeat' (first|(apply T.asn;apply rfl;apply rfl)|(apply T.notB;apply rfl;apply rfl)|(apply T.pickF;(iterate 3 apply rfl))|(with_reducible first|refine Sr.nil ?_|refine S.seq ?_|refine S.block ?_|refine S.reg ?_|refine S.skip ?_)|(apply T.ungV;apply rfl;(first|with_reducible rfl|decide))|(apply S.condFV;apply rfl;(first|with_reducible rfl|decide))|(with_reducible apply T.ofRet)|fail)
   refine S.frontR (some ⟨g1,0,none⟩) ?_
   refine S.loopE 1 [7,8,10] (fun R b' μ H' e=>∃ (i:Nat) (zs:List (List UInt8)),H'=roR g1 n1 zs::R∧e=(12,.int .i64 i)::b'∧(i≤n1∧zs.length=n1+70)∧μ=n1 - i) rfl rfl ?_ _ _ ⟨0,_,rfl,rfl,⟨Nat.zero_le _,hx7⟩,rfl⟩ (by repeat' first|exact trivial|refine And.intro rfl ?_)
   rintro _ _ _ ⟨i,zs,rfl,rfl,⟨hi,hzl⟩,rfl⟩ ih
   by_cases hlt:i < n1
   ·have hset:(zs.map sV).set i (sV Z0X)=(zs.set i Z0X).map sV:=by rw [List.map_set]
    repeat' (first|((first|apply T.mv|apply T.asn|apply T.len|apply T.fieldAddrZ);apply rfl;apply rfl)|(apply T.load;apply rfl;apply rfl;infer_instance;apply rfl;apply rfl)|(apply T.lss;(iterate 3 apply rfl))|(apply T.addI;apply rfl;apply rfl;omega;apply rfl)|(apply T.ixN;apply rfl;apply rfl;infer_instance;omega;(first|omega|(simp only [List.length_map];omega)|(simp;omega));apply rfl)|(apply T.storeE;apply rfl;apply rfl;infer_instance;(first|omega|(simp only [List.length_map];omega)|(simp;omega));apply rfl)|(with_reducible first|refine Sr.nil ?_|refine S.seq ?_|refine S.block ?_|refine S.reg ?_|refine S.skip ?_|refine S.inBlock ?_)|(apply S.condQ;apply rfl;all_goals (intro _;try (exfalso;first|omega|with_reducible contradiction)))|fail)
    rw [show (Value.string { data:=#[103,111,110,101] })=sV Z0X from rfl,hset]
    exact ih _ _ _ _ ⟨i+1,zs.set i Z0X,rfl,rfl,⟨hlt,by rw [List.length_set];exact hzl⟩,rfl⟩ (by omega) (by repeat' first|exact trivial|refine And.intro rfl ?_)
   clear ih
   repeat' (first|((first|apply T.mv|apply T.asn|apply T.len|apply T.fieldAddrZ);apply rfl;apply rfl)|(apply T.load;apply rfl;apply rfl;infer_instance;apply rfl;apply rfl)|(apply T.lss;(iterate 3 apply rfl))|(with_reducible first|refine Sr.nil ?_|refine S.seq ?_|refine S.block ?_|refine S.reg ?_)|(apply S.exit;apply rfl)|(apply S.condQ;apply rfl;all_goals (intro _;try (exfalso;first|omega|with_reducible contradiction)))|fail)
   refine S.frontR (some ⟨g2,0,none⟩) ?_
   refine S.loopE 1 [7,8,10] (fun R b' μ H' e=>∃ (i:Nat) (ws:List (List UInt8)),H'=roR g2 n2 ws::R∧e=(13,.int .i64 i)::b'∧(i≤n2∧ws.length=n2+70)∧μ=n2 - i) rfl rfl ?_ _ _ ⟨0,_,rfl,rfl,⟨Nat.zero_le _,hy7⟩,rfl⟩ (by repeat' first|exact trivial|refine And.intro rfl ?_)
   rintro _ _ _ ⟨i2,ws,rfl,rfl,⟨hi2,hwl⟩,rfl⟩ ih
   by_cases hlt2:i2 < n2
   ·have hset:(ws.map sV).set i2 (sV Z0X)=(ws.set i2 Z0X).map sV:=by rw [List.map_set]
    repeat' (first|((first|apply T.mv|apply T.asn|apply T.len|apply T.fieldAddrZ);apply rfl;apply rfl)|(apply T.load;apply rfl;apply rfl;infer_instance;apply rfl;apply rfl)|(apply T.lss;(iterate 3 apply rfl))|(apply T.addI;apply rfl;apply rfl;omega;apply rfl)|(apply T.ixN;apply rfl;apply rfl;infer_instance;omega;(first|omega|(simp only [List.length_map];omega)|(simp;omega));apply rfl)|(apply T.storeE;apply rfl;apply rfl;infer_instance;(first|omega|(simp only [List.length_map];omega)|(simp;omega));apply rfl)|(with_reducible first|refine Sr.nil ?_|refine S.seq ?_|refine S.block ?_|refine S.reg ?_|refine S.skip ?_|refine S.inBlock ?_)|(apply S.condQ;apply rfl;all_goals (intro _;try (exfalso;first|omega|with_reducible contradiction)))|fail)
    rw [show (Value.string { data:=#[103,111,110,101] })=sV Z0X from rfl,hset]
    exact ih _ _ _ _ ⟨i2+1,ws.set i2 Z0X,rfl,rfl,⟨hlt2,by rw [List.length_set];exact hwl⟩,rfl⟩ (by omega) (by repeat' first|exact trivial|refine And.intro rfl ?_)
   clear ih
   repeat' (first|((first|apply T.mv|apply T.asn|apply T.len|apply T.fieldAddrZ);apply rfl;apply rfl)|(apply T.load;apply rfl;apply rfl;infer_instance;apply rfl;apply rfl)|(apply T.lss;(iterate 3 apply rfl))|(with_reducible first|refine Sr.nil ?_|refine S.seq ?_|refine S.reg ?_)|(apply S.exit;apply rfl)|(apply S.condQ;apply rfl;all_goals (intro _;try (exfalso;first|omega|with_reducible contradiction)))|(apply T.retW;apply rfl)|fail)
   exact ⟨_,PSub.drop (PSub.drop (PSub.drop (PSub.drop (PSub.refl _)))),.inl ⟨rfl,rfl⟩⟩
  ·exact absurd h0 hc
 ·repeat' (first|((first|apply T.mv|apply T.asn);apply rfl;apply rfl)|(apply T.extract;(iterate 3 apply rfl))|(apply T.loadW;apply rfl;apply rfl;infer_instance;(first|rfl|(simp only [List.length_append,List.length_map,List.length_set,List.length_replicate,List.length_cons,List.length_nil];first|done|omega));apply rfl)|(with_reducible first|refine Sr.nil ?_|refine S.seq ?_|refine S.reg ?_)|(with_reducible apply T.ofRet)|fail)
  refine T.call rfl rfl (e3 _) ?_
  rintro _ _ ⟨rfl,⟨h0,_⟩|⟨_,m,rfl⟩⟩
  ·exact absurd rfl h0
  ·repeat' (first|(apply T.neq;(iterate 3 apply rfl);rw [decide_eq_false (fun h=>h rfl)])|(apply T.neqB;(iterate 3 apply rfl))|(apply T.eqlP;apply rfl;apply rfl)|((first|apply T.mv|apply T.asn);apply rfl;apply rfl)|(apply T.extract;(iterate 3 apply rfl))|(apply T.pickF;(iterate 3 apply rfl))|(apply T.loadW;apply rfl;apply rfl;infer_instance;(first|rfl|(simp only [List.length_append,List.length_map,List.length_set,List.length_replicate,List.length_cons,List.length_nil];first|done|omega));apply rfl)|(with_reducible first|refine Sr.nil ?_|refine S.seq ?_|refine S.reg ?_)|(apply T.ungV;apply rfl;(first|with_reducible rfl|decide))|(with_reducible apply T.ofRet)|fail)
   refine T.call rfl rfl (e2 g1 g2 _ inferInstance inferInstance inferInstance inferInstance) ?_
   rintro _ _ ⟨rfl,rfl⟩
   repeat' (first|(apply T.asn;apply rfl;apply rfl)|(apply T.notB;apply rfl;apply rfl)|(apply T.pickF;(iterate 3 apply rfl))|(with_reducible first|refine Sr.nil ?_|refine S.seq ?_|refine S.block ?_|refine S.reg ?_|refine S.skip ?_)|(apply T.ungV;apply rfl;(first|with_reducible rfl|decide))|(apply S.condFV;apply rfl;(first|with_reducible rfl|decide))|(with_reducible apply T.ofRet)|fail)
   refine S.frontR (some ⟨g1,0,none⟩) ?_
   refine S.loopE 1 [7,8,10] (fun R b' μ H' e=>∃ (i:Nat) (zs:List (List UInt8)),H'=roR g1 n1 zs::R∧e=(12,.int .i64 i)::b'∧(i≤n1∧zs.length=n1+70)∧μ=n1 - i) rfl rfl ?_ _ _ ⟨0,_,rfl,rfl,⟨Nat.zero_le _,hx7⟩,rfl⟩ (by repeat' first|exact trivial|refine And.intro rfl ?_)
   rintro _ _ _ ⟨i,zs,rfl,rfl,⟨hi,hzl⟩,rfl⟩ ih
   by_cases hlt:i < n1
   ·have hset:(zs.map sV).set i (sV Z0X)=(zs.set i Z0X).map sV:=by rw [List.map_set]
    repeat' (first|((first|apply T.mv|apply T.asn|apply T.len|apply T.fieldAddrZ);apply rfl;apply rfl)|(apply T.load;apply rfl;apply rfl;infer_instance;apply rfl;apply rfl)|(apply T.lss;(iterate 3 apply rfl))|(apply T.addI;apply rfl;apply rfl;omega;apply rfl)|(apply T.ixN;apply rfl;apply rfl;infer_instance;omega;(first|omega|(simp only [List.length_map];omega)|(simp;omega));apply rfl)|(apply T.storeE;apply rfl;apply rfl;infer_instance;(first|omega|(simp only [List.length_map];omega)|(simp;omega));apply rfl)|(with_reducible first|refine Sr.nil ?_|refine S.seq ?_|refine S.block ?_|refine S.reg ?_|refine S.skip ?_|refine S.inBlock ?_)|(apply S.condQ;apply rfl;all_goals (intro _;try (exfalso;first|omega|with_reducible contradiction)))|fail)
    rw [show (Value.string { data:=#[103,111,110,101] })=sV Z0X from rfl,hset]
    exact ih _ _ _ _ ⟨i+1,zs.set i Z0X,rfl,rfl,⟨hlt,by rw [List.length_set];exact hzl⟩,rfl⟩ (by omega) (by repeat' first|exact trivial|refine And.intro rfl ?_)
   clear ih
   repeat' (first|((first|apply T.mv|apply T.asn|apply T.len|apply T.fieldAddrZ);apply rfl;apply rfl)|(apply T.load;apply rfl;apply rfl;infer_instance;apply rfl;apply rfl)|(apply T.lss;(iterate 3 apply rfl))|(with_reducible first|refine Sr.nil ?_|refine S.seq ?_|refine S.block ?_|refine S.reg ?_)|(apply S.exit;apply rfl)|(apply S.condQ;apply rfl;all_goals (intro _;try (exfalso;first|omega|with_reducible contradiction)))|fail)
   refine S.frontR (some ⟨g2,0,none⟩) ?_
   refine S.loopE 1 [7,8,10] (fun R b' μ H' e=>∃ (i:Nat) (ws:List (List UInt8)),H'=roR g2 n2 ws::R∧e=(13,.int .i64 i)::b'∧(i≤n2∧ws.length=n2+70)∧μ=n2 - i) rfl rfl ?_ _ _ ⟨0,_,rfl,rfl,⟨Nat.zero_le _,hy7⟩,rfl⟩ (by repeat' first|exact trivial|refine And.intro rfl ?_)
   rintro _ _ _ ⟨i2,ws,rfl,rfl,⟨hi2,hwl⟩,rfl⟩ ih
   by_cases hlt2:i2 < n2
   ·have hset:(ws.map sV).set i2 (sV Z0X)=(ws.set i2 Z0X).map sV:=by rw [List.map_set]
    repeat' (first|((first|apply T.mv|apply T.asn|apply T.len|apply T.fieldAddrZ);apply rfl;apply rfl)|(apply T.load;apply rfl;apply rfl;infer_instance;apply rfl;apply rfl)|(apply T.lss;(iterate 3 apply rfl))|(apply T.addI;apply rfl;apply rfl;omega;apply rfl)|(apply T.ixN;apply rfl;apply rfl;infer_instance;omega;(first|omega|(simp only [List.length_map];omega)|(simp;omega));apply rfl)|(apply T.storeE;apply rfl;apply rfl;infer_instance;(first|omega|(simp only [List.length_map];omega)|(simp;omega));apply rfl)|(with_reducible first|refine Sr.nil ?_|refine S.seq ?_|refine S.block ?_|refine S.reg ?_|refine S.skip ?_|refine S.inBlock ?_)|(apply S.condQ;apply rfl;all_goals (intro _;try (exfalso;first|omega|with_reducible contradiction)))|fail)
    rw [show (Value.string { data:=#[103,111,110,101] })=sV Z0X from rfl,hset]
    exact ih _ _ _ _ ⟨i2+1,ws.set i2 Z0X,rfl,rfl,⟨hlt2,by rw [List.length_set];exact hwl⟩,rfl⟩ (by omega) (by repeat' first|exact trivial|refine And.intro rfl ?_)
   clear ih
   repeat' (first|((first|apply T.mv|apply T.asn|apply T.len|apply T.fieldAddrZ);apply rfl;apply rfl)|(apply T.load;apply rfl;apply rfl;infer_instance;apply rfl;apply rfl)|(apply T.lss;(iterate 3 apply rfl))|(with_reducible first|refine Sr.nil ?_|refine S.seq ?_|refine S.reg ?_)|(apply S.exit;apply rfl)|(apply S.condQ;apply rfl;all_goals (intro _;try (exfalso;first|omega|with_reducible contradiction)))|(apply T.retW;apply rfl)|fail)
   exact ⟨_,PSub.drop (PSub.drop (PSub.take Z0 (PSub.take Z0 (PSub.take Z0 (PSub.drop (PSub.drop (PSub.refl _))))))),.inr ⟨gb,m,b,mb,s1,s2,r,ri,rfl,rfl⟩⟩
theorem Z6t (hT:GtT F M) (hJ:Tabs F M) (h1:Rd F M H a1 (xs.map sV)) (h2:Rd F M H a2 (ys.map sV)) (hx:xs.length=n1) (hy:ys.length=n2) (k1:n1≤1000000000) (k2:n2≤1000000000) :
  Meets Tryz.prog 3 [.agg ⟨poV P (.slice a1 n1 c1) (.slice a2 n2 c2)⟩,sV t] F M H (fun e _=>e=.returned (.bool true)):=by
 refine Meets.enter Tryz.func3 rfl rfl ?_
 have e0:=fun X (h1:Rd F M X a1 (xs.map sV)) (h2:Rd F M X a2 (ys.map sV))=>Z4x (F:=F) (M:=M) (H:=X) (P:=P) (t:=t) (c1:=c1) (c2:=c2) hT hJ h1 h2 hx hy k1 k2
 repeat' (first|((first|apply T.mv|apply T.asn);apply rfl;apply rfl)|(apply T.loadW;apply rfl;apply rfl;infer_instance;(first|rfl|(simp only [List.length_append,List.length_map,List.length_set,List.length_replicate,List.length_cons,List.length_nil];first|done|omega));apply rfl)|(apply T.box;apply rfl;apply rfl;intro nb)|(with_reducible first|refine Sr.nil ?_|refine S.seq ?_|refine S.reg ?_)|fail)
 refine T.call rfl rfl (e0 _ inferInstance inferInstance) ?_
 rintro _ _ (⟨rfl,rfl⟩|⟨g,m,b,mb,s1,s2,r,ri,rfl,rfl⟩)
 ·repeat' (first|(apply T.eqlP0;apply rfl;apply rfl)|((first|apply T.mv|apply T.asn);apply rfl;apply rfl)|(apply T.extract;(iterate 3 apply rfl))|(apply T.notB;apply rfl;apply rfl)|(apply T.pickT;(iterate 3 apply rfl))|(with_reducible first|refine Sr.nil ?_|refine S.seq ?_|refine S.reg ?_|refine S.skip ?_)|(apply T.skip;apply rfl;(first|with_reducible rfl|decide);apply rfl)|(apply S.condFV;apply rfl;(first|with_reducible rfl|decide))|(apply T.retW;apply rfl)|(with_reducible apply T.ofRet)|fail)
  exact ⟨_,PSub.refl _,rfl⟩
 ·repeat' (first|(apply T.eqlP;apply rfl;apply rfl)|((first|apply T.mv|apply T.asn);apply rfl;apply rfl)|(apply T.extract;(iterate 3 apply rfl))|(apply T.notB;apply rfl;apply rfl)|(with_reducible first|refine Sr.nil ?_|refine S.seq ?_|refine S.reg ?_|refine S.skip ?_)|(apply T.ungV;apply rfl;(first|with_reducible rfl|decide))|(apply S.condFV;apply rfl;(first|with_reducible rfl|decide))|(with_reducible apply T.ofRet)|fail)
  refine T.call rfl rfl Z3W ?_
  rintro _ _ rfl
  repeat' (first|(apply T.asn;apply rfl;apply rfl)|(apply T.eql;(iterate 3 apply rfl))|(apply T.pickF;(iterate 3 apply rfl))|with_reducible refine Sr.nil ?_|(apply T.ungV;apply rfl;(first|with_reducible rfl|decide))|(apply T.retW;apply rfl)|(with_reducible apply T.ofRet)|fail)
  exact ⟨_,PSub.refl _,rfl⟩
end
end Go.Proofs.YthomgjihagigcaaGreatDoor
/- What the card's world holds: tables of rules; a policy that is handed in. -/
namespace Sg
open Go Go.ChangeShapes Go.WideShapes Go.RowKit
theorem Z30 {H:Type} {enc:TypeId × Value→H} {P:Program} {W:World} {sp:Nat→Bool} {held:Bool} {sz fuel:Nat} {t e:TypeId} {α:Type} [Inhabited α] {g:α→List Value} {Q:α→DataW H→Prop} {cs:List Value} {x:DataW H × List MemPlace} (hg:∀ a,(g a).length=sz) (hs:0 < sz)
  (hel:∀ {n:Nat} {cs:List Value} {x:DataW H × List MemPlace},DataW.trod enc P W 0 sp held n e cs=some x→∃ a,cs=g a∧Q a x.1)
  (ht:P.underlying t=some (.slice e)) (hc:P.cellsOf e=sz) (hf:DataW.trod enc P W 0 sp held fuel t cs=some x) :
  ∃ (ad:Option Addr) (cp:Nat) (xs:List α),cs=[.slice ad xs.length cp]∧(xs=[]∧x.1=.nil∨∃ (el sp':List (DataW H)),x.1=.slice el sp'∧el.length=xs.length∧∀ (i:Nat) (a:α),xs[i]?=some a→∃ y,el[i]?=some y∧Q a y)∧∀ H',Rd W [] H' ad (xs.flatMap g):=by
 rcases DataW.trod_slice ht hf with ⟨hcs,hx⟩|⟨a,len',cap',elems,rest,n,_,hcs,hx,_,hl,_,hlen,hele,hsp,_⟩
 ·subst hcs
  subst hx
  exact ⟨none,0,[],rfl,.inl ⟨rfl,rfl⟩,fun H'=>.ofF fun j u hu=>by simp at hu⟩
 ·subst hcs
  subst hx
  obtain ⟨xs,hxl,hxs⟩:=Z6C (Q:=fun i x=>W.cells? 0 (a.add (i*P.cellsOf e)) (P.cellsOf e)=some (g x)∧∃ y,(elems.map (·.1))[i]?=some y∧Q x y) len' (fun i hi=>by
   have h:=hele i hi
   rw [List.getElem?_eq_getElem (by omega),Option.bind_eq_some_iff] at h
   obtain ⟨cs,h1,h2⟩:=h
   obtain ⟨x,rfl,hq⟩:=hel h2
   exact ⟨x,h1,_,by rw [List.getElem?_map,List.getElem?_eq_getElem (by omega),Option.map_some],hq⟩)
  refine ⟨some a,cap',xs,by rw [hxl],.inr ⟨_,_,rfl,by rw [List.length_map];omega,fun i x hi=>(hxs i x hi).2⟩,fun H'=>.ofF fun j u hu=>⟨a,rfl,?_⟩⟩
  rw [hc] at hxs
  have hj:=(List.getElem?_eq_some_iff.1 hu).1
  rw [Z0a hg] at hj
  have hi:j / sz < xs.length:=Nat.div_lt_of_lt_mul (by rwa [Nat.mul_comm])
  have hr:j % sz < sz:=Nat.mod_lt _ hs
  have hje:j=j / sz*sz+j % sz:=by rw [Nat.mul_comm];exact (Nat.div_add_mod j sz).symm
  have hq:=(hxs (j / sz) (xs.getD (j / sz) default) (by rw [List.getD_eq_getElem?_getD,List.getElem?_eq_getElem hi];rfl)).1
  rw [hje,Z5g hg hi hr] at hu
  unfold World.cells? at hq
  rw [if_pos (Nat.zero_le _)] at hq
  have h3:=mapM_some_get hq (j % sz) (j % sz) (by simp [hr])
  rw [hu] at h3
  rw [hje,←h3]
  congr 1
  exact Z8h a _ _
theorem Z5f:∀ ts:List (List UInt8),ts.flatMap (fun s=>[sV s])=ts.map sV
 | []=>rfl
 | s::r=>by rw [List.flatMap_cons,Z5f r];rfl
theorem Z1b {H:Type} {enc:TypeId × Value→H} {P:Program} {W:World} {sp:Nat→Bool} {held:Bool} {fuel:Nat} {t e:TypeId} {cs:List Value} {x:DataW H × List MemPlace} (ht:P.underlying t=some (.slice e)) (he:P.underlying e=some .string) (hc:P.cellsOf e=1) (hf:DataW.trod enc P W 0 sp held fuel t cs=some x) :
  ∃ (ad:Option Addr) (cp:Nat) (ts:List (List UInt8)),cs=[.slice ad ts.length cp]∧(ts=[]∧x.1=.nil∨∃ sp',x.1=.slice (ts.map fun s=>.lit (.string s)) sp')∧∀ H',Rd W [] H' ad (ts.map sV):=by
 obtain ⟨ad,cp,ts,h1,h2,h3⟩:=Z30 (g:=fun s=>[sV s]) (sz:=1) (Q:=fun s d=>d=.lit (.string s)) (fun _=>rfl) (by decide) (fun h=>by
  obtain ⟨s,e1,e2,-⟩:=DataW.trod_string he h
  exact ⟨s.data.toList,by rw [e1,←Z79 s],by rw [e2]⟩) ht hc hf
 refine ⟨ad,cp,ts,h1,?_,fun H'=>by rw [←Z5f];exact h3 H'⟩
 rcases h2 with h2|⟨el,sp',e1,e2,e3⟩
 ·exact .inl h2
 ·refine .inr ⟨sp',?_⟩
  rw [e1]
  congr 1
  apply List.ext_getElem?
  intro i
  rw [List.getElem?_map]
  cases hi:ts[i]? with
  | none=>rw [Option.map_none,List.getElem?_eq_none];have:=List.getElem?_eq_none_iff.1 hi;omega
  | some s =>
   obtain ⟨y,k1,k2⟩:=e3 i s hi
   rw [k1,k2]
   rfl
end Sg
namespace Go.Proofs.YthomgjihagigcaaGreatDoor
open Sg Go Go.ChangeShapes Go.WideShapes Go.RowKit Go.Lib
set_option maxRecDepth 100000
theorem Z5t {H:Type}:∀ ts:List (List UInt8),ts.length≤Rows.uptoBulkAll (ts.map fun s=>(DataW.lit (.string s):DataW H))
 | []=>Nat.zero_le _
 | s::r=>by
  have:=Z5t (H:=H) r
  rw [List.map_cons,Rows.uptoBulkAll,Rows.uptoBulk,List.length_cons]
  omega
theorem n_kw : Tryz.prog.globalNamed "signet/rules.keywords" = some 2 := by kernel_rfl
theorem n_op : Tryz.prog.globalNamed "signet/rules.operators" = some 0 := by kernel_rfl
theorem t_kw:(Tryz.prog.globals[2]?).map (·.type)=some 22:=by kernel_rfl
theorem t_op:(Tryz.prog.globals[0]?).map (·.type)=some 113:=by kernel_rfl
theorem Z4Q:Tryz.prog.cellsOf 9=1:=by kernel_rfl
theorem Z8t:Tryz.prog.cellsOf 114=2:=by kernel_rfl
theorem Z8z:Tryz.prog.cellsOf 92=1:=by kernel_rfl
theorem Z7e {H:Type} {enc:TypeId × Value→H} {W:World} {sp:Nat→Bool} {held:Bool} {fuel:Nat} {cs:List Value} {x:DataW H × List MemPlace} (h:DataW.trod enc Tryz.prog W 0 sp held fuel 24 cs=some x) :
  ∃ (P:Pol) (a1 a2:Option Addr) (c1 c2:Nat) (xs ys:List (List UInt8)),cs=poV P (.slice a1 xs.length c1) (.slice a2 ys.length c2)∧xs.length+ys.length≤Rows.uptoBulk x.1∧(∀ H',Rd W [] H' a1 (xs.map sV))∧∀ H',Rd W [] H' a2 (ys.map sV):=by
 obtain ⟨xs,n,rfl,rfl,hl,hlen,hf⟩:=DataW.trod_struct Tryz.underlying24 h
 match xs,hlen with
 | [y0,y1,y2,y3,y4,y5,y6,y7,y8],_ =>
  have h0:=hf 0 _ rfl
  have h1:=hf 1 _ rfl
  have h2:=hf 2 _ rfl
  have h3:=hf 3 _ rfl
  have h4:=hf 4 _ rfl
  have h5:=hf 5 _ rfl
  have h6:=hf 6 _ rfl
  have h7:=hf 7 _ rfl
  have h8:=hf 8 _ rfl
  dsimp only [List.getElem?_cons_zero,List.getElem?_cons_succ] at h0 h1 h2 h3 h4 h5 h6 h7 h8
  obtain ⟨a1,c1,l1,a0,b0,r0⟩:=Z1b Tryz.underlying22 Tryz.underlying9 Z4Q h0
  obtain ⟨s1,e1,-,-⟩:=DataW.trod_string Tryz.underlying9 h1
  obtain ⟨t2,e2,-⟩:=DataW.trod_bool Tryz.underlying4 h2
  obtain ⟨s3,e3,-,-⟩:=DataW.trod_string Tryz.underlying9 h3
  obtain ⟨t4,e4,-⟩:=DataW.trod_bool Tryz.underlying4 h4
  obtain ⟨s5,e5,-,-⟩:=DataW.trod_string Tryz.underlying9 h5
  obtain ⟨t6,e6,-⟩:=DataW.trod_bool Tryz.underlying4 h6
  obtain ⟨z7,e7,-,-⟩:=DataW.trod_int Tryz.underlying2 h7
  obtain ⟨a2,c2,l2,a8,b8,r8⟩:=Z1b Tryz.underlying22 Tryz.underlying9 Z4Q h8
  have k0:Tryz.prog.cellsOf 22=1:=by kernel_rfl
  have k3:Tryz.prog.cellsOf 4=1:=by kernel_rfl
  have k4:Tryz.prog.cellsOf 2=1:=by kernel_rfl
  have k9:Tryz.prog.cellsOf 24=9:=by kernel_rfl
  rw [k9] at hl
  have q0:(cs.drop 0).take (Tryz.prog.cellsOf 22)=_:=a0
  rw [k0] at q0
  have q1:(cs.drop 1).take (Tryz.prog.cellsOf 9)=_:=e1
  rw [Z4Q] at q1
  have q2:(cs.drop 2).take (Tryz.prog.cellsOf 4)=_:=e2
  rw [k3] at q2
  have q3:(cs.drop 3).take (Tryz.prog.cellsOf 9)=_:=e3
  rw [Z4Q] at q3
  have q4:(cs.drop 4).take (Tryz.prog.cellsOf 4)=_:=e4
  rw [k3] at q4
  have q5:(cs.drop 5).take (Tryz.prog.cellsOf 9)=_:=e5
  rw [Z4Q] at q5
  have q6:(cs.drop 6).take (Tryz.prog.cellsOf 4)=_:=e6
  rw [k3] at q6
  have q7:(cs.drop 7).take (Tryz.prog.cellsOf 2)=_:=e7
  rw [k4] at q7
  have q8:(cs.drop 8).take (Tryz.prog.cellsOf 22)=_:=a8
  rw [k0] at q8
  match cs,hl with
  | [v0,v1,v2,v3,v4,v5,v6,v7,v8],_ =>
   simp only [List.drop_zero,List.drop_succ_cons,List.take_succ_cons,List.take_zero,List.cons.injEq,and_true] at q0 q1 q2 q3 q4 q5 q6 q7 q8
   subst q0 q1 q2 q3 q4 q5 q6 q7 q8
   refine ⟨⟨s1.data.toList,t2,s3.data.toList,t4,s5.data.toList,t6,z7⟩,a1,a2,c1,c2,l1,l2,by simp only [poV,Z79],?_,r0,r8⟩
   have hb:∀ {l:List (List UInt8)} {y:DataW H},(l=[]∧y=.nil∨∃ sp',y=.slice (l.map fun s=>.lit (.string s)) sp')→l.length≤Rows.uptoBulk y:=fun {l y} h=>by
    rcases h with ⟨rfl,-⟩|⟨sp',rfl⟩
    ·exact Nat.zero_le _
    ·have:=Z5t (H:=H) l
     rw [Rows.uptoBulk]
     omega
   have w0:=hb b0
   have w8:=hb b8
   simp only [List.map_cons,List.map_nil,Rows.uptoBulk,Rows.uptoBulkAll]
   omega
theorem own:ownKnob Tryz.prog.godebug=none:=by kernel_rfl
theorem Z87:laidOutB Tryz.prog=true:=by kernel_rfl
theorem n_first : Tryz.prog.globalNamed "unicode/utf8.first" = some 3 := by kernel_rfl
theorem n_acc : Tryz.prog.globalNamed "unicode/utf8.acceptRanges" = some 4 := by kernel_rfl
theorem c_u8:Tryz.prog.cellsOf 5=1:=by kernel_rfl
theorem t_first:(Tryz.prog.globals[3]?).map (·.type)=some 183:=by kernel_rfl
theorem t_acc:(Tryz.prog.globals[4]?).map (·.type)=some 186:=by kernel_rfl
theorem Z5W:Rows.laid_unicode_utf8_first=.agg (((List.range 256).map fun c=>((firstT c:Nat):Int)).map fun z=>.lit (.int .u8 z)):=by kernel_rfl
theorem Z6Z:(Rows.laid_unicode_utf8_acceptRanges:DataW Unit)=.agg ((List.range 16).map fun i=>.agg [.lit (.int .u8 (accLo i:Nat)),.lit (.int .u8 (accHi i:Nat))]):=by kernel_rfl
theorem Z5P {P:Program} {W:World} {nm:String} {g T E f0 n:Nat} {ps:List (Int × Int)} {cs:Array Value} {fuel:Nat} {p:List MemPlace} {sp:Nat→Bool} {fa fb:Field} (hg:P.globalNamed nm=some g) (hT:P.underlying T=some (.array n E)) (hE:P.underlying E=some (.struct #[fa,fb])) (hc:P.cellsOf E=2)
  (ha:fa.type=f0∧fa.offset=0) (hb:fb.type=f0∧fb.offset=1) (h0:P.underlying f0=some (.int .u8)) (hc0:P.cellsOf f0=1)
  (hv:W.var? P nm=some cs) (hd:DataW.trod (fun _=>()) P W 0 sp false fuel T cs.toList=some (.agg (ps.map fun z=>.agg [.lit (.int .u8 z.1),.lit (.int .u8 z.2)]),p)) :
  ∀ j z,ps[j]?=some z→W.cell? ⟨g,2*j,none⟩=some (.int .u8 z.1)∧W.cell? ⟨g,2*j+1,none⟩=some (.int .u8 z.2):=by
 intro j z hz
 obtain ⟨xs,m,rfl,hx,hlen,hn,hel⟩:=DataW.trod_array hT hd
 simp only [Prod.mk.injEq,DataW.agg.injEq] at hx
 have hj:j < ps.length:=(List.getElem?_eq_some_iff.1 hz).1
 have hxl:xs.length=ps.length:=by
  have:=congrArg List.length hx.1
  simpa using this.symm
 have h1:=hel j (by omega)
 rw [hc,List.getElem?_eq_getElem (by omega)] at h1
 obtain ⟨y0,y1,m',e1,e2,e3,e4⟩:=Go.ChangeShapes.trod_struct2 hE h1
 rw [ha.1,ha.2,hc0,List.drop_zero] at e3
 rw [hb.1,hb.2,hc0] at e4
 obtain ⟨z0,k1,k2,-⟩:=DataW.trod_int h0 e3
 obtain ⟨z1,k3,k4,-⟩:=DataW.trod_int h0 e4
 have h2:(xs.map (·.1))[j]?=(ps.map fun z=>(DataW.agg [.lit (.int .u8 z.1),.lit (.int .u8 z.2)]:DataW Unit))[j]?:=by rw [hx.1]
 rw [List.getElem?_map,List.getElem?_map,hz,List.getElem?_eq_getElem (by omega),e1] at h2
 simp only [Option.map_some,Option.some.injEq,DataW.agg.injEq,List.cons.injEq,and_true,k2,k4,DataW.lit.injEq,Lit.int.injEq,true_and] at h2
 obtain ⟨rfl,rfl⟩:=h2
 have q0:cs[2*j]?=some (.int .u8 z.1):=by
  have h4:(((cs.toList.drop (j*2)).take 2).take 1)[0]?=some (.int .u8 z.1):=by rw [k1];rfl
  rw [List.getElem?_take_of_lt (by omega),List.getElem?_take_of_lt (by omega),List.getElem?_drop] at h4
  simpa [Nat.mul_comm] using h4
 have q1:cs[2*j+1]?=some (.int .u8 z.2):=by
  have h4:((((cs.toList.drop (j*2)).take 2).drop 1).take 1)[0]?=some (.int .u8 z.2):=by rw [k3];rfl
  rw [List.getElem?_take_of_lt (by omega),List.getElem?_drop,List.getElem?_take_of_lt (by omega),List.getElem?_drop] at h4
  simpa [Nat.mul_comm,Nat.add_comm] using h4
 exact ⟨by rw [World.var?_cell hg hv];exact q0,by rw [World.var?_cell hg hv];exact q1⟩
theorem Z7R {W : World} {ls : List (String × DataW Unit)} (h : laidMet Tryz.prog ls W) (m1 : ("unicode/utf8.first", Rows.laid_unicode_utf8_first) ∈ ls) (m2 : ("unicode/utf8.acceptRanges", Rows.laid_unicode_utf8_acceptRanges) ∈ ls) : Tabs W [] := by
 obtain ⟨ps,hl,-,-⟩:=h
 constructor
 ·intro H
  obtain ⟨g',t',cs,fuel,p,h1,h2,h3,h4⟩:=Z0I hl m1
  obtain rfl:=Option.some.inj (n_first.symm.trans h1)
  obtain rfl:=Option.some.inj (t_first.symm.trans h2)
  rw [Z5W] at h4
  have h5:=Z6F (k:=.u8) n_first Tryz.underlying183 Tryz.underlying5 c_u8 h3 h4
  refine .ofF fun j u hu=>⟨_,rfl,?_⟩
  rw [Zh,Nat.zero_add]
  unfold Z5j at hu
  rw [List.getElem?_map] at hu
  cases hn:(List.range 256)[j]? with
  | none=>rw [hn] at hu;cases hu
  | some c =>
   rw [hn] at hu
   simp only [Option.map_some,Option.some.injEq] at hu
   subst hu
   exact h5 j _ (by rw [List.getElem?_map,hn];rfl)
 ·intro H
  obtain ⟨g',t',cs,fuel,p,h1,h2,h3,h4⟩:=Z0I hl m2
  obtain rfl:=Option.some.inj (n_acc.symm.trans h1)
  obtain rfl:=Option.some.inj (t_acc.symm.trans h2)
  rw [Z6Z] at h4
  have hmm:((List.range 16).map fun i=>(DataW.agg [.lit (.int .u8 (accLo i:Nat)),.lit (.int .u8 (accHi i:Nat))]:DataW Unit))=((List.range 16).map fun i=>(((accLo i:Nat):Int),((accHi i:Nat):Int))).map fun z=>.agg [.lit (.int .u8 z.1),.lit (.int .u8 z.2)]:=by rw [List.map_map];rfl
  rw [hmm] at h4
  have h5:=Z5P n_acc Tryz.underlying186 Tryz.underlying185 (by kernel_rfl) ⟨rfl,rfl⟩ ⟨rfl,rfl⟩ Tryz.underlying5 c_u8 h3 h4
  refine .ofF fun j u hu=>⟨_,rfl,?_⟩
  rw [Zh,Nat.zero_add]
  have hj:j < 32:=by
   have:=(List.getElem?_eq_some_iff.1 hu).1
   have hlen:accL.length=32:=by decide
   omega
  have h6:=Z4S ⟨j / 2,by omega⟩
  simp only at h6
  have h7:=h5 (j / 2) (((accLo (j / 2):Nat):Int),((accHi (j / 2):Nat):Int)) (by rw [List.getElem?_map,List.getElem?_range (by omega)];rfl)
  rcases Nat.mod_two_eq_zero_or_one j with hm|hm
  ·have h8:accL[j]?=some (.int .u8 (accLo (j / 2):Nat)):=by
    have:=congrArg (fun l=>l[0]?) h6
    rw [show j=j / 2*2 by omega]
    simpa [List.getElem?_take,List.getElem?_drop] using this
   rw [h8] at hu
   cases hu
   have:=h7.1
   rwa [show 2*(j / 2)=j by omega] at this
  ·have h8:accL[j]?=some (.int .u8 (accHi (j / 2):Nat)):=by
    have:=congrArg (fun l=>l[1]?) h6
    rw [show j=j / 2*2+1 by omega]
    simpa [List.getElem?_take,List.getElem?_drop,show (j / 2*2+1) / 2=j / 2 by omega] using this
   rw [h8] at hu
   cases hu
   have:=h7.2
   rwa [show 2*(j / 2)+1=j by omega] at this
theorem Z7h {W:World} {sp:Nat→Bool} {fuel:Nat} {cs:List Value} {x:DataW Unit × List MemPlace} (h:DataW.trod (fun _=>()) Tryz.prog W 0 sp false fuel 114 cs=some x) :
  ∃ a:OpT,cs=opV a∧x.1=.agg [.lit (.string a.1),.lit (.int .i64 a.2)]:=by
 obtain ⟨xs,n,rfl,rfl,hl,hlen,hf⟩:=DataW.trod_struct Tryz.underlying114 h
 match xs,hlen with
 | [y0,y1],_ =>
  have h0:=hf 0 _ rfl
  have h1:=hf 1 _ rfl
  dsimp only [List.getElem?_cons_zero,List.getElem?_cons_succ] at h0 h1
  obtain ⟨s0,e0,f0,-⟩:=DataW.trod_string Tryz.underlying9 h0
  obtain ⟨z1,e1,f1,-⟩:=DataW.trod_int Tryz.underlying92 h1
  rw [Z8t] at hl
  have q0:(cs.drop 0).take (Tryz.prog.cellsOf 9)=_:=e0
  rw [Z4Q] at q0
  have q1:(cs.drop 1).take (Tryz.prog.cellsOf 92)=_:=e1
  rw [Z8z] at q1
  match cs,hl with
  | [v0,v1],_ =>
   simp only [List.drop_zero,List.drop_succ_cons,List.take_succ_cons,List.take_zero,List.cons.injEq,and_true] at q0 q1
   subst q0 q1
   refine ⟨(s0.data.toList,z1),by simp only [opV,Z79],?_⟩
   simp only [List.map_cons,List.map_nil]
   rw [f0,f1]
theorem Z8y {W : World} {ls : List (String × DataW Unit)} (h : laidMet Tryz.prog ls W) (m1 : ("signet/rules.keywords", Rows.laid_signet_rules_keywords) ∈ ls) (m2 : ("signet/rules.operators", Rows.laid_signet_rules_operators) ∈ ls) : GtT W [] := by
 obtain ⟨ps,hl,-,-⟩:=h
 constructor
 ·obtain ⟨g',t',cs,fuel,p,h1,h2,h3,h4⟩:=Z0I hl m1
  obtain rfl:=Option.some.inj (n_kw.symm.trans h1)
  obtain rfl:=Option.some.inj (t_kw.symm.trans h2)
  obtain ⟨ad,cp,ts,e1,e2,e3⟩:=Z1b Tryz.underlying22 Tryz.underlying9 Z4Q h4
  have ht:ts=kwL:=by
   rcases e2 with ⟨-,e2⟩|⟨sp',e2⟩
   ·cases e2
   ·have e4:ts.map (fun s=>(DataW.lit (.string s):DataW Unit))=kwL.map fun s=>.lit (.string s):=by
     have e5:(DataW.slice (kwL.map fun s=>(DataW.lit (.string s):DataW Unit)) []:DataW Unit)=.slice (ts.map fun s=>.lit (.string s)) sp':=e2
     injection e5 with e6 e7
     exact e6.symm
    exact (List.map_inj_right (fun a b hab=>by simpa using hab)).1 e4
  subst ht
  refine ⟨ad,cp,fun H=>.ofF fun j u hu=>⟨_,rfl,?_⟩,fun H=>e3 H⟩
  rw [Zh,Nat.zero_add,World.var?_cell n_kw h3,←Array.getElem?_toList,e1]
  exact hu
 ·obtain ⟨g',t',cs,fuel,p,h1,h2,h3,h4⟩:=Z0I hl m2
  obtain rfl:=Option.some.inj (n_op.symm.trans h1)
  obtain rfl:=Option.some.inj (t_op.symm.trans h2)
  obtain ⟨ad,cp,ts,e1,e2,e3⟩:=Z30 (g:=opV) (sz:=2) (Q:=fun a d=>d=.agg [.lit (.string a.1),.lit (.int .i64 a.2)]) (fun _=>rfl) (by decide) Z7h Tryz.underlying113 Z8t h4
  have ht:ts=opsL:=by
   rcases e2 with ⟨-,e2⟩|⟨el,sp',e2,e5,e6⟩
   ·cases e2
   ·have e7:(DataW.slice (opsL.map fun a=>(DataW.agg [.lit (.string a.1),.lit (.int .i64 a.2)]:DataW Unit)) []:DataW Unit)=.slice el sp':=e2
    injection e7 with e8 e9
    subst e8
    rw [List.length_map] at e5
    apply List.ext_getElem?
    intro i
    cases hi:ts[i]? with
    | none=>rw [List.getElem?_eq_none];have:=List.getElem?_eq_none_iff.1 hi;omega
    | some a =>
     obtain ⟨y,k1,k2⟩:=e6 i a hi
     rw [List.getElem?_map,Option.map_eq_some_iff] at k1
     obtain ⟨b,k3,k4⟩:=k1
     rw [k3]
     rw [k2] at k4
     simp only [DataW.agg.injEq,List.cons.injEq,DataW.lit.injEq,Lit.string.injEq,Lit.int.injEq,and_true,true_and] at k4
     rw [Prod.ext k4.1.symm k4.2.symm]
  subst ht
  refine ⟨ad,cp,fun H=>.ofF fun j u hu=>⟨_,rfl,?_⟩,fun H=>e3 H⟩
  rw [Zh,Nat.zero_add,World.var?_cell n_op h3,←Array.getElem?_toList,e1]
  exact hu
end Go.Proofs.YthomgjihagigcaaGreatDoor
