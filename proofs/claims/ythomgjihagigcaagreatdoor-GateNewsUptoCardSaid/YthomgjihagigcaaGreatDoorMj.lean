/- Texts put together by a program: JrfF JrfG RowN JrfH DecQ JrfI. -/
import Derived.Test.YthomgjihagigcaaGreatDoorMi
import Derived.Test.YthomgjihagigcaaGreatDoorMe
import Derived.Test.YthomgjihagigcaaGreatDoorMa
import Derived.Test.YthomgjihagigcaaGreatDoorMb
/- The walks of the document's reader of JSON: escapes of digits. -/
namespace Go.Proofs.YthomgjihagigcaaGreatDoor
open Sg Go.IntWalk
set_option maxRecDepth 100000
set_option maxHeartbeats 4000000
def remX (t:List UInt8) (fr hi a i:Nat):Gt (List UInt8) :=
 let K:Nat→Gt (List UInt8):=fun d=>(Zr t true fr 4 d 0).bind fun e lo=>Gt.ok e (utfL (65536+1024*(hi - 55296)+lo - 56320))
 if i=0 then (Z0q t fr a 92).bind fun b _=>(Z0q t fr b 117).bind fun d _=>K d else if i=1 then (Z0q t fr (a+1) 117).bind fun d _=>K d else K (a+2)
theorem Z49 {α β γ:Type} (g:Gt α) (f:Nat→α→Gt β) (k:Nat→β→Gt γ):(g.bind f).bind k=g.bind fun a v=>(f a v).bind k:=by
 cases g<;>rfl
theorem Z7b {t:List UInt8} {fr hi a i:Nat} (h:a+i < t.length) (hi2:i < 2):remX t fr hi a i=if bAt t (a+i)=(if i=0 then 92 else 117) then remX t fr hi a (i+1) else .bad 33 fr:=by
 rcases (by omega:i=0∨i=1) with rfl|rfl
 ·unfold remX
  have e92:(92:UInt8).toNat=92:=rfl
  rw [Z1N (p:=a) (by omega),e92]
  simp only [if_true,Nat.add_zero,Nat.zero_add,Nat.one_ne_zero,if_false]
  by_cases hb:bAt t a=92
  ·rw [if_pos hb,if_pos hb]
   rfl
  ·rw [if_neg hb,if_neg hb]
   rfl
 ·unfold remX
  have e117:(117:UInt8).toNat=117:=rfl
  rw [Z1N (p:=a+1) (by omega),e117]
  simp only [if_true,Nat.one_ne_zero,if_false,(by decide:¬(1+1=0)),(by decide:¬(1+1=1))]
  by_cases hb:bAt t (a+1)=117
  ·rw [if_pos hb,if_pos hb]
   rfl
  ·rw [if_neg hb,if_neg hb]
   rfl
theorem Z7Y {t:List UInt8} {fr hi a i:Nat} (h:¬a+i < t.length) (ha:a+i≤t.length) (hi2:i < 2):remX t fr hi a i=.bad 31 t.length:=by
 rcases (by omega:i=0∨i=1) with rfl|rfl
 ·unfold remX
  rw [Z1h (p:=a) (by omega),show t.length=a by omega]
  rfl
 ·unfold remX
  rw [Z1h (p:=a+1) (by omega),show t.length=a+1 by omega]
  rfl
section
variable {F:World} {M:List Nat} {H:List Res} {t:List UInt8} {p:Nat}
theorem Z42 (hp:p < t.length) (hl:t.length≤1000000000) (h117:bAt t (p+1)=117):Meets Tryz.prog 145 [sV t,.int .i64 p] F M H (fun e H'=>GoE ((escX t p).bind fun a u=>.ok a (utfL u)) e∧H'=H):=by
 have h6:p+1 < t.length:=Z7 (by omega)
 rw [Z4K h6,if_pos h117]
 unfold Z0G
 refine Meets.enter Tryz.func145 rfl rfl ?_
 have e1:(p:Int)+1=((p+1:Nat):Int):=by omega
 have e2:(p:Int)+2=((p+2:Nat):Int):=by omega
 repeat' (first|(apply T.addI;apply rfl;apply rfl;omega;apply rfl;first|rw [e1]|rw [e2])|(apply T.mv;apply rfl;apply rfl)|(apply T.alloc;apply rfl;intro nb)|(with_reducible first|refine Sr.nil ?_|refine S.seq ?_|refine S.reg ?_)|fail)
 refine T.call rfl rfl Z4 ?_
 rintro _ _ ⟨rfl,rfl⟩
 rw [ZB h6,h117]
 repeat' (first|(apply T.addI;apply rfl;apply rfl;omega;apply rfl;first|rw [e1]|rw [e2])|((first|apply T.mv|apply T.asn);apply rfl;apply rfl)|(apply T.eql;(iterate 3 apply rfl))|(with_reducible first|refine Sr.nil ?_|refine S.seq ?_|refine S.block ?_|refine S.reg ?_)|(apply S.condTV;apply rfl;(first|with_reducible rfl|decide))|(apply S.condFV;apply rfl;(first|with_reducible rfl|decide))|(with_reducible apply T.ofRet)|fail)
 refine T.call rfl rfl (Z3Y (low:=false) (L:=0) (fr:=p) (p:=p+2) rfl (by omega) hl) ?_
 cases hx:Zr t false p 4 (p+2) 0 with
 | bad c b =>
  have hc:=Z0U hx
  rintro _ _ ⟨rfl,rfl⟩
  repeat' (first|((first|apply T.mv|apply T.asn|apply T.fieldAddrZ);apply rfl;apply rfl)|(apply T.load;apply rfl;apply rfl;infer_instance;apply rfl;apply rfl)|((first|apply T.neq|apply T.extract);(iterate 3 apply rfl))|(apply T.pickT;(iterate 3 apply rfl))|(apply T.storeW;apply rfl;apply rfl;infer_instance;(first|rfl|(simp only [List.length_append,List.length_map,List.length_set,List.length_replicate,List.length_cons,List.length_nil];first|done|omega));(first|rfl|(simp only [List.length_append,List.length_map,List.length_set,List.length_replicate,List.length_cons,List.length_nil];first|done|omega));(first|rfl|(repeat' first|apply all_nV|apply all_bV|apply all_iV|rfl|apply all_app)))|(apply T.alloc;apply rfl;intro nb)|(with_reducible first|refine Sr.nil ?_|refine S.seq ?_|refine S.reg ?_)|(apply T.skip;apply rfl;(first|with_reducible rfl|decide);apply rfl)|(apply S.condTV;apply rfl;(first|with_reducible rfl|decide))|(apply T.gcase;apply rfl;apply rfl;all_goals (intro _;try (exfalso;first|omega|with_reducible contradiction)))|(with_reducible apply T.ofRet)|fail)
  refine T.call rfl rfl (Z1d (u:=0) (by decide)) ?_
  rintro _ _ ⟨rfl,rfl⟩
  repeat' (first|(apply T.fieldAddrZ;apply rfl;apply rfl)|(apply T.loadW;apply rfl;apply rfl;infer_instance;(first|rfl|(simp only [List.length_append,List.length_map,List.length_set,List.length_replicate,List.length_cons,List.length_nil];first|done|omega));apply rfl)|(apply T.storeW;apply rfl;apply rfl;infer_instance;(first|rfl|(simp only [List.length_append,List.length_map,List.length_set,List.length_replicate,List.length_cons,List.length_nil];first|done|omega));(first|rfl|(simp only [List.length_append,List.length_map,List.length_set,List.length_replicate,List.length_cons,List.length_nil];first|done|omega));(first|rfl|(repeat' first|apply all_nV|apply all_bV|apply all_iV|rfl|apply all_app)))|(apply T.store;apply rfl;apply rfl;infer_instance;(first|decide|(simp;omega)|simp);apply rfl)|(with_reducible first|refine Sr.nil ?_|refine S.seq ?_|refine S.reg ?_)|(with_reducible apply T.ofRet)|(apply T.retC;apply rfl;((repeat' first|apply RV.nil|(apply RV.tmp;apply rfl)|(apply RV.cellW;apply rfl;apply rfl;infer_instance;(first|rfl|(simp only [List.length_append,List.length_map,List.length_set,List.length_replicate,List.length_cons,List.length_nil];first|done|omega)))|(apply RV.cellP;apply rfl;apply rfl;infer_instance;apply rfl)));apply rfl)|fail)
  exact ⟨_,PSub.drop (PSub.drop (PSub.refl _)),⟨utfL 0,rfl⟩,rfl⟩
 | ok a hi =>
  obtain ⟨g1,g2⟩:=Z2j hx
  have hfa:=Z0l (t:=t) (low:=false) (fr:=p) (k:=4) (p:=p+2) (u:=0) (by omega) a hi hx
  rintro _ _ ⟨rfl,rfl⟩
  simp only [Gt.bind]
  by_cases hs:hi < 55296∨57343 < hi
  ·rw [if_pos hs]
   by_cases hs1:hi < 55296
   ·repeat' (first|((first|apply T.mv|apply T.asn|apply T.fieldAddrZ);apply rfl;apply rfl)|(apply T.load;apply rfl;apply rfl;infer_instance;apply rfl;apply rfl)|((first|apply T.lss|apply T.neq|apply T.extract);(iterate 3 apply rfl))|(apply T.pickT;(iterate 3 apply rfl))|(apply T.pickF;(iterate 3 apply rfl))|(apply T.storeW;apply rfl;apply rfl;infer_instance;(first|rfl|(simp only [List.length_append,List.length_map,List.length_set,List.length_replicate,List.length_cons,List.length_nil];first|done|omega));(first|rfl|(simp only [List.length_append,List.length_map,List.length_set,List.length_replicate,List.length_cons,List.length_nil];first|done|omega));(first|rfl|(repeat' first|apply all_nV|apply all_bV|apply all_iV|rfl|apply all_app)))|(apply T.alloc;apply rfl;intro nb)|(with_reducible first|refine Sr.nil ?_|refine S.seq ?_|refine S.reg ?_)|(apply T.ungV;apply rfl;(first|with_reducible rfl|decide))|(apply T.skip;apply rfl;(first|with_reducible rfl|decide);apply rfl)|(apply S.condTV;apply rfl;(first|with_reducible rfl|decide))|(apply T.gcase;apply rfl;apply rfl;all_goals (intro _;try (exfalso;first|omega|with_reducible contradiction)))|(with_reducible apply T.ofRet)|fail)
    refine T.call rfl rfl (Z1d (u:=hi) (by omega)) ?_
    rintro _ _ ⟨rfl,rfl⟩
    repeat' (first|(apply T.fieldAddrZ;apply rfl;apply rfl)|(apply T.loadW;apply rfl;apply rfl;infer_instance;(first|rfl|(simp only [List.length_append,List.length_map,List.length_set,List.length_replicate,List.length_cons,List.length_nil];first|done|omega));apply rfl)|(apply T.storeW;apply rfl;apply rfl;infer_instance;(first|rfl|(simp only [List.length_append,List.length_map,List.length_set,List.length_replicate,List.length_cons,List.length_nil];first|done|omega));(first|rfl|(simp only [List.length_append,List.length_map,List.length_set,List.length_replicate,List.length_cons,List.length_nil];first|done|omega));(first|rfl|(repeat' first|apply all_nV|apply all_bV|apply all_iV|rfl|apply all_app)))|(apply T.store;apply rfl;apply rfl;infer_instance;(first|decide|(simp;omega)|simp);apply rfl)|(with_reducible first|refine Sr.nil ?_|refine S.seq ?_|refine S.reg ?_)|(with_reducible apply T.ofRet)|(apply T.retC;apply rfl;((repeat' first|apply RV.nil|(apply RV.tmp;apply rfl)|(apply RV.cellW;apply rfl;apply rfl;infer_instance;(first|rfl|(simp only [List.length_append,List.length_map,List.length_set,List.length_replicate,List.length_cons,List.length_nil];first|done|omega)))|(apply RV.cellP;apply rfl;apply rfl;infer_instance;apply rfl)));apply rfl)|fail)
    exact ⟨_,PSub.drop (PSub.drop (PSub.refl _)),rfl,rfl⟩
   ·have hs2:=hs.resolve_left hs1
    repeat' (first|((first|apply T.mv|apply T.asn|apply T.fieldAddrZ);apply rfl;apply rfl)|(apply T.load;apply rfl;apply rfl;infer_instance;apply rfl;apply rfl)|((first|apply T.lss|apply T.gtr|apply T.neq|apply T.extract);(iterate 3 apply rfl))|(apply T.pickF;(iterate 3 apply rfl))|(apply T.storeW;apply rfl;apply rfl;infer_instance;(first|rfl|(simp only [List.length_append,List.length_map,List.length_set,List.length_replicate,List.length_cons,List.length_nil];first|done|omega));(first|rfl|(simp only [List.length_append,List.length_map,List.length_set,List.length_replicate,List.length_cons,List.length_nil];first|done|omega));(first|rfl|(repeat' first|apply all_nV|apply all_bV|apply all_iV|rfl|apply all_app)))|(apply T.alloc;apply rfl;intro nb)|(with_reducible first|refine Sr.nil ?_|refine S.seq ?_|refine S.reg ?_)|(apply T.ungV;apply rfl;(first|with_reducible rfl|decide))|(apply S.condQ;apply rfl;all_goals (intro _;try (exfalso;first|omega|with_reducible contradiction)))|(apply T.gcase;apply rfl;apply rfl;all_goals (intro _;try (exfalso;first|omega|with_reducible contradiction)))|(with_reducible apply T.ofRet)|fail)
    refine T.call rfl rfl (Z1d (u:=hi) (by omega)) ?_
    rintro _ _ ⟨rfl,rfl⟩
    repeat' (first|(apply T.fieldAddrZ;apply rfl;apply rfl)|(apply T.loadW;apply rfl;apply rfl;infer_instance;(first|rfl|(simp only [List.length_append,List.length_map,List.length_set,List.length_replicate,List.length_cons,List.length_nil];first|done|omega));apply rfl)|(apply T.storeW;apply rfl;apply rfl;infer_instance;(first|rfl|(simp only [List.length_append,List.length_map,List.length_set,List.length_replicate,List.length_cons,List.length_nil];first|done|omega));(first|rfl|(simp only [List.length_append,List.length_map,List.length_set,List.length_replicate,List.length_cons,List.length_nil];first|done|omega));(first|rfl|(repeat' first|apply all_nV|apply all_bV|apply all_iV|rfl|apply all_app)))|(apply T.store;apply rfl;apply rfl;infer_instance;(first|decide|(simp;omega)|simp);apply rfl)|(with_reducible first|refine Sr.nil ?_|refine S.seq ?_|refine S.reg ?_)|(with_reducible apply T.ofRet)|(apply T.retC;apply rfl;((repeat' first|apply RV.nil|(apply RV.tmp;apply rfl)|(apply RV.cellW;apply rfl;apply rfl;infer_instance;(first|rfl|(simp only [List.length_append,List.length_map,List.length_set,List.length_replicate,List.length_cons,List.length_nil];first|done|omega)))|(apply RV.cellP;apply rfl;apply rfl;infer_instance;apply rfl)));apply rfl)|fail)
    exact ⟨_,PSub.drop (PSub.drop (PSub.refl _)),rfl,rfl⟩
  ·rw [if_neg hs]
   have hs1:¬hi < 55296:=fun h=>hs (.inl h)
   have hs2:¬57343 < hi:=fun h=>hs (.inr h)
   clear hs
   have hQ0:remX t p hi a 0=(((Z0q t p a 92).bind fun b _=>(Z0q t p b 117).bind fun d _=>(Zr t true p 4 d 0).bind fun e lo=>Gt.ok e (65536+1024*(hi - 55296)+lo - 56320)).bind fun a u=>Gt.ok a (utfL u)):=by
    rw [Z49]
    simp only [Z49]
    rfl
   have hQ1:=hQ0
   simp only [Gt.bind] at hQ1
   rw [←hQ1]
   clear hQ0 hQ1
   generalize hQ:remX t p hi a 0=Q
   repeat' (first|((first|apply T.mv|apply T.asn|apply T.fieldAddrZ);apply rfl;apply rfl)|(apply T.load;apply rfl;apply rfl;infer_instance;apply rfl;apply rfl)|((first|apply T.lss|apply T.gtr|apply T.neq|apply T.extract);(iterate 3 apply rfl))|(apply T.pickF;(iterate 3 apply rfl))|(apply T.storeW;apply rfl;apply rfl;infer_instance;(first|rfl|(simp only [List.length_append,List.length_map,List.length_set,List.length_replicate,List.length_cons,List.length_nil];first|done|omega));(first|rfl|(simp only [List.length_append,List.length_map,List.length_set,List.length_replicate,List.length_cons,List.length_nil];first|done|omega));(first|rfl|(repeat' first|apply all_nV|apply all_bV|apply all_iV|rfl|apply all_app)))|(apply T.alloc;apply rfl;intro nb)|(with_reducible first|refine Sr.nil ?_|refine S.seq ?_|refine S.block ?_|refine S.reg ?_|refine S.skip ?_)|(apply T.ungV;apply rfl;(first|with_reducible rfl|decide))|(apply S.condQ;apply rfl;all_goals (intro _;try (exfalso;first|omega|with_reducible contradiction)))|(apply T.gcase;apply rfl;apply rfl;all_goals (intro _;try (exfalso;first|omega|with_reducible contradiction)))|(with_reducible apply T.ofRet)|fail)
   refine S.loopE 0 [0,1,4,6,7,8] (fun R b' μ H' e=>∃ i:Nat,H'=R∧e=(9,.int .i64 i)::b'∧(i≤2∧a+i≤t.length∧remX t p hi a i=Q)∧μ=2 - i) rfl rfl ?_ _ _ ⟨0,rfl,rfl,⟨by omega,by omega,hQ⟩,rfl⟩ (by repeat' first|exact trivial|refine And.intro rfl ?_)
   rintro _ _ _ ⟨i,rfl,rfl,⟨k1,k2,k3⟩,rfl⟩ ih
   by_cases k4:i < 2
   ·have e3:(a:Int)+(i:Int)=((a+i:Nat):Int):=by omega
    repeat' (first|(apply T.addI;apply rfl;apply rfl;omega;apply rfl;rw [e3])|((first|apply T.mv|apply T.fieldAddrZ);apply rfl;apply rfl)|(apply T.load;apply rfl;apply rfl;infer_instance;apply rfl;apply rfl)|(apply T.lss;(iterate 3 apply rfl))|(with_reducible first|refine Sr.nil ?_|refine S.seq ?_|refine S.block ?_|refine S.reg ?_|refine S.skip ?_)|(apply S.condQ;apply rfl;all_goals (intro _;try (exfalso;first|omega|with_reducible contradiction)))|fail)
    refine T.call rfl rfl Z4 ?_
    rintro _ _ ⟨rfl,rfl⟩
    by_cases k5:a+i < t.length
    ·rw [ZB k5]
     rw [Z7b k5 k4] at k3
     by_cases k6:bAt t (a+i)=if i=0 then 92 else 117
     ·rw [if_pos k6] at k3
      have k7:(i=0→bAt t (a+i)=92)∧(i=1→bAt t (a+i)=117):=⟨fun e=>by rw [k6,if_pos e],fun e=>by rw [k6,if_neg (by omega)]⟩
      clear k6
      repeat' (first|((first|apply T.mv|apply T.asn);apply rfl;apply rfl)|((first|apply T.lss|apply T.eql|apply T.neq);(iterate 3 apply rfl))|(apply T.addI;apply rfl;apply rfl;omega;apply rfl)|(apply T.pickT;(iterate 3 apply rfl))|(apply T.pickF;(iterate 3 apply rfl))|(with_reducible first|refine Sr.nil ?_|refine S.seq ?_|refine S.reg ?_|refine S.skip ?_|refine S.inBlock ?_)|(apply T.ungV;apply rfl;(first|with_reducible rfl|decide))|(apply T.skip;apply rfl;(first|with_reducible rfl|decide);apply rfl)|(apply S.condFV;apply rfl;(first|with_reducible rfl|decide))|(apply S.condQ;apply rfl;all_goals (intro _;try (exfalso;first|omega|with_reducible contradiction)))|(apply T.gcase;apply rfl;apply rfl;all_goals (intro _;try (exfalso;first|omega|with_reducible contradiction)))|(with_reducible apply T.ofRet)|fail)
      all_goals exact ih _ _ _ _ ⟨i+1,rfl,rfl,⟨by omega,by omega,k3⟩,rfl⟩ (by omega) (by repeat' first|exact trivial|refine And.intro rfl ?_)
     ·rw [if_neg k6] at k3
      have k7:(i=0→¬bAt t (a+i)=92)∧(i=1→¬bAt t (a+i)=117):=⟨fun e=>by rw [if_pos e] at k6;exact k6,fun e=>by rw [if_neg (by omega)] at k6;exact k6⟩
      clear k6
      rw [←k3]
      repeat' (first|((first|apply T.mv|apply T.asn);apply rfl;apply rfl)|((first|apply T.lss|apply T.eql|apply T.neq);(iterate 3 apply rfl))|(apply T.pickT;(iterate 3 apply rfl))|(apply T.pickF;(iterate 3 apply rfl))|(with_reducible first|refine Sr.nil ?_|refine S.seq ?_|refine S.reg ?_|refine S.skip ?_)|(apply T.ungV;apply rfl;(first|with_reducible rfl|decide))|(apply T.skip;apply rfl;(first|with_reducible rfl|decide);apply rfl)|(apply T.skipU;apply rfl;apply rfl)|(apply S.condTV;apply rfl;(first|with_reducible rfl|decide))|(apply S.condQ;apply rfl;all_goals (intro _;try (exfalso;first|omega|with_reducible contradiction)))|(apply T.gcase;apply rfl;apply rfl;all_goals (intro _;try (exfalso;first|omega|with_reducible contradiction)))|(with_reducible apply T.ofRet)|fail)
      all_goals
       refine T.call rfl rfl Z5 ?_
       rintro _ _ ⟨rfl,rfl⟩
       repeat' (first|(apply T.storeW;apply rfl;apply rfl;infer_instance;(first|rfl|(simp only [List.length_append,List.length_map,List.length_set,List.length_replicate,List.length_cons,List.length_nil];first|done|omega));(first|rfl|(simp only [List.length_append,List.length_map,List.length_set,List.length_replicate,List.length_cons,List.length_nil];first|done|omega));(first|rfl|(repeat' first|apply all_nV|apply all_bV|apply all_iV|rfl|apply all_app)))|with_reducible refine Sr.nil ?_|(with_reducible apply T.ofRet)|(apply T.retC;apply rfl;((repeat' first|apply RV.nil|(apply RV.tmp;apply rfl)|(apply RV.cellW;apply rfl;apply rfl;infer_instance;(first|rfl|(simp only [List.length_append,List.length_map,List.length_set,List.length_replicate,List.length_cons,List.length_nil];first|done|omega)))|(apply RV.cellP;apply rfl;apply rfl;infer_instance;apply rfl)));apply rfl)|fail)
       exact ⟨_,PSub.drop (PSub.drop (PSub.refl _)),⟨[],rfl⟩,rfl⟩
    ·rw [ZX k5]
     rw [Z7Y k5 k2 k4] at k3
     rw [←k3]
     repeat' (first|((first|apply T.slen|apply T.mv|apply T.asn);apply rfl;apply rfl)|(apply T.lss;(iterate 3 apply rfl))|(with_reducible first|refine Sr.nil ?_|refine S.seq ?_|refine S.reg ?_)|(apply S.condTV;apply rfl;(first|with_reducible rfl|decide))|(with_reducible apply T.ofRet)|fail)
     refine T.call rfl rfl Z5 ?_
     rintro _ _ ⟨rfl,rfl⟩
     repeat' (first|(apply T.storeW;apply rfl;apply rfl;infer_instance;(first|rfl|(simp only [List.length_append,List.length_map,List.length_set,List.length_replicate,List.length_cons,List.length_nil];first|done|omega));(first|rfl|(simp only [List.length_append,List.length_map,List.length_set,List.length_replicate,List.length_cons,List.length_nil];first|done|omega));(first|rfl|(repeat' first|apply all_nV|apply all_bV|apply all_iV|rfl|apply all_app)))|with_reducible refine Sr.nil ?_|(with_reducible apply T.ofRet)|(apply T.retC;apply rfl;((repeat' first|apply RV.nil|(apply RV.tmp;apply rfl)|(apply RV.cellW;apply rfl;apply rfl;infer_instance;(first|rfl|(simp only [List.length_append,List.length_map,List.length_set,List.length_replicate,List.length_cons,List.length_nil];first|done|omega)))|(apply RV.cellP;apply rfl;apply rfl;infer_instance;apply rfl)));apply rfl)|fail)
     exact ⟨_,PSub.drop (PSub.drop (PSub.refl _)),⟨[],rfl⟩,rfl⟩
   ·obtain rfl:i=2:=by omega
    have e4:(a:Int)+2=((a+2:Nat):Int):=by omega
    have k8:remX t p hi a 2=(Zr t true p 4 (a+2) 0).bind fun e lo=>Gt.ok e (utfL (65536+1024*(hi - 55296)+lo - 56320)):=rfl
    rw [k8] at k3
    clear k8
    repeat' (first|(apply T.addI;apply rfl;apply rfl;omega;apply rfl;rw [e4])|((first|apply T.mv|apply T.fieldAddrZ);apply rfl;apply rfl)|(apply T.load;apply rfl;apply rfl;infer_instance;apply rfl;apply rfl)|(apply T.lss;(iterate 3 apply rfl))|(with_reducible first|refine Sr.nil ?_|refine S.seq ?_|refine S.reg ?_)|(apply S.exit;apply rfl)|(apply S.condFV;apply rfl;(first|with_reducible rfl|decide))|fail)
    refine T.call rfl rfl (Z3Y (low:=true) (L:=2) (fr:=p) (p:=a+2) rfl (by omega) hl) ?_
    cases hy:Zr t true p 4 (a+2) 0 with
    | bad c b =>
     rw [hy] at k3
     rw [←k3]
     have e5:65536+1024*((hi:Int) - 55296)+0 - 56320=((9216+1024*(hi - 55296):Nat):Int):=by omega
     rintro _ _ ⟨rfl,rfl⟩
     repeat' (first|(apply T.subI;apply rfl;apply rfl;omega;apply rfl;first|rw [e5]|skip)|((first|apply T.mv|apply T.asn);apply rfl;apply rfl)|(apply T.addI;apply rfl;apply rfl;omega;apply rfl)|(apply T.mulI;apply rfl;apply rfl;omega;apply rfl)|(apply T.extract;(iterate 3 apply rfl))|(apply T.storeW;apply rfl;apply rfl;infer_instance;(first|rfl|(simp only [List.length_append,List.length_map,List.length_set,List.length_replicate,List.length_cons,List.length_nil];first|done|omega));(first|rfl|(simp only [List.length_append,List.length_map,List.length_set,List.length_replicate,List.length_cons,List.length_nil];first|done|omega));(first|rfl|(repeat' first|apply all_nV|apply all_bV|apply all_iV|rfl|apply all_app)))|(apply T.alloc;apply rfl;intro nb)|(with_reducible first|refine Sr.nil ?_|refine S.seq ?_|refine S.reg ?_)|(with_reducible apply T.ofRet)|fail)
     refine T.call rfl rfl (Z1d (u:=9216+1024*(hi - 55296)) (by omega)) ?_
     rintro _ _ ⟨rfl,rfl⟩
     repeat' (first|(apply T.fieldAddrZ;apply rfl;apply rfl)|(apply T.loadW;apply rfl;apply rfl;infer_instance;(first|rfl|(simp only [List.length_append,List.length_map,List.length_set,List.length_replicate,List.length_cons,List.length_nil];first|done|omega));apply rfl)|(apply T.storeW;apply rfl;apply rfl;infer_instance;(first|rfl|(simp only [List.length_append,List.length_map,List.length_set,List.length_replicate,List.length_cons,List.length_nil];first|done|omega));(first|rfl|(simp only [List.length_append,List.length_map,List.length_set,List.length_replicate,List.length_cons,List.length_nil];first|done|omega));(first|rfl|(repeat' first|apply all_nV|apply all_bV|apply all_iV|rfl|apply all_app)))|(apply T.store;apply rfl;apply rfl;infer_instance;(first|decide|(simp;omega)|simp);apply rfl)|(with_reducible first|refine Sr.nil ?_|refine S.seq ?_|refine S.reg ?_)|(with_reducible apply T.ofRet)|(apply T.retC;apply rfl;((repeat' first|apply RV.nil|(apply RV.tmp;apply rfl)|(apply RV.cellW;apply rfl;apply rfl;infer_instance;(first|rfl|(simp only [List.length_append,List.length_map,List.length_set,List.length_replicate,List.length_cons,List.length_nil];first|done|omega)))|(apply RV.cellP;apply rfl;apply rfl;infer_instance;apply rfl)));apply rfl)|fail)
     exact ⟨_,PSub.drop (PSub.drop (PSub.drop (PSub.refl _))),⟨_,rfl⟩,rfl⟩
    | ok e lo =>
     rw [hy] at k3
     rw [←k3]
     obtain ⟨q1,q2⟩:=Z3m hy
     have e5:65536+1024*((hi:Int) - 55296)+(lo:Int) - 56320=((65536+1024*(hi - 55296)+lo - 56320:Nat):Int):=by omega
     rintro _ _ ⟨rfl,rfl⟩
     repeat' (first|(apply T.subI;apply rfl;apply rfl;omega;apply rfl;first|rw [e5]|skip)|((first|apply T.mv|apply T.asn);apply rfl;apply rfl)|(apply T.addI;apply rfl;apply rfl;omega;apply rfl)|(apply T.mulI;apply rfl;apply rfl;omega;apply rfl)|(apply T.extract;(iterate 3 apply rfl))|(apply T.storeW;apply rfl;apply rfl;infer_instance;(first|rfl|(simp only [List.length_append,List.length_map,List.length_set,List.length_replicate,List.length_cons,List.length_nil];first|done|omega));(first|rfl|(simp only [List.length_append,List.length_map,List.length_set,List.length_replicate,List.length_cons,List.length_nil];first|done|omega));(first|rfl|(repeat' first|apply all_nV|apply all_bV|apply all_iV|rfl|apply all_app)))|(apply T.alloc;apply rfl;intro nb)|(with_reducible first|refine Sr.nil ?_|refine S.seq ?_|refine S.reg ?_)|(with_reducible apply T.ofRet)|fail)
     refine T.call rfl rfl (Z1d (u:=65536+1024*(hi - 55296)+lo - 56320) (by omega)) ?_
     rintro _ _ ⟨rfl,rfl⟩
     repeat' (first|(apply T.fieldAddrZ;apply rfl;apply rfl)|(apply T.loadW;apply rfl;apply rfl;infer_instance;(first|rfl|(simp only [List.length_append,List.length_map,List.length_set,List.length_replicate,List.length_cons,List.length_nil];first|done|omega));apply rfl)|(apply T.storeW;apply rfl;apply rfl;infer_instance;(first|rfl|(simp only [List.length_append,List.length_map,List.length_set,List.length_replicate,List.length_cons,List.length_nil];first|done|omega));(first|rfl|(simp only [List.length_append,List.length_map,List.length_set,List.length_replicate,List.length_cons,List.length_nil];first|done|omega));(first|rfl|(repeat' first|apply all_nV|apply all_bV|apply all_iV|rfl|apply all_app)))|(apply T.store;apply rfl;apply rfl;infer_instance;(first|decide|(simp;omega)|simp);apply rfl)|(with_reducible first|refine Sr.nil ?_|refine S.seq ?_|refine S.reg ?_)|(with_reducible apply T.ofRet)|(apply T.retC;apply rfl;((repeat' first|apply RV.nil|(apply RV.tmp;apply rfl)|(apply RV.cellW;apply rfl;apply rfl;infer_instance;(first|rfl|(simp only [List.length_append,List.length_map,List.length_set,List.length_replicate,List.length_cons,List.length_nil];first|done|omega)))|(apply RV.cellP;apply rfl;apply rfl;infer_instance;apply rfl)));apply rfl)|fail)
     exact ⟨_,PSub.drop (PSub.drop (PSub.drop (PSub.refl _))),rfl,rfl⟩
end
end Go.Proofs.YthomgjihagigcaaGreatDoor
/- The walks of the document's reader of JSON: strings. -/
namespace Go.Proofs.YthomgjihagigcaaGreatDoor
open Sg Go.IntWalk
set_option maxRecDepth 100000
set_option maxHeartbeats 4000000
section
variable {F:World} {M:List Nat} {H:List Res} {t:List UInt8} {p:Nat}
theorem Z2u (hp:p < t.length) (hl:t.length≤1000000000):Meets Tryz.prog 145 [sV t,.int .i64 p] F M H (fun e H'=>GoE ((escX t p).bind fun a u=>.ok a (utfL u)) e∧H'=H):=by
 by_cases h:bAt t (p+1)=117
 ·exact Z42 hp hl h
 ·exact Z43 hp hl h
theorem Z2A {fr q:Nat} {ch:UInt8} {c:Int} {b:Nat} (h:Z0q t fr q ch=.bad c b):c≠0:=by
 unfold Z0q at h
 split at h
 ·cases h;decide
 ·split at h
  ·cases h
  ·cases h;decide
theorem Z6S {fr:Nat} {c:Int} {b:Nat} (h:escX t fr=.bad c b):c≠0:=by
 have key:∀ {α β:Type} {g:Gt α} {f:Nat→α→Gt β},(g.bind f=.bad c b)→(g=.bad c b)∨∃ a v,g=.ok a v∧f a v=.bad c b:=fun {α β g f} h=>by
  cases g with
  | bad c' b'=>cases h;exact .inl rfl
  | ok a v=>exact .inr ⟨a,v,rfl,h⟩
 unfold escX at h
 split at h
 ·cases h;decide
 ·split at h
  ·unfold Z0G at h
   rcases key h with h|⟨a,v,_,h⟩
   ·exact Z0U h
   ·split at h
    ·cases h
    ·rcases key h with h|⟨a,v,_,h⟩
     ·exact Z2A h
     ·rcases key h with h|⟨a,v,_,h⟩
      ·exact Z2A h
      ·rcases key h with h|⟨a,v,_,h⟩
       ·exact Z0U h
       ·cases h
  ·split at h
   ·cases h
   ·cases h;decide
theorem Z3z {fr:Nat}:∀ {k q lo hi:Nat} {c:Int} {b:Nat},seqX t fr k q lo hi=.bad c b→c≠0
 | 0,q,lo,hi,c,b,h=>by rw [seqX] at h;cases h
 | k+1,q,lo,hi,c,b,h=>by
  rw [seqX] at h
  split at h
  ·cases h;decide
  ·split at h
   ·cases h;decide
   ·exact Z3z h
theorem Z5z {q:Nat} {ch:UInt8} {c:Int} {b:Nat} (h:Z0g t q ch=.bad c b):c≠0:=by
 unfold Z0g at h
 split at h
 ·cases h;decide
 ·exact Z3z h
theorem Z10 (hp:p≤t.length) (hl:t.length≤262144):Meets Tryz.prog 132 [sV t,.int .i64 p] F M H (fun e H'=>GoE (Zo t p) e∧H'=H):=by
 refine Meets.enter Tryz.func132 rfl rfl ?_
 unfold Zo
 generalize hQ:ZI t (t.length+1 - p) p []=Q
 refine S.nilrow 5 1 ?_
 repeat' (first|(apply T.asn;apply rfl;apply rfl)|(apply T.alloc;apply rfl;intro nb)|(with_reducible first|refine Sr.nil ?_|refine S.seq ?_|refine S.block ?_|refine S.reg ?_)|fail)
 refine S.frontR none ?_
 refine S.loopE 1 [0,4] (fun R b' μ H' e=>∃ (q f:Nat) (acc:List UInt8) (ad:Option Addr) (cp nn:Nat),H'=.row ad cp 5 1 nn (acc.map bV)::R∧e=(1,.int .i64 q)::(5,.slice ad nn cp)::b'∧(q≤t.length∧t.length < q+f∧acc.length=nn∧nn≤4*q∧ZI t f q acc=Q)∧μ=t.length - q) rfl rfl ?_ _ _ ⟨p,t.length+1 - p,[],none,0,0,rfl,rfl,⟨hp,by omega,rfl,by omega,hQ⟩,rfl⟩ (by repeat' first|exact trivial|refine And.intro rfl ?_)
 rintro _ _ _ ⟨q,f,acc,ad,cp,nn,rfl,rfl,⟨h1,h2,h3,h4,h5⟩,rfl⟩ ih
 subst h3
 obtain ⟨f,rfl⟩:∃ g,f=g+1:=⟨f - 1,by omega⟩
 repeat' (first|(apply T.mv;apply rfl;apply rfl)|(with_reducible first|refine S.seq ?_|refine S.block ?_|refine S.reg ?_)|fail)
 refine T.call rfl rfl Z4 ?_
 rintro _ _ ⟨rfl,rfl⟩
 rcases Nat.lt_or_ge q t.length with h6|h6
 ·have hq:t[q]?=some (t.getD q 0):=by simp [List.getD,h6]
  have hu:=(t.getD q 0).toNat_lt
  have hb:bAt t q=(t.getD q 0).toNat:=rfl
  rw [Z25 hq] at h5
  rw [ZB h6,hb]
  by_cases c1:(t.getD q 0).toNat < 32
  ·rw [if_pos c1] at h5
   rw [←h5]
   repeat' (first|((first|apply T.mv|apply T.asn);apply rfl;apply rfl)|(apply T.lss;(iterate 3 apply rfl))|(apply T.alloc;apply rfl;intro nb)|(with_reducible first|refine Sr.nil ?_|refine S.seq ?_|refine S.block ?_|refine S.reg ?_)|(apply S.condQ;apply rfl;all_goals (intro _;try (exfalso;first|omega|with_reducible contradiction)))|(with_reducible apply T.ofRet)|fail)
   refine T.call rfl rfl Z5 ?_
   rintro _ _ ⟨rfl,rfl⟩
   repeat' (first|(apply T.storeW;apply rfl;apply rfl;infer_instance;(first|rfl|(simp only [List.length_append,List.length_map,List.length_set,List.length_replicate,List.length_cons,List.length_nil];first|done|omega));(first|rfl|(simp only [List.length_append,List.length_map,List.length_set,List.length_replicate,List.length_cons,List.length_nil];first|done|omega));(first|rfl|(repeat' first|apply all_nV|apply all_bV|apply all_iV|rfl|apply all_app)))|with_reducible refine Sr.nil ?_|(with_reducible apply T.ofRet)|(apply T.retC;apply rfl;((repeat' first|apply RV.nil|(apply RV.tmp;apply rfl)|(apply RV.cellW;apply rfl;apply rfl;infer_instance;(first|rfl|(simp only [List.length_append,List.length_map,List.length_set,List.length_replicate,List.length_cons,List.length_nil];first|done|omega)))|(apply RV.cellP;apply rfl;apply rfl;infer_instance;apply rfl)));apply rfl)|fail)
   exact ⟨_,PSub.drop (PSub.drop (PSub.drop (PSub.refl _))),⟨[],rfl⟩,rfl⟩
  rw [if_neg c1] at h5
  by_cases c2:(t.getD q 0).toNat=34
  ·rw [if_pos c2] at h5
   rw [←h5]
   repeat' (first|(refine T.convS (xs:=acc) rfl inferInstance rfl rfl ?_)|((first|apply T.mv|apply T.asn);apply rfl;apply rfl)|((first|apply T.lss|apply T.eql);(iterate 3 apply rfl))|(apply T.addI;apply rfl;apply rfl;omega;apply rfl)|(apply T.buildL;(iterate 3 apply rfl))|(apply T.storeW;apply rfl;apply rfl;infer_instance;(first|rfl|(simp only [List.length_append,List.length_map,List.length_set,List.length_replicate,List.length_cons,List.length_nil];first|done|omega));(first|rfl|(simp only [List.length_append,List.length_map,List.length_set,List.length_replicate,List.length_cons,List.length_nil];first|done|omega));(first|rfl|(repeat' first|apply all_nV|apply all_bV|apply all_iV|rfl|apply all_app)))|(apply T.alloc;apply rfl;intro nb)|(with_reducible first|refine Sr.nil ?_|refine S.seq ?_|refine S.block ?_|refine S.reg ?_)|(apply S.condQ;apply rfl;all_goals (intro _;try (exfalso;first|omega|with_reducible contradiction)))|(with_reducible apply T.ofRet)|(apply T.retC;apply rfl;((repeat' first|apply RV.nil|(apply RV.tmp;apply rfl)|(apply RV.cellW;apply rfl;apply rfl;infer_instance;(first|rfl|(simp only [List.length_append,List.length_map,List.length_set,List.length_replicate,List.length_cons,List.length_nil];first|done|omega)))|(apply RV.cellP;apply rfl;apply rfl;infer_instance;apply rfl)));apply rfl)|fail)
   exact ⟨_,PSub.drop (PSub.drop (PSub.drop (PSub.refl _))),rfl,rfl⟩
  rw [if_neg c2] at h5
  by_cases c3:(t.getD q 0).toNat=92
  ·rw [if_pos c3] at h5
   repeat' (first|((first|apply T.mv|apply T.asn);apply rfl;apply rfl)|((first|apply T.lss|apply T.eql);(iterate 3 apply rfl))|(apply T.alloc;apply rfl;intro nb)|(with_reducible first|refine Sr.nil ?_|refine S.seq ?_|refine S.block ?_|refine S.reg ?_)|(apply S.condQ;apply rfl;all_goals (intro _;try (exfalso;first|omega|with_reducible contradiction)))|(with_reducible apply T.ofRet)|fail)
   refine T.call rfl rfl (Z2u h6 (by omega)) ?_
   have hfit:=Z0n (t:=t) (fr:=q)
   cases hx:escX t q with
   | bad e1 q1 =>
    have hc:=Z6S hx
    rw [hx] at h5
    rw [←h5]
    rintro _ _ ⟨⟨s,rfl⟩,rfl⟩
    repeat' (first|(apply T.fieldAddrZ;apply rfl;apply rfl)|(apply T.load;apply rfl;apply rfl;infer_instance;apply rfl;apply rfl)|(apply T.neq;(iterate 3 apply rfl))|(apply T.loadW;apply rfl;apply rfl;infer_instance;(first|rfl|(simp only [List.length_append,List.length_map,List.length_set,List.length_replicate,List.length_cons,List.length_nil];first|done|omega));apply rfl)|(apply T.storeW;apply rfl;apply rfl;infer_instance;(first|rfl|(simp only [List.length_append,List.length_map,List.length_set,List.length_replicate,List.length_cons,List.length_nil];first|done|omega));(first|rfl|(simp only [List.length_append,List.length_map,List.length_set,List.length_replicate,List.length_cons,List.length_nil];first|done|omega));(first|rfl|(repeat' first|apply all_nV|apply all_bV|apply all_iV|rfl|apply all_app)))|(with_reducible first|refine Sr.nil ?_|refine S.seq ?_|refine S.reg ?_|refine S.inBlock ?_)|(apply S.condQ;apply rfl;all_goals (intro _;try (exfalso;first|omega|with_reducible contradiction)))|(with_reducible apply T.ofRet)|(apply T.retC;apply rfl;((repeat' first|apply RV.nil|(apply RV.tmp;apply rfl)|(apply RV.cellW;apply rfl;apply rfl;infer_instance;(first|rfl|(simp only [List.length_append,List.length_map,List.length_set,List.length_replicate,List.length_cons,List.length_nil];first|done|omega)))|(apply RV.cellP;apply rfl;apply rfl;infer_instance;apply rfl)));apply rfl)|fail)
    exact ⟨_,PSub.drop (PSub.drop (PSub.drop (PSub.refl _))),⟨s,rfl⟩,rfl⟩
   | ok a1 u =>
    rw [hx] at h5
    have h5':ZI t f a1 (acc++utfL u)=Q:=h5
    obtain ⟨r3,r4⟩:=hfit a1 u hx
    have hle:=Z35 u
    rintro _ _ ⟨rfl,rfl⟩
    repeat' (first|(apply T.appendS;apply rfl;apply rfl;infer_instance;omega;apply rfl;intro na nc)|((first|apply T.mv|apply T.asn|apply T.fieldAddrZ);apply rfl;apply rfl)|(apply T.load;apply rfl;apply rfl;infer_instance;apply rfl;apply rfl)|(apply T.neq;(iterate 3 apply rfl))|(apply T.storeW;apply rfl;apply rfl;infer_instance;(first|rfl|(simp only [List.length_append,List.length_map,List.length_set,List.length_replicate,List.length_cons,List.length_nil];first|done|omega));(first|rfl|(simp only [List.length_append,List.length_map,List.length_set,List.length_replicate,List.length_cons,List.length_nil];first|done|omega));(first|rfl|(repeat' first|apply all_nV|apply all_bV|apply all_iV|rfl|apply all_app)))|(with_reducible first|refine Sr.nil ?_|refine S.seq ?_|refine S.reg ?_|refine S.skip ?_|refine S.inBlock ?_)|(apply S.condFV;apply rfl;(first|with_reducible rfl|decide))|(with_reducible apply T.ofRet)|fail)
    refine S.sublist ?_ (PSub.drop (PSub.refl _))
    exact ih _ _ _ _ ⟨a1,f,acc++utfL u,na,nc,_,rfl,rfl,⟨r4,by omega,by rw [List.length_append],by omega,h5'⟩,rfl⟩ (by omega) (by repeat' first|exact trivial|refine And.intro rfl ?_)
  rw [if_neg c3] at h5
  by_cases c4:(t.getD q 0).toNat < 128
  ·rw [if_pos c4] at h5
   have e1:(q:Int)+1=((q+1:Nat):Int):=by omega
   have hl1:([t.getD q 0]:List UInt8).length=1:=rfl
   have hs:(t.drop q).take (q+1 - q)=[t.getD q 0]:=by
    rw [show q+1 - q=1 by omega,List.take_one,List.head?_drop,hq]
    rfl
   repeat' (first|(apply T.addI;apply rfl;apply rfl;omega;apply rfl;rw [e1])|(apply T.sslice;(iterate 3 apply rfl);omega;apply rfl;rw [hs])|(apply T.appendS;apply rfl;apply rfl;infer_instance;omega;apply rfl;intro na nc)|((first|apply T.mv|apply T.asn|apply T.fieldAddrZ);apply rfl;apply rfl)|(apply T.load;apply rfl;apply rfl;infer_instance;apply rfl;apply rfl)|((first|apply T.lss|apply T.eql|apply T.neq);(iterate 3 apply rfl))|(apply T.buildL;(iterate 3 apply rfl))|(apply T.storeW;apply rfl;apply rfl;infer_instance;(first|rfl|(simp only [List.length_append,List.length_map,List.length_set,List.length_replicate,List.length_cons,List.length_nil];first|done|omega));(first|rfl|(simp only [List.length_append,List.length_map,List.length_set,List.length_replicate,List.length_cons,List.length_nil];first|done|omega));(first|rfl|(repeat' first|apply all_nV|apply all_bV|apply all_iV|rfl|apply all_app)))|(apply T.alloc;apply rfl;intro nb)|(with_reducible first|refine Sr.nil ?_|refine S.seq ?_|refine S.block ?_|refine S.reg ?_|refine S.skip ?_|refine S.inBlock ?_)|(apply S.condFV;apply rfl;(first|with_reducible rfl|decide))|(apply S.condQ;apply rfl;all_goals (intro _;try (exfalso;first|omega|with_reducible contradiction)))|(with_reducible apply T.ofRet)|fail)
   refine S.sublist ?_ (PSub.drop (PSub.refl _))
   exact ih _ _ _ _ ⟨q+1,f,acc++[t.getD q 0],na,nc,acc.length+1,rfl,rfl,⟨by omega,by omega,by simp,by omega,h5⟩,rfl⟩ (by omega) (by repeat' first|exact trivial|refine And.intro rfl ?_)
  rw [if_neg c4] at h5
  repeat' (first|((first|apply T.mv|apply T.asn);apply rfl;apply rfl)|((first|apply T.lss|apply T.eql);(iterate 3 apply rfl))|(apply T.alloc;apply rfl;intro nb)|(with_reducible first|refine Sr.nil ?_|refine S.seq ?_|refine S.block ?_|refine S.reg ?_)|(apply S.condQ;apply rfl;all_goals (intro _;try (exfalso;first|omega|with_reducible contradiction)))|(with_reducible apply T.ofRet)|fail)
  refine T.call rfl rfl (Z1K h6 (by omega)) ?_
  have hfit:=ZY (t:=t) (p:=q) (c:=t.getD q 0) h6
  cases hx:Z0g t q (t.getD q 0) with
  | bad e1 q1 =>
   have hc:=Z5z hx
   rw [hx] at h5
   rw [←h5]
   rintro _ _ ⟨rfl,rfl⟩
   repeat' (first|(apply T.fieldAddrZ;apply rfl;apply rfl)|(apply T.load;apply rfl;apply rfl;infer_instance;apply rfl;apply rfl)|(apply T.neq;(iterate 3 apply rfl))|(apply T.loadW;apply rfl;apply rfl;infer_instance;(first|rfl|(simp only [List.length_append,List.length_map,List.length_set,List.length_replicate,List.length_cons,List.length_nil];first|done|omega));apply rfl)|(apply T.storeW;apply rfl;apply rfl;infer_instance;(first|rfl|(simp only [List.length_append,List.length_map,List.length_set,List.length_replicate,List.length_cons,List.length_nil];first|done|omega));(first|rfl|(simp only [List.length_append,List.length_map,List.length_set,List.length_replicate,List.length_cons,List.length_nil];first|done|omega));(first|rfl|(repeat' first|apply all_nV|apply all_bV|apply all_iV|rfl|apply all_app)))|(with_reducible first|refine Sr.nil ?_|refine S.seq ?_|refine S.reg ?_|refine S.inBlock ?_)|(apply S.condQ;apply rfl;all_goals (intro _;try (exfalso;first|omega|with_reducible contradiction)))|(with_reducible apply T.ofRet)|(apply T.retC;apply rfl;((repeat' first|apply RV.nil|(apply RV.tmp;apply rfl)|(apply RV.cellW;apply rfl;apply rfl;infer_instance;(first|rfl|(simp only [List.length_append,List.length_map,List.length_set,List.length_replicate,List.length_cons,List.length_nil];first|done|omega)))|(apply RV.cellP;apply rfl;apply rfl;infer_instance;apply rfl)));apply rfl)|fail)
   exact ⟨_,PSub.drop (PSub.drop (PSub.drop (PSub.refl _))),⟨[],rfl⟩,rfl⟩
  | ok a1 u =>
   rw [hx] at h5
   have h5':ZI t f a1 (acc++(t.drop q).take (a1 - q))=Q:=h5
   obtain ⟨r3,r4⟩:=hfit a1 u hx
   have hl2:((t.drop q).take (a1 - q)).length=a1 - q:=by rw [List.length_take,List.length_drop];omega
   rintro _ _ ⟨rfl,rfl⟩
   repeat' (first|(apply T.appendS;apply rfl;apply rfl;infer_instance;omega;apply rfl;intro na nc)|((first|apply T.mv|apply T.asn|apply T.fieldAddrZ);apply rfl;apply rfl)|(apply T.load;apply rfl;apply rfl;infer_instance;apply rfl;apply rfl)|(apply T.neq;(iterate 3 apply rfl))|(apply T.storeW;apply rfl;apply rfl;infer_instance;(first|rfl|(simp only [List.length_append,List.length_map,List.length_set,List.length_replicate,List.length_cons,List.length_nil];first|done|omega));(first|rfl|(simp only [List.length_append,List.length_map,List.length_set,List.length_replicate,List.length_cons,List.length_nil];first|done|omega));(first|rfl|(repeat' first|apply all_nV|apply all_bV|apply all_iV|rfl|apply all_app)))|(with_reducible first|refine Sr.nil ?_|refine S.seq ?_|refine S.reg ?_|refine S.skip ?_|refine S.inBlock ?_)|(apply S.condFV;apply rfl;(first|with_reducible rfl|decide))|(with_reducible apply T.ofRet)|fail)
   refine S.sublist ?_ (PSub.drop (PSub.refl _))
   exact ih _ _ _ _ ⟨a1,f,acc++(t.drop q).take (a1 - q),na,nc,_,rfl,rfl,⟨r4,by omega,by rw [List.length_append],by omega,h5'⟩,rfl⟩ (by omega) (by repeat' first|exact trivial|refine And.intro rfl ?_)
 ·obtain rfl:q=t.length:=by omega
  have h7:ZI t (f+1) t.length acc=.bad 31 t.length:=by rw [ZI,List.getElem?_eq_none (Nat.le_refl _)]
  rw [h7] at h5
  rw [←h5,ZX (by omega)]
  repeat' (first|((first|apply T.mv|apply T.asn);apply rfl;apply rfl)|(apply T.lss;(iterate 3 apply rfl))|(apply T.alloc;apply rfl;intro nb)|(with_reducible first|refine Sr.nil ?_|refine S.seq ?_|refine S.block ?_|refine S.reg ?_)|(apply S.condTV;apply rfl;(first|with_reducible rfl|decide))|(with_reducible apply T.ofRet)|fail)
  refine T.call rfl rfl Z5 ?_
  rintro _ _ ⟨rfl,rfl⟩
  repeat' (first|(apply T.storeW;apply rfl;apply rfl;infer_instance;(first|rfl|(simp only [List.length_append,List.length_map,List.length_set,List.length_replicate,List.length_cons,List.length_nil];first|done|omega));(first|rfl|(simp only [List.length_append,List.length_map,List.length_set,List.length_replicate,List.length_cons,List.length_nil];first|done|omega));(first|rfl|(repeat' first|apply all_nV|apply all_bV|apply all_iV|rfl|apply all_app)))|with_reducible refine Sr.nil ?_|(with_reducible apply T.ofRet)|(apply T.retC;apply rfl;((repeat' first|apply RV.nil|(apply RV.tmp;apply rfl)|(apply RV.cellW;apply rfl;apply rfl;infer_instance;(first|rfl|(simp only [List.length_append,List.length_map,List.length_set,List.length_replicate,List.length_cons,List.length_nil];first|done|omega)))|(apply RV.cellP;apply rfl;apply rfl;infer_instance;apply rfl)));apply rfl)|fail)
  exact ⟨_,PSub.drop (PSub.drop (PSub.drop (PSub.refl _))),⟨[],rfl⟩,rfl⟩
end
end Go.Proofs.YthomgjihagigcaaGreatDoor
/- A literal of records is a growable row. -/
namespace Sg
open Go Go.RowKit
theorem St.blkRowN {F:World} {M:List Nat} {w:World} {H:List Res} {b n sz:Nat} {vs:List Value} {E:TypeId} (h:St F M w (.blk b vs E::H)) (hn:vs.length=n*sz) (hm:n≤maxLen):St F M w (.row (some ⟨b,0,none⟩) n E sz n vs::H):=by
 refine h.weakB (fun _ h=>h) h.nd (fun r hr=>?_)
 rcases List.mem_cons.1 hr with rfl|hr
 ·have hb:w.heap[b]?=some (.cells ⟨vs⟩ E (0,0)):=h.res _ (List.mem_cons_self ..)
  exact ⟨hn,.inr ⟨b,n,⟨vs⟩,rfl,Nat.zero_le _,hb,Nat.le_refl _,hm,by simp [hn],by simp only [Nat.zero_mul,List.drop_zero,Nat.zero_add];rw [←hn];exact List.take_length⟩⟩
 ·exact h.res r (List.mem_cons_of_mem _ hr)
section
variable {c:Ctx} {dr:Bool} {ds:List Deferred} {H:List Res} {e:Env} {ops:Array Oper} {l:List Oper} {κ:List Res→Env→Prop}
theorem Sr.rowOfN {b n sz:Nat} {vs:List Value} {E:TypeId} (hn:vs.length=n*sz) (hm:n≤maxLen) (h:Sr (.eff dr) c ds (.row (some ⟨b,0,none⟩) n E sz n vs::H) ops l κ e):Sr (.eff dr) c ds (.blk b vs E::H) ops l κ e:=h.weaken fun _ hw=>hw.blkRowN hn hm
end
end Sg
/- The walks of the document's reader of JSON: words. -/
namespace Go.Proofs.YthomgjihagigcaaGreatDoor
open Sg Go.IntWalk
set_option maxRecDepth 100000
set_option maxHeartbeats 4000000
def VaE (H:List Res):Gt (List Nd)→Ending→List Res→Prop
 | .ok a l=>fun e H'=>∃ oa oc s,e=.returned (.agg ⟨goV a (.slice oa l.length oc) s 0 0⟩)∧H'=ouR oa oc l::H
 | .bad c b=>fun e H'=>∃ s,e=.returned (.agg ⟨goV 0 noL s c b⟩)∧H'=H
section
variable {F:World} {M:List Nat} {H:List Res} {t:List UInt8} {p:Nat}
theorem Z01 {w:List UInt8} {kd:Nat} (hw:∀ x∈w,x≠0) (hwl:w.length≤100) (hp:p≤t.length) (hl:t.length≤262144):Meets Tryz.prog 134 [sV t,.int .i64 p,sV w,.int .i64 kd] F M H (VaE H ((ZL t p w).bind fun a _=>.ok a [nd kd])):=by
 refine Meets.enter Tryz.func134 rfl rfl ?_
 generalize hQ:ZL t p w=Q
 repeat' (first|(apply T.asn;apply rfl;apply rfl)|(apply T.alloc;apply rfl;intro nb)|(with_reducible first|refine Sr.nil ?_|refine S.seq ?_|refine S.block ?_|refine S.reg ?_)|fail)
 refine S.loopE 0 [0,1,2,3,8] (fun R b' μ H' e=>∃ i:Nat,H'=R∧e=(9,.int .i64 i)::b'∧(i≤w.length∧p+i≤t.length∧ZL t (p+i) (w.drop i)=Q)∧μ=w.length - i) rfl rfl ?_ _ _ ⟨0,rfl,rfl,⟨Nat.zero_le _,hp,hQ⟩,rfl⟩ (by repeat' first|exact trivial|refine And.intro rfl ?_)
 rintro _ _ _ ⟨i,rfl,rfl,⟨h1,h2,h3⟩,rfl⟩ ih
 by_cases h4:i < w.length
 ·have hg:w.drop i=w.getD i 0::w.drop (i+1):=by
   rw [List.drop_eq_getElem_cons h4]
   simp [List.getD,h4]
  have hne:w.getD i 0≠0:=by
   rw [List.getD_eq_getElem?_getD,List.getElem?_eq_getElem h4]
   exact hw _ (List.getElem_mem h4)
  have hwu:=(w.getD i 0).toNat_lt
  have hne':(w.getD i 0).toNat≠0:=fun e=>hne (UInt8.toNat_inj.1 e)
  rw [hg,Z2y hne] at h3
  have hu:=Z14 t (p+i)
  have e1:(p:Int)+(i:Int)=((p+i:Nat):Int):=by omega
  have n1:∀ {X:List Res},Meets Tryz.prog 129 [sV t,.int .i64 ((p+i:Nat):Int)] F M X (fun e H'=>e=.returned (.int .i64 (Z1E t (p+i)))∧H'=X):=Z4
  by_cases h5:bAt t (p+i)=(w.getD i 0).toNat
  ·rw [if_pos h5] at h3
   have hlt:=Z7 (t:=t) (p:=p+i) (by rw [h5];exact hne')
   have hb:=ZB hlt
   repeat' (first|((first|apply T.slen|apply T.mv);apply rfl;apply rfl)|(apply T.lss;(iterate 3 apply rfl))|(with_reducible first|refine Sr.nil ?_|refine S.seq ?_|refine S.block ?_|refine S.reg ?_|refine S.skip ?_)|(apply S.condQ;apply rfl;all_goals (intro _;try (exfalso;first|omega|with_reducible contradiction)))|fail)
   (apply S.draw;(case Hs=>exact []);(case es=>exact  [4]);(case n=>exact  10);(case hn=>rfl))
   repeat' (first|(apply T.addI;apply rfl;apply rfl;omega;apply rfl;rw [e1])|(apply T.call;apply rfl;apply rfl;with_reducible exact n1;rintro _ _ ⟨rfl,rfl⟩;rw [hb])|(apply T.sidx;apply rfl;apply rfl;omega;apply rfl)|((first|apply T.mv|apply T.asn);apply rfl;apply rfl)|(apply T.neq;(iterate 3 apply rfl))|(apply T.addI;apply rfl;apply rfl;omega;apply rfl)|(apply T.convI64;apply rfl;omega;apply rfl)|(with_reducible first|refine Sr.nil ?_|refine S.reg ?_|refine S.skip ?_|refine S.inBlock ?_)|(apply S.condQ;apply rfl;all_goals (intro _;try (exfalso;first|omega|with_reducible contradiction)))|(with_reducible apply T.ofRet)|(apply SA.qn;(iterate 4 apply rfl);kernel_rfl)|(apply SA.qz;(iterate 4 apply rfl);kernel_rfl)|(apply SA.qsn;(iterate 3 apply rfl);kernel_rfl;(first|exact fun _ h=>h|exact fun _ h=>St.psub h (by ((repeat (first|dsimp only [List.set_cons_zero]|dsimp only [List.set_cons_succ]));repeat' first|exact PSub.refl _|exact PSub.nil|(apply PSub.take;(repeat' first|(with_reducible exact Z0)|(with_reducible apply Z1)))|(with_reducible apply PSub.drop)|((apply PSub.take);(repeat' first|exact Z0|(apply Z1)))))))|(apply SA.en;apply rfl;apply rfl;kernel_rfl)|(apply SA.done;apply rfl;kernel_rfl)|(apply SK.intro;(first|exact fun _ h=>h|exact fun _ h=>St.psub h (by ((repeat (first|dsimp only [List.set_cons_zero]|dsimp only [List.set_cons_succ]));repeat' first|exact PSub.refl _|exact PSub.nil|(apply PSub.take;(repeat' first|(with_reducible exact Z0)|(with_reducible apply Z1)))|(with_reducible apply PSub.drop)|((apply PSub.take);(repeat' first|exact Z0|(apply Z1)))))))|fail)
   exact ih _ _ _ _ ⟨i+1,rfl,rfl,⟨by omega,by omega,h3⟩,rfl⟩ (by omega) (by repeat' first|exact trivial|refine And.intro rfl ?_)
  ·rw [if_neg h5] at h3
   rw [←h3]
   have e2:((p+i:Nat):Int)=(p:Int)+(i:Int):=by omega
   by_cases hlt:p+i < t.length
   ·have hb:=ZB hlt
    repeat' (first|((first|apply T.slen|apply T.mv);apply rfl;apply rfl)|(apply T.lss;(iterate 3 apply rfl))|(with_reducible first|refine Sr.nil ?_|refine S.seq ?_|refine S.block ?_|refine S.reg ?_|refine S.skip ?_)|(apply S.condQ;apply rfl;all_goals (intro _;try (exfalso;first|omega|with_reducible contradiction)))|fail)
    (apply S.draw;(case Hs=>exact []);(case es=>exact  [4]);(case n=>exact  10);(case hn=>rfl))
    repeat' (first|(apply T.addI;apply rfl;apply rfl;omega;apply rfl;rw [e1])|(apply T.call;apply rfl;apply rfl;with_reducible exact n1;rintro _ _ ⟨rfl,rfl⟩;rw [hb])|(apply T.sidx;apply rfl;apply rfl;omega;apply rfl)|(apply T.mv;apply rfl;apply rfl)|(apply T.neq;(iterate 3 apply rfl))|(apply T.convI64;apply rfl;omega;apply rfl)|(with_reducible first|refine Sr.nil ?_|refine S.seq ?_|refine S.reg ?_)|(apply S.condQ;apply rfl;all_goals (intro _;try (exfalso;first|omega|with_reducible contradiction)))|(with_reducible apply T.ofRet)|(apply SA.qn;(iterate 4 apply rfl);kernel_rfl)|(apply SA.qz;(iterate 4 apply rfl);kernel_rfl)|(apply SA.qsn;(iterate 3 apply rfl);kernel_rfl;(first|exact fun _ h=>h|exact fun _ h=>St.psub h (by ((repeat (first|dsimp only [List.set_cons_zero]|dsimp only [List.set_cons_succ]));repeat' first|exact PSub.refl _|exact PSub.nil|(apply PSub.take;(repeat' first|(with_reducible exact Z0)|(with_reducible apply Z1)))|(with_reducible apply PSub.drop)|((apply PSub.take);(repeat' first|exact Z0|(apply Z1)))))))|(apply SA.en;apply rfl;apply rfl;kernel_rfl)|(apply SA.done;apply rfl;kernel_rfl)|(apply SK.intro;(first|exact fun _ h=>h|exact fun _ h=>St.psub h (by ((repeat (first|dsimp only [List.set_cons_zero]|dsimp only [List.set_cons_succ]));repeat' first|exact PSub.refl _|exact PSub.nil|(apply PSub.take;(repeat' first|(with_reducible exact Z0)|(with_reducible apply Z1)))|(with_reducible apply PSub.drop)|((apply PSub.take);(repeat' first|exact Z0|(apply Z1)))))))|fail)
    refine T.call rfl rfl Z5 ?_
    rintro _ _ ⟨rfl,rfl⟩
    repeat' (first|(apply T.storeW;apply rfl;apply rfl;infer_instance;(first|rfl|(simp only [List.length_append,List.length_map,List.length_set,List.length_replicate,List.length_cons,List.length_nil];first|done|omega));(first|rfl|(simp only [List.length_append,List.length_map,List.length_set,List.length_replicate,List.length_cons,List.length_nil];first|done|omega));(first|rfl|(repeat' first|apply all_nV|apply all_bV|apply all_iV|rfl|apply all_app)))|with_reducible refine Sr.nil ?_|(with_reducible apply T.ofRet)|(apply T.retC;apply rfl;((repeat' first|apply RV.nil|(apply RV.tmp;apply rfl)|(apply RV.cellW;apply rfl;apply rfl;infer_instance;(first|rfl|(simp only [List.length_append,List.length_map,List.length_set,List.length_replicate,List.length_cons,List.length_nil];first|done|omega)))|(apply RV.cellP;apply rfl;apply rfl;infer_instance;apply rfl)));apply rfl)|fail)
    exact ⟨_,PSub.drop (PSub.refl _),[],rfl,rfl⟩
   ·have hb:=ZX hlt
    repeat' (first|((first|apply T.slen|apply T.mv);apply rfl;apply rfl)|(apply T.lss;(iterate 3 apply rfl))|(with_reducible first|refine Sr.nil ?_|refine S.seq ?_|refine S.block ?_|refine S.reg ?_|refine S.skip ?_)|(apply S.condQ;apply rfl;all_goals (intro _;try (exfalso;first|omega|with_reducible contradiction)))|fail)
    (apply S.draw;(case Hs=>exact []);(case es=>exact  [4]);(case n=>exact  10);(case hn=>rfl))
    repeat' (first|(apply T.addI;apply rfl;apply rfl;omega;apply rfl;rw [e1])|(apply T.call;apply rfl;apply rfl;with_reducible exact n1;rintro _ _ ⟨rfl,rfl⟩;rw [hb])|(apply T.sidx;apply rfl;apply rfl;omega;apply rfl)|(apply T.mv;apply rfl;apply rfl)|(apply T.neq;(iterate 3 apply rfl))|(apply T.convI64;apply rfl;omega;apply rfl)|(with_reducible first|refine Sr.nil ?_|refine S.seq ?_|refine S.reg ?_)|(apply S.condQ;apply rfl;all_goals (intro _;try (exfalso;first|omega|with_reducible contradiction)))|(with_reducible apply T.ofRet)|(apply SA.qn;(iterate 4 apply rfl);kernel_rfl)|(apply SA.qz;(iterate 4 apply rfl);kernel_rfl)|(apply SA.qsn;(iterate 3 apply rfl);kernel_rfl;(first|exact fun _ h=>h|exact fun _ h=>St.psub h (by ((repeat (first|dsimp only [List.set_cons_zero]|dsimp only [List.set_cons_succ]));repeat' first|exact PSub.refl _|exact PSub.nil|(apply PSub.take;(repeat' first|(with_reducible exact Z0)|(with_reducible apply Z1)))|(with_reducible apply PSub.drop)|((apply PSub.take);(repeat' first|exact Z0|(apply Z1)))))))|(apply SA.en;apply rfl;apply rfl;kernel_rfl)|(apply SA.done;apply rfl;kernel_rfl)|(apply SK.intro;(first|exact fun _ h=>h|exact fun _ h=>St.psub h (by ((repeat (first|dsimp only [List.set_cons_zero]|dsimp only [List.set_cons_succ]));repeat' first|exact PSub.refl _|exact PSub.nil|(apply PSub.take;(repeat' first|(with_reducible exact Z0)|(with_reducible apply Z1)))|(with_reducible apply PSub.drop)|((apply PSub.take);(repeat' first|exact Z0|(apply Z1)))))))|fail)
    refine T.call rfl rfl Z5 ?_
    rintro _ _ ⟨rfl,rfl⟩
    repeat' (first|(apply T.storeW;apply rfl;apply rfl;infer_instance;(first|rfl|(simp only [List.length_append,List.length_map,List.length_set,List.length_replicate,List.length_cons,List.length_nil];first|done|omega));(first|rfl|(simp only [List.length_append,List.length_map,List.length_set,List.length_replicate,List.length_cons,List.length_nil];first|done|omega));(first|rfl|(repeat' first|apply all_nV|apply all_bV|apply all_iV|rfl|apply all_app)))|with_reducible refine Sr.nil ?_|(with_reducible apply T.ofRet)|(apply T.retC;apply rfl;((repeat' first|apply RV.nil|(apply RV.tmp;apply rfl)|(apply RV.cellW;apply rfl;apply rfl;infer_instance;(first|rfl|(simp only [List.length_append,List.length_map,List.length_set,List.length_replicate,List.length_cons,List.length_nil];first|done|omega)))|(apply RV.cellP;apply rfl;apply rfl;infer_instance;apply rfl)));apply rfl)|fail)
    exact ⟨_,PSub.drop (PSub.refl _),[],rfl,rfl⟩
 ·obtain rfl:i=w.length:=by omega
  rw [List.drop_length,ZL] at h3
  rw [←h3]
  have e1:(p:Int)+(w.length:Int)=((p+w.length:Nat):Int):=by omega
  repeat' (first|(apply T.addI;apply rfl;apply rfl;omega;apply rfl;rw [e1])|(refine Sr.rowOfN (n:=1) (sz:=6) rfl (by decide) ?_)|((first|apply T.slen|apply T.mv);apply rfl;apply rfl)|(apply T.lss;(iterate 3 apply rfl))|(apply T.buildL;(iterate 3 apply rfl))|(apply T.storeW;apply rfl;apply rfl;infer_instance;(first|rfl|(simp only [List.length_append,List.length_map,List.length_set,List.length_replicate,List.length_cons,List.length_nil];first|done|omega));(first|rfl|(simp only [List.length_append,List.length_map,List.length_set,List.length_replicate,List.length_cons,List.length_nil];first|done|omega));(first|rfl|(repeat' first|apply all_nV|apply all_bV|apply all_iV|rfl|apply all_app)))|(apply T.bsL;(iterate 5 apply rfl);intro nb)|(with_reducible first|refine Sr.nil ?_|refine S.seq ?_|refine S.reg ?_)|(apply S.exit;apply rfl)|(apply S.condQ;apply rfl;all_goals (intro _;try (exfalso;first|omega|with_reducible contradiction)))|(apply T.retC;apply rfl;((repeat' first|apply RV.nil|(apply RV.tmp;apply rfl)|(apply RV.cellW;apply rfl;apply rfl;infer_instance;(first|rfl|(simp only [List.length_append,List.length_map,List.length_set,List.length_replicate,List.length_cons,List.length_nil];first|done|omega)))|(apply RV.cellP;apply rfl;apply rfl;infer_instance;apply rfl)));apply rfl)|fail)
  exact ⟨_,PSub.take Z0 (PSub.drop (PSub.refl _)),_,_,[],rfl,rfl⟩
end
end Go.Proofs.YthomgjihagigcaaGreatDoor
/- Numbers of JSON texts, in plain Lean: by places in the text. -/
namespace Sg
def Z3X (t:List UInt8) (p:Nat):Option (Nat × Bool):=if bAt t p=46 then (if Z3 t (p+1)=p+1 then none else some (Z3 t (p+1),false)) else some (p,true)
def Z1i (t:List UInt8) (p:Nat):Nat:=if bAt t p=43∨bAt t p=45 then p+1 else p
def expR (t:List UInt8) (p:Nat):Option (Nat × Bool):=if bAt t p=101∨bAt t p=69 then (if Z3 t (Z1i t (p+1))=Z1i t (p+1) then none else some (Z3 t (Z1i t (p+1)),false)) else some (p,true)
def minR (t:List UInt8):Nat:=if bAt t 0=45 then 1 else 0
def numR (t:List UInt8):Option (Bool × List UInt8 × Bool) :=
 if Z3 t (minR t)=minR t∨(bAt t (minR t)=48∧minR t+1 < Z3 t (minR t)) then none else
 match Z3X t (Z3 t (minR t)) with
 | none=>none
 | some (b,p1)=>match expR t b with
  | none=>none
  | some (e,p2)=>if e=t.length then some (decide (bAt t 0=45),sl t (minR t) (Z3 t (minR t)),p1&&p2) else none
theorem ZK (t:List UInt8) (p k:Nat):bAt (t.drop p) k=bAt t (p+k):=by
 unfold bAt
 simp only [List.getD,List.getElem?_drop]
theorem Z5r {t:List UInt8} {p:Nat} {c:UInt8} (hc:c≠0):cutP c (t.drop p)=if bAt t p=c.toNat then (t.drop (p+1),true) else (t.drop p,false):=by
 rcases Nat.lt_or_ge p t.length with h|h
 ·have h1:t.drop p=t[p]::t.drop (p+1):=List.drop_eq_getElem_cons h
  have h2:bAt t p=t[p].toNat:=Z13 (List.getElem?_eq_getElem h)
  rw [h1,h2]
  unfold cutP
  simp only
  by_cases h3:t[p]=c
  ·rw [if_pos h3,if_pos (by rw [h3])]
  ·rw [if_neg h3,if_neg (fun h4=>h3 (UInt8.toNat_inj.1 h4))]
 ·rw [List.drop_eq_nil_of_le h,Z0e h,if_neg (fun h1=>hc (UInt8.toNat_inj.1 h1.symm))]
  rfl
theorem Z0O (t:List UInt8) (p:Nat):runD (t.drop p)=Z3 t p - p:=by
 unfold runD Z3
 omega
theorem Z5o (t:List UInt8) (p:Nat):(t.drop p).drop (runD (t.drop p))=t.drop (Z3 t p):=by
 rw [List.drop_drop]
 rfl
theorem Z6c (t:List UInt8) (p:Nat):Z1J (t.drop p)=t.drop (Z1i t p):=by
 unfold Z1i
 rcases Nat.lt_or_ge p t.length with h|h
 ·have h1:t.drop p=t[p]::t.drop (p+1):=List.drop_eq_getElem_cons h
  have h2:bAt t p=t[p].toNat:=Z13 (List.getElem?_eq_getElem h)
  rw [h1,h2]
  unfold Z1J
  simp only
  by_cases h3:t[p]=43∨t[p]=45
  ·rw [if_pos h3,if_pos (h3.imp (fun h=>by rw [h];rfl) (fun h=>by rw [h];rfl))]
  ·rw [if_neg h3,if_neg (fun h4=>h3 (h4.imp (fun h=>UInt8.toNat_inj.1 h) (fun h=>UInt8.toNat_inj.1 h))),h1]
 ·rw [List.drop_eq_nil_of_le h,Z0e h,if_neg (by omega),List.drop_eq_nil_of_le h]
  rfl
theorem Z4X {t:List UInt8} {p:Nat} (h:p≤t.length):p≤Z1i t p∧Z1i t p≤t.length:=by
 unfold Z1i
 split
 ·rename_i h1
  have:=Z7 (t:=t) (p:=p) (by omega)
  omega
 ·omega
theorem Z0V {t:List UInt8} {p:Nat} (h:p≤t.length):p≤Z3 t p∧Z3 t p≤t.length:=⟨Z3q t p,Z6U h⟩
theorem Z6K {t:List UInt8} {p:Nat} (h:p≤t.length):Z6L (t.drop p)=(Z3X t p).map fun x=>(t.drop x.1,x.2):=by
 unfold Z6L Z3X
 rw [Z5r (by decide)]
 by_cases h1:bAt t p=46
 ·have h2:=Z3q t (p+1)
  rw [if_pos (show bAt t p=(46:UInt8).toNat from h1),if_pos h1,if_pos rfl]
  simp only
  rw [Z0O]
  by_cases h3:Z3 t (p+1)=p+1
  ·rw [if_pos (by omega),if_pos h3]
   rfl
  ·rw [if_neg (by omega),if_neg h3]
   have:=Z5o t (p+1)
   rw [Z0O] at this
   rw [this]
   rfl
 ·rw [if_neg (show ¬bAt t p=(46:UInt8).toNat from h1),if_neg h1,if_neg (by simp)]
  rfl
theorem Z7v {t:List UInt8} {p:Nat} (h:p≤t.length):expP (t.drop p)=match expR t p with
  | none=>none
  | some (e,p2)=>if p2=true then some (t.drop p,true) else if e=t.length then some ([],false) else none:=by
 unfold expR
 by_cases h1:bAt t p=101∨bAt t p=69
 ·have h0:=Z7 (t:=t) (p:=p) (by omega)
  have h2:t.drop p=t[p]::t.drop (p+1):=List.drop_eq_getElem_cons h0
  have h3:bAt t p=t[p].toNat:=Z13 (List.getElem?_eq_getElem h0)
  have h4:t[p]=101∨t[p]=69:=by
   rw [h3] at h1
   exact h1.imp (fun h=>UInt8.toNat_inj.1 h) (fun h=>UInt8.toNat_inj.1 h)
  obtain ⟨h5,h6⟩:=Z4X (t:=t) (p:=p+1) h0
  obtain ⟨h7,h8⟩:=Z0V h6
  rw [if_pos h1,h2]
  unfold expP
  simp only
  rw [if_pos h4,Z6c,Z0O,List.length_drop]
  by_cases h9:Z3 t (Z1i t (p+1))=Z1i t (p+1)
  ·rw [if_pos h9]
   simp only
   by_cases h10:Z1i t (p+1)=t.length
   ·rw [if_pos (.inl (List.drop_eq_nil_of_le (by omega)))]
   ·rw [if_pos (.inr (by omega))]
  ·rw [if_neg h9]
   simp only [Bool.false_eq_true,if_false]
   by_cases h10:Z3 t (Z1i t (p+1))=t.length
   ·rw [if_pos h10,if_neg]
    rintro (h11|h11)
    ·have:=List.drop_eq_nil_iff.1 h11
     omega
    ·omega
   ·rw [if_neg h10,if_pos (.inr (by omega))]
 ·rw [if_neg h1]
  simp only [if_true]
  rcases Nat.lt_or_ge p t.length with h0|h0
  ·have h2:t.drop p=t[p]::t.drop (p+1):=List.drop_eq_getElem_cons h0
   have h3:bAt t p=t[p].toNat:=Z13 (List.getElem?_eq_getElem h0)
   rw [h2]
   unfold expP
   simp only
   rw [if_neg (fun h4=>h1 (h4.imp (fun h=>by rw [h3,h];rfl) (fun h=>by rw [h3,h];rfl)))]
  ·rw [List.drop_eq_nil_of_le h0]
   rfl
theorem Z7p {t:List UInt8} {p b:Nat} {x:Bool} (h:p≤t.length) (hf:Z3X t p=some (b,x)):b≤t.length∧p≤b:=by
 unfold Z3X at hf
 split at hf
 ·rename_i h1
  have:=Z7 (t:=t) (p:=p) (by omega)
  have:=Z0V (t:=t) (p:=p+1) (by omega)
  split at hf
  ·cases hf
  ·cases hf
   omega
 ·cases hf
  omega
theorem Z6z (t:List UInt8):minR t≤t.length:=by
 unfold minR
 split
 ·rename_i h
  have:=Z7 (t:=t) (p:=0) (by omega)
  omega
 ·omega
theorem Z8d (t:List UInt8):cutP 45 t=(t.drop (minR t),decide (bAt t 0=45)):=by
 have:=Z5r (t:=t) (p:=0) (c:=45) (by decide)
 rw [List.drop_zero] at this
 rw [this]
 unfold minR
 by_cases h:bAt t 0=45
 ·rw [if_pos (show bAt t 0=(45:UInt8).toNat from h),if_pos h,decide_eq_true h]
 ·rw [if_neg (show ¬bAt t 0=(45:UInt8).toNat from h),if_neg h,decide_eq_false h]
  rfl
theorem Z6p (t:List UInt8):numP t=numR t:=by
 have hm:=Z6z t
 obtain ⟨hd1,hd2⟩:=Z0V hm
 unfold numP numR
 rw [Z8d]
 simp only
 have hb:Z2b (t.drop (minR t))=true↔(Z3 t (minR t)=minR t∨(bAt t (minR t)=48∧minR t+1 < Z3 t (minR t))):=by
  unfold Z2b
  rw [Z0O,ZK]
  simp only [Nat.add_zero,Bool.or_eq_true,Bool.and_eq_true,decide_eq_true_eq]
  omega
 by_cases h1:Z3 t (minR t)=minR t∨(bAt t (minR t)=48∧minR t+1 < Z3 t (minR t))
 ·rw [if_pos (hb.2 h1),if_pos h1]
 ·rw [if_neg (fun h=>h1 (hb.1 h)),if_neg h1,Z5o,Z6K hd2]
  have hsl:(t.drop (minR t)).take (runD (t.drop (minR t)))=sl t (minR t) (Z3 t (minR t)):=by
   unfold sl
   rw [Z0O]
  cases hf:Z3X t (Z3 t (minR t)) with
  | none=>rfl
  | some y =>
   obtain ⟨b,p1⟩:=y
   obtain ⟨hb2,-⟩:=Z7p hd2 hf
   simp only [Option.map_some]
   rw [Z7v hb2]
   cases he:expR t b with
   | none=>rfl
   | some z =>
    obtain ⟨e,p2⟩:=z
    simp only
    cases p2 with
    | true =>
     rw [if_pos rfl]
     have:e=b:=by
      unfold expR at he
      split at he
      ·split at he<;>cases he
      ·cases he;rfl
     subst this
     simp only
     rw [hsl]
     by_cases h3:e=t.length
     ·rw [if_pos h3,if_pos (List.drop_eq_nil_of_le (by omega))]
     ·rw [if_neg h3,if_neg (fun h4=>by have:=List.drop_eq_nil_iff.1 h4;omega)]
    | false =>
     rw [if_neg (by simp)]
     by_cases h3:e=t.length
     ·rw [if_pos h3,if_pos h3]
      simp only
      rw [if_pos trivial,hsl]
     ·rw [if_neg h3,if_neg h3]
end Sg
/- The walks of the document's numbers: read. -/
namespace Go.Proofs.YthomgjihagigcaaGreatDoor
open Sg Go.IntWalk
set_option maxRecDepth 100000
set_option maxHeartbeats 4000000
section
variable {F:World} {M:List Nat} {H:List Res} {t:List UInt8} {p:Nat}
theorem Z3e:Meets Tryz.prog 149 [sV t,.int .i64 p] F M H (fun e H'=>e=.returned (.bool (decide (48≤bAt t p∧bAt t p≤57)))∧H'=H):=by
 refine Meets.enter Tryz.func149 rfl rfl ?_
 by_cases hp:p < t.length
 ·have hb:(t.getD p 0).toNat=bAt t p:=rfl
  by_cases hd:48≤(t.getD p 0).toNat
  ·have e:decide (48≤bAt t p∧bAt t p≤57)=decide ((((t.getD p 0).toNat:Nat):Int)≤57):=by rw [decide_eq_decide];omega
   rw [e]
   repeat' (first|((first|apply T.slen|apply T.mv|apply T.asn);apply rfl;apply rfl)|(apply T.sidx;apply rfl;apply rfl;omega;apply rfl)|((first|apply T.lss|apply T.leq|apply T.geq);(iterate 3 apply rfl))|(apply T.pickT;(iterate 3 apply rfl))|(with_reducible first|refine Sr.nil ?_|refine S.seq ?_|refine S.reg ?_)|(apply T.ungV;apply rfl;(first|with_reducible rfl|decide))|(apply T.gcase;apply rfl;apply rfl;all_goals (intro _;try (exfalso;first|omega|with_reducible contradiction)))|(apply T.retW;apply rfl)|fail)
   exact ⟨_,PSub.refl _,rfl,rfl⟩
  ·have e:decide (48≤bAt t p∧bAt t p≤57)=false:=decide_eq_false (by omega)
   rw [e]
   repeat' (first|((first|apply T.slen|apply T.mv|apply T.asn);apply rfl;apply rfl)|(apply T.sidx;apply rfl;apply rfl;omega;apply rfl)|((first|apply T.lss|apply T.geq);(iterate 3 apply rfl))|(apply T.pickT;(iterate 3 apply rfl))|(apply T.pickF;(iterate 3 apply rfl))|(with_reducible first|refine Sr.nil ?_|refine S.seq ?_|refine S.reg ?_)|(apply T.ungV;apply rfl;(first|with_reducible rfl|decide))|(apply T.skip;apply rfl;(first|with_reducible rfl|decide);apply rfl)|(apply T.gcase;apply rfl;apply rfl;all_goals (intro _;try (exfalso;first|omega|with_reducible contradiction)))|(apply T.retW;apply rfl)|fail)
   exact ⟨_,PSub.refl _,rfl,rfl⟩
 ·have hb:=Z0e (t:=t) (p:=p) (by omega)
  rw [decide_eq_false (by omega)]
  repeat' (first|((first|apply T.slen|apply T.mv|apply T.asn);apply rfl;apply rfl)|(apply T.lss;(iterate 3 apply rfl))|(apply T.pickF;(iterate 3 apply rfl))|(with_reducible first|refine Sr.nil ?_|refine S.seq ?_|refine S.reg ?_)|(apply T.skip;apply rfl;(first|with_reducible rfl|decide);apply rfl)|(apply T.gcase;apply rfl;apply rfl;all_goals (intro _;try (exfalso;first|omega|with_reducible contradiction)))|(apply T.retW;apply rfl)|fail)
  exact ⟨_,PSub.refl _,rfl,rfl⟩
theorem Z0F (hp:p≤t.length) (hl:t.length≤1000000000):Meets Tryz.prog 135 [sV t,.int .i64 p] F M H (fun e H'=>e=.returned (.int .i64 (Z3 t p:Nat))∧H'=H):=by
 refine Meets.enter Tryz.func135 rfl rfl ?_
 repeat' (first|(apply T.asn;apply rfl;apply rfl)|(with_reducible first|refine Sr.nil ?_|refine S.seq ?_|refine S.block ?_|refine S.reg ?_)|fail)
 refine S.loopE 0 [0] (fun R b' μ H' e=>∃ q:Nat,H'=R∧e=(1,.int .i64 q)::b'∧(q≤t.length∧Z3 t p=Z3 t q)∧μ=t.length - q) rfl rfl ?_ _ _ ⟨p,rfl,rfl,⟨hp,rfl⟩,rfl⟩ (by repeat' first|exact trivial|refine And.intro rfl ?_)
 rintro _ _ _ ⟨q,rfl,rfl,⟨h1,h2⟩,rfl⟩ ih
 repeat' (first|(apply T.mv;apply rfl;apply rfl)|(with_reducible first|refine S.seq ?_|refine S.reg ?_)|fail)
 refine T.call rfl rfl Z3e ?_
 rintro _ _ ⟨rfl,rfl⟩
 by_cases h3:48≤bAt t q∧bAt t q≤57
 ·have h4:=Z7 (t:=t) (p:=q) (by omega)
  have h5:=Z0K h3
  rw [decide_eq_true h3]
  repeat' (first|((first|apply T.mv|apply T.asn);apply rfl;apply rfl)|(apply T.addI;apply rfl;apply rfl;omega;apply rfl)|(with_reducible first|refine Sr.nil ?_|refine S.block ?_|refine S.reg ?_|refine S.skip ?_|refine S.inBlock ?_)|(apply S.condTV;apply rfl;(first|with_reducible rfl|decide))|(with_reducible apply T.ofRet)|fail)
  exact ih _ _ _ _ ⟨q+1,rfl,rfl,⟨by omega,h2.trans h5⟩,rfl⟩ (by omega) (by repeat' first|exact trivial|refine And.intro rfl ?_)
 ·have h5:=Z0W h3
  rw [decide_eq_false h3]
  repeat' (first|((first|apply T.mv|apply T.asn);apply rfl;apply rfl)|(with_reducible first|refine Sr.nil ?_|refine S.seq ?_|refine S.reg ?_)|(apply S.exit;apply rfl)|(apply S.condFV;apply rfl;(first|with_reducible rfl|decide))|(apply T.retW;apply rfl)|(with_reducible apply T.ofRet)|fail)
  rw [h2,h5]
  exact ⟨_,PSub.refl _,rfl,rfl⟩
end
end Go.Proofs.YthomgjihagigcaaGreatDoor
