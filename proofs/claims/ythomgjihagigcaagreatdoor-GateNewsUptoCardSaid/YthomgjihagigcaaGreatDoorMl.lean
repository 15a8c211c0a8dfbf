/- Texts put together by a program: JrfL JrfM JrfN GtF. -/
import Derived.Test.YthomgjihagigcaaGreatDoorMk
import Derived.Test.YthomgjihagigcaaGreatDoorMg
/- The walks of the document's reader of JSON: items and rows. -/
namespace Go.Proofs.YthomgjihagigcaaGreatDoor
open Sg Go.IntWalk
set_option maxRecDepth 100000
set_option maxHeartbeats 4000000
section
variable {F:World} {M:List Nat} {H:List Res} {t:List UInt8} {p:Nat}
theorem Z3f {na:Option Addr} {nc n:Nat} {ns:List (List UInt8)} {s:List UInt8} [Rd F M H na (ns.map sV)] (hn:ns.length=n) (hl:n≤1000000000):Meets Tryz.prog 156 [.slice na n nc,sV s] F M H (fun e H'=>e=.returned (.bool (decide (s∈ns)))∧H'=H):=by
 subst hn
 refine Meets.enter Tryz.func156 rfl rfl ?_
 repeat' (first|(apply T.asn;apply rfl;apply rfl)|(with_reducible first|refine Sr.nil ?_|refine S.seq ?_|refine S.block ?_|refine S.reg ?_)|fail)
 refine S.loopE 0 [0,1] (fun R b' μ H' e=>∃ i:Nat,H'=R∧e=(5,.int .i64 i)::b'∧(i≤ns.length∧decide (s∈ns)=decide (s∈ns.drop i))∧μ=ns.length - i) rfl rfl ?_ _ _ ⟨0,rfl,rfl,⟨Nat.zero_le _,rfl⟩,rfl⟩ (by repeat' first|exact trivial|refine And.intro rfl ?_)
 rintro _ _ _ ⟨i,rfl,rfl,⟨h1,h2⟩,rfl⟩ ih
 by_cases h3:i < ns.length
 ·have hd:ns.drop i=ns.getD i []::ns.drop (i+1):=by
   rw [List.drop_eq_getElem_cons h3]
   simp [List.getD,h3]
  by_cases h4:ns.getD i []=s
  ·rw [h2,decide_eq_true (by rw [hd,h4];exact List.mem_cons_self ..)]
   repeat' (first|(apply T.seql;(iterate 3 apply rfl))|(apply T.loadS;apply rfl;infer_instance;(first|omega|(simp only [List.length_map];omega));apply rfl)|((first|apply T.mv|apply T.asn|apply T.len);apply rfl;apply rfl)|(apply T.lss;(iterate 3 apply rfl))|(apply T.ixN;apply rfl;apply rfl;infer_instance;omega;(first|omega|(simp only [List.length_map];omega)|(simp;omega));apply rfl)|(with_reducible first|refine Sr.nil ?_|refine S.seq ?_|refine S.block ?_|refine S.reg ?_|refine S.skip ?_)|(apply S.condQ;apply rfl;all_goals (intro _;try (exfalso;first|omega|with_reducible contradiction)))|(apply T.retW;apply rfl)|fail)
   exact ⟨_,PSub.refl _,rfl,rfl⟩
  ·have hs:decide (s∈ns.drop i)=decide (s∈ns.drop (i+1)):=by
    rw [hd]
    simp only [List.mem_cons,eq_comm (a:=s),h4,false_or]
   repeat' (first|(apply T.seql;(iterate 3 apply rfl))|(apply T.loadS;apply rfl;infer_instance;(first|omega|(simp only [List.length_map];omega));apply rfl)|((first|apply T.mv|apply T.asn|apply T.len);apply rfl;apply rfl)|(apply T.lss;(iterate 3 apply rfl))|(apply T.addI;apply rfl;apply rfl;omega;apply rfl)|(apply T.ixN;apply rfl;apply rfl;infer_instance;omega;(first|omega|(simp only [List.length_map];omega)|(simp;omega));apply rfl)|(with_reducible first|refine Sr.nil ?_|refine S.seq ?_|refine S.block ?_|refine S.reg ?_|refine S.skip ?_|refine S.inBlock ?_)|(apply S.condQ;apply rfl;all_goals (intro _;try (exfalso;first|omega|with_reducible contradiction)))|fail)
   exact ih _ _ _ _ ⟨i+1,rfl,rfl,⟨by omega,h2.trans hs⟩,rfl⟩ (by omega) (by repeat' first|exact trivial|refine And.intro rfl ?_)
 ·obtain rfl:i=ns.length:=by omega
  rw [h2,List.drop_length]
  repeat' (first|((first|apply T.mv|apply T.asn|apply T.len);apply rfl;apply rfl)|(apply T.lss;(iterate 3 apply rfl))|(with_reducible first|refine Sr.nil ?_|refine S.seq ?_|refine S.reg ?_)|(apply S.exit;apply rfl)|(apply S.condQ;apply rfl;all_goals (intro _;try (exfalso;first|omega|with_reducible contradiction)))|(apply T.retW;apply rfl)|fail)
  exact ⟨_,PSub.refl _,rfl,rfl⟩
def ItE (obj:Bool) (H:List Res):Gt (List Nd × List UInt8)→Ending→List Res→Prop
 | .ok a g=>fun e H'=>∃ oa oc s,e=.returned (.agg ⟨goV a (.slice oa g.1.length oc) s 0 0⟩)∧H'=ouR oa oc g.1::H∧(obj=true→s=g.2)
 | .bad c b=>fun e H'=>∃ s,e=.returned (.agg ⟨goV 0 noL s c b⟩)∧H'=H
theorem Z3I {val:Nat→Gt (List Nd)} {o:Nat} {obj:Bool} {na:Option Addr} {nc n:Nat} {ns:List (List UInt8)} [Rd F M H na (ns.map sV)] (hR:ValR t val)
  (hv:∀ {X:List Res} {q:Nat},q≤t.length→Meets Tryz.prog 115 [sV t,.int .i64 q,.int .i64 o] F M X (VaE X (val q)))
  (hn:ns.length=n) (hln:n≤1000000000) (hp:p≤t.length) (hl:t.length≤262144) :
  Meets Tryz.prog 144 [sV t,.int .i64 p,.bool obj,.slice na n nc,.int .i64 o] F M H (ItE obj H (Z0u val t obj p ns)):=by
 refine Meets.enter Tryz.func144 rfl rfl ?_
 unfold Z0u
 cases obj with
 | false =>
  rw [if_neg (by decide)]
  repeat' (first|(apply T.mv;apply rfl;apply rfl)|(apply T.notB;apply rfl;apply rfl)|(apply T.alloc;apply rfl;intro nb)|(with_reducible first|refine Sr.nil ?_|refine S.seq ?_|refine S.reg ?_)|(apply S.condTV;apply rfl;(first|with_reducible rfl|decide))|fail)
  refine T.call rfl rfl (hv hp) ?_
  have hnm:=hR.named p hp
  cases hx:val p with
  | bad c b =>
   rintro _ _ ⟨s,rfl,rfl⟩
   repeat' (first|(apply T.storeW;apply rfl;apply rfl;infer_instance;(first|rfl|(simp only [List.length_append,List.length_map,List.length_set,List.length_replicate,List.length_cons,List.length_nil];first|done|omega));(first|rfl|(simp only [List.length_append,List.length_map,List.length_set,List.length_replicate,List.length_cons,List.length_nil];first|done|omega));(first|rfl|(repeat' first|apply all_nV|apply all_bV|apply all_iV|rfl|apply all_app)))|with_reducible refine Sr.nil ?_|(with_reducible apply T.ofRet)|(apply T.retC;apply rfl;((repeat' first|apply RV.nil|(apply RV.tmp;apply rfl)|(apply RV.cellW;apply rfl;apply rfl;infer_instance;(first|rfl|(simp only [List.length_append,List.length_map,List.length_set,List.length_replicate,List.length_cons,List.length_nil];first|done|omega)))|(apply RV.cellP;apply rfl;apply rfl;infer_instance;apply rfl)));apply rfl)|fail)
   exact ⟨_,PSub.drop (PSub.refl _),s,rfl,rfl⟩
  | ok a l =>
   rintro _ _ ⟨oa,oc,s,rfl,rfl⟩
   repeat' (first|(apply T.storeW;apply rfl;apply rfl;infer_instance;(first|rfl|(simp only [List.length_append,List.length_map,List.length_set,List.length_replicate,List.length_cons,List.length_nil];first|done|omega));(first|rfl|(simp only [List.length_append,List.length_map,List.length_set,List.length_replicate,List.length_cons,List.length_nil];first|done|omega));(first|rfl|(repeat' first|apply all_nV|apply all_bV|apply all_iV|rfl|apply all_app)))|with_reducible refine Sr.nil ?_|(with_reducible apply T.ofRet)|(apply T.retC;apply rfl;((repeat' first|apply RV.nil|(apply RV.tmp;apply rfl)|(apply RV.cellW;apply rfl;apply rfl;infer_instance;(first|rfl|(simp only [List.length_append,List.length_map,List.length_set,List.length_replicate,List.length_cons,List.length_nil];first|done|omega)))|(apply RV.cellP;apply rfl;apply rfl;infer_instance;apply rfl)));apply rfl)|fail)
   exact ⟨_,PSub.take Z0 (PSub.drop (PSub.refl _)),oa,oc,s,rfl,rfl,fun h=>by cases h⟩
 | true =>
  rw [if_pos rfl,Zs (by decide)]
  by_cases h1:bAt t p=34
  ·have hlt:=Z7 (t:=t) (p:=p) (by omega)
   have e1:(p:Int)+1=((p+1:Nat):Int):=by omega
   have hI:=ZJ h1 (by omega)
   rw [if_pos (by rw [decide_eq_true_eq];exact h1)]
   repeat' (first|(apply T.mv;apply rfl;apply rfl)|(apply T.notB;apply rfl;apply rfl)|(apply T.alloc;apply rfl;intro nb)|(with_reducible first|refine Sr.nil ?_|refine S.seq ?_|refine S.reg ?_|refine S.skip ?_)|(apply S.condFV;apply rfl;(first|with_reducible rfl|decide))|fail)
   refine T.call rfl rfl Z4 ?_
   rintro _ _ ⟨rfl,rfl⟩
   rw [hI]
   repeat' (first|(apply T.addI;apply rfl;apply rfl;omega;apply rfl;rw [e1])|(apply T.mv;apply rfl;apply rfl)|(apply T.neq;(iterate 3 apply rfl))|(with_reducible first|refine Sr.nil ?_|refine S.seq ?_|refine S.reg ?_|refine S.skip ?_)|(apply S.condFV;apply rfl;(first|with_reducible rfl|decide))|(with_reducible apply T.ofRet)|fail)
   refine T.call rfl rfl (Z10 (p:=p+1) (by omega) hl) ?_
   have hqn:=Z06 (t:=t) (p:=p+1) (by omega)
   have hqf:=Zn (t:=t) (p:=p+1) (by omega)
   cases hx:Zo t (p+1) with
   | bad c b =>
    have hc:=hqn c b hx
    rintro _ _ ⟨⟨s,rfl⟩,rfl⟩
    repeat' (first|(apply T.fieldAddrZ;apply rfl;apply rfl)|(apply T.load;apply rfl;apply rfl;infer_instance;apply rfl;apply rfl)|(apply T.neq;(iterate 3 apply rfl))|(apply T.loadW;apply rfl;apply rfl;infer_instance;(first|rfl|(simp only [List.length_append,List.length_map,List.length_set,List.length_replicate,List.length_cons,List.length_nil];first|done|omega));apply rfl)|(apply T.storeW;apply rfl;apply rfl;infer_instance;(first|rfl|(simp only [List.length_append,List.length_map,List.length_set,List.length_replicate,List.length_cons,List.length_nil];first|done|omega));(first|rfl|(simp only [List.length_append,List.length_map,List.length_set,List.length_replicate,List.length_cons,List.length_nil];first|done|omega));(first|rfl|(repeat' first|apply all_nV|apply all_bV|apply all_iV|rfl|apply all_app)))|(apply T.alloc;apply rfl;intro nb)|(with_reducible first|refine Sr.nil ?_|refine S.seq ?_|refine S.reg ?_)|(apply S.condQ;apply rfl;all_goals (intro _;try (exfalso;first|omega|with_reducible contradiction)))|(with_reducible apply T.ofRet)|(apply T.retC;apply rfl;((repeat' first|apply RV.nil|(apply RV.tmp;apply rfl)|(apply RV.cellW;apply rfl;apply rfl;infer_instance;(first|rfl|(simp only [List.length_append,List.length_map,List.length_set,List.length_replicate,List.length_cons,List.length_nil];first|done|omega)))|(apply RV.cellP;apply rfl;apply rfl;infer_instance;apply rfl)));apply rfl)|fail)
    exact ⟨_,PSub.drop (PSub.drop (PSub.refl _)),s,rfl,rfl⟩
   | ok a s =>
    obtain ⟨hf1,hf2⟩:=hqf a s hx
    rintro _ _ ⟨rfl,rfl⟩
    repeat' (first|((first|apply T.mv|apply T.fieldAddrZ);apply rfl;apply rfl)|(apply T.load;apply rfl;apply rfl;infer_instance;apply rfl;apply rfl)|(apply T.neq;(iterate 3 apply rfl))|(apply T.storeW;apply rfl;apply rfl;infer_instance;(first|rfl|(simp only [List.length_append,List.length_map,List.length_set,List.length_replicate,List.length_cons,List.length_nil];first|done|omega));(first|rfl|(simp only [List.length_append,List.length_map,List.length_set,List.length_replicate,List.length_cons,List.length_nil];first|done|omega));(first|rfl|(repeat' first|apply all_nV|apply all_bV|apply all_iV|rfl|apply all_app)))|(apply T.alloc;apply rfl;intro nb)|(with_reducible first|refine Sr.nil ?_|refine S.seq ?_|refine S.reg ?_|refine S.skip ?_)|(apply S.condFV;apply rfl;(first|with_reducible rfl|decide))|(with_reducible apply T.ofRet)|fail)
    refine T.call rfl rfl (Z3f hn hln) ?_
    rintro _ _ ⟨rfl,rfl⟩
    show Sr _ _ _ _ _ _ _ _
    by_cases hm:s∈ns
    ·rw [decide_eq_true hm]
     show Sr _ _ _ _ _ _ _ _
     simp only [Gt.bind,hm,if_true]
     repeat' (first|(apply T.mv;apply rfl;apply rfl)|(with_reducible first|refine Sr.nil ?_|refine S.seq ?_|refine S.reg ?_)|(apply S.condTV;apply rfl;(first|with_reducible rfl|decide))|fail)
     refine T.call rfl rfl Z5 ?_
     rintro _ _ ⟨rfl,rfl⟩
     repeat' (first|(apply T.storeW;apply rfl;apply rfl;infer_instance;(first|rfl|(simp only [List.length_append,List.length_map,List.length_set,List.length_replicate,List.length_cons,List.length_nil];first|done|omega));(first|rfl|(simp only [List.length_append,List.length_map,List.length_set,List.length_replicate,List.length_cons,List.length_nil];first|done|omega));(first|rfl|(repeat' first|apply all_nV|apply all_bV|apply all_iV|rfl|apply all_app)))|with_reducible refine Sr.nil ?_|(with_reducible apply T.ofRet)|(apply T.retC;apply rfl;((repeat' first|apply RV.nil|(apply RV.tmp;apply rfl)|(apply RV.cellW;apply rfl;apply rfl;infer_instance;(first|rfl|(simp only [List.length_append,List.length_map,List.length_set,List.length_replicate,List.length_cons,List.length_nil];first|done|omega)))|(apply RV.cellP;apply rfl;apply rfl;infer_instance;apply rfl)));apply rfl)|fail)
     exact ⟨_,PSub.drop (PSub.drop (PSub.refl _)),[],rfl,rfl⟩
    ·rw [decide_eq_false hm]
     simp only [Gt.bind,hm,if_false]
     have hs1:=Zb hf2
     have hs2:=Zd t a
     repeat' (first|((first|apply T.mv|apply T.fieldAddrZ);apply rfl;apply rfl)|(apply T.load;apply rfl;apply rfl;infer_instance;apply rfl;apply rfl)|(with_reducible first|refine Sr.nil ?_|refine S.seq ?_|refine S.reg ?_|refine S.skip ?_)|(apply S.condFV;apply rfl;(first|with_reducible rfl|decide))|fail)
     refine T.call rfl rfl (Zv hf2 (by omega)) ?_
     rintro _ _ ⟨rfl,rfl⟩
     generalize hw:Z2 t a=w at *
     repeat' (first|((first|apply T.mv|apply T.asn);apply rfl;apply rfl)|(with_reducible first|refine Sr.nil ?_|refine S.seq ?_|refine S.reg ?_)|(with_reducible apply T.ofRet)|fail)
     refine T.call rfl rfl Z4 ?_
     rintro _ _ ⟨rfl,rfl⟩
     rw [Zs (by decide)]
     by_cases h2:bAt t w=58
     ·have hlt2:=Z7 (t:=t) (p:=w) (by omega)
      have e2:(w:Int)+1=((w+1:Nat):Int):=by omega
      have hs3:=Zb (t:=t) (p:=w+1) (by omega)
      rw [ZJ h2 (by omega)]
      simp only [show bAt t w=(58:UInt8).toNat from h2,decide_true,if_true]
      repeat' (first|(apply T.addI;apply rfl;apply rfl;omega;apply rfl;rw [e2])|(apply T.mv;apply rfl;apply rfl)|(apply T.neq;(iterate 3 apply rfl))|(with_reducible first|refine Sr.nil ?_|refine S.seq ?_|refine S.reg ?_|refine S.skip ?_)|(apply S.condFV;apply rfl;(first|with_reducible rfl|decide))|(with_reducible apply T.ofRet)|fail)
      refine T.call rfl rfl (Zv (p:=w+1) (by omega) (by omega)) ?_
      rintro _ _ ⟨rfl,rfl⟩
      generalize Z2 t (w+1)=u at *
      repeat' (first|(apply T.mv;apply rfl;apply rfl)|(with_reducible apply T.ofRet)|fail)
      refine T.call rfl rfl (hv hs3) ?_
      have hnm:=hR.named u hs3
      cases hy:val u with
      | bad c b =>
       have hc:=hnm c b hy
       rintro _ _ ⟨s',rfl,rfl⟩
       repeat' (first|(apply T.fieldAddrZ;apply rfl;apply rfl)|(apply T.load;apply rfl;apply rfl;infer_instance;apply rfl;apply rfl)|(apply T.eql;(iterate 3 apply rfl))|(apply T.loadW;apply rfl;apply rfl;infer_instance;(first|rfl|(simp only [List.length_append,List.length_map,List.length_set,List.length_replicate,List.length_cons,List.length_nil];first|done|omega));apply rfl)|(apply T.storeW;apply rfl;apply rfl;infer_instance;(first|rfl|(simp only [List.length_append,List.length_map,List.length_set,List.length_replicate,List.length_cons,List.length_nil];first|done|omega));(first|rfl|(simp only [List.length_append,List.length_map,List.length_set,List.length_replicate,List.length_cons,List.length_nil];first|done|omega));(first|rfl|(repeat' first|apply all_nV|apply all_bV|apply all_iV|rfl|apply all_app)))|(apply T.alloc;apply rfl;intro nb)|(with_reducible first|refine Sr.nil ?_|refine S.seq ?_|refine S.reg ?_|refine S.skip ?_)|(apply S.condQ;apply rfl;all_goals (intro _;try (exfalso;first|omega|with_reducible contradiction)))|(with_reducible apply T.ofRet)|(apply T.retC;apply rfl;((repeat' first|apply RV.nil|(apply RV.tmp;apply rfl)|(apply RV.cellW;apply rfl;apply rfl;infer_instance;(first|rfl|(simp only [List.length_append,List.length_map,List.length_set,List.length_replicate,List.length_cons,List.length_nil];first|done|omega)))|(apply RV.cellP;apply rfl;apply rfl;infer_instance;apply rfl)));apply rfl)|fail)
       exact ⟨_,PSub.drop (PSub.drop (PSub.drop (PSub.refl _))),s',rfl,rfl⟩
      | ok d l =>
       obtain ⟨nd0,m0,l0,rfl,-,-⟩:=(hR.fo hy).one_inv
       rintro _ _ ⟨oa,oc,s',rfl,rfl⟩
       have hln:(nd0::l0).length=l0.length+1:=rfl
       repeat' (first|(refine T.ixF (g:=ndV) (sz:=6) (i:=0) (xs:=nd0::l0) rfl rfl inferInstance (fun _=>rfl) rfl (by omega) (by omega) rfl ?_)|(refine T.storeF (g:=ndV) (nd0.named s) rfl rfl inferInstance (fun _=>rfl) rfl rfl rfl rfl ?_)|(apply T.fieldAddrZ;apply rfl;apply rfl)|(apply T.load;apply rfl;apply rfl;infer_instance;apply rfl;apply rfl)|(apply T.eql;(iterate 3 apply rfl))|(apply T.fieldAddrF;apply rfl;infer_instance;exact (fun _=>rfl);apply rfl;omega;apply rfl)|(apply T.loadW;apply rfl;apply rfl;infer_instance;(first|rfl|(simp only [List.length_append,List.length_map,List.length_set,List.length_replicate,List.length_cons,List.length_nil];first|done|omega));apply rfl)|(apply T.storeW;apply rfl;apply rfl;infer_instance;(first|rfl|(simp only [List.length_append,List.length_map,List.length_set,List.length_replicate,List.length_cons,List.length_nil];first|done|omega));(first|rfl|(simp only [List.length_append,List.length_map,List.length_set,List.length_replicate,List.length_cons,List.length_nil];first|done|omega));(first|rfl|(repeat' first|apply all_nV|apply all_bV|apply all_iV|rfl|apply all_app)))|(apply T.store;apply rfl;apply rfl;infer_instance;(first|decide|(simp;omega)|simp);apply rfl)|(apply T.alloc;apply rfl;intro nb)|(with_reducible first|refine Sr.nil ?_|refine S.seq ?_|refine S.reg ?_)|(apply S.condTV;apply rfl;(first|with_reducible rfl|decide))|(with_reducible apply T.ofRet)|(apply T.retC;apply rfl;((repeat' first|apply RV.nil|(apply RV.tmp;apply rfl)|(apply RV.cellW;apply rfl;apply rfl;infer_instance;(first|rfl|(simp only [List.length_append,List.length_map,List.length_set,List.length_replicate,List.length_cons,List.length_nil];first|done|omega)))|(apply RV.cellP;apply rfl;apply rfl;infer_instance;apply rfl)));apply rfl)|fail)
       exact ⟨_,PSub.drop (PSub.take Z0 (PSub.drop (PSub.drop (PSub.refl _)))),oa,oc,s,rfl,rfl,fun _=>rfl⟩
     ·have hI:=Zy h2
      simp only [show ¬bAt t w=(58:UInt8).toNat from h2,decide_false,Bool.false_eq_true,if_false]
      repeat' (first|(apply T.mv;apply rfl;apply rfl)|(apply T.neq;(iterate 3 apply rfl))|(with_reducible first|refine Sr.nil ?_|refine S.seq ?_|refine S.reg ?_)|(apply S.condQ;apply rfl;all_goals (intro _;try (exfalso;first|omega|with_reducible contradiction)))|(with_reducible apply T.ofRet)|fail)
      refine T.call rfl rfl Z5 ?_
      rintro _ _ ⟨rfl,rfl⟩
      repeat' (first|(apply T.storeW;apply rfl;apply rfl;infer_instance;(first|rfl|(simp only [List.length_append,List.length_map,List.length_set,List.length_replicate,List.length_cons,List.length_nil];first|done|omega));(first|rfl|(simp only [List.length_append,List.length_map,List.length_set,List.length_replicate,List.length_cons,List.length_nil];first|done|omega));(first|rfl|(repeat' first|apply all_nV|apply all_bV|apply all_iV|rfl|apply all_app)))|with_reducible refine Sr.nil ?_|(with_reducible apply T.ofRet)|(apply T.retC;apply rfl;((repeat' first|apply RV.nil|(apply RV.tmp;apply rfl)|(apply RV.cellW;apply rfl;apply rfl;infer_instance;(first|rfl|(simp only [List.length_append,List.length_map,List.length_set,List.length_replicate,List.length_cons,List.length_nil];first|done|omega)))|(apply RV.cellP;apply rfl;apply rfl;infer_instance;apply rfl)));apply rfl)|fail)
      exact ⟨_,PSub.drop (PSub.drop (PSub.refl _)),[],rfl,rfl⟩
  ·have hI:=Zy h1
   rw [if_neg (by rw [decide_eq_true_eq];exact h1)]
   repeat' (first|(apply T.mv;apply rfl;apply rfl)|(apply T.notB;apply rfl;apply rfl)|(apply T.alloc;apply rfl;intro nb)|(with_reducible first|refine Sr.nil ?_|refine S.seq ?_|refine S.reg ?_|refine S.skip ?_)|(apply S.condFV;apply rfl;(first|with_reducible rfl|decide))|fail)
   refine T.call rfl rfl Z4 ?_
   rintro _ _ ⟨rfl,rfl⟩
   repeat' (first|(apply T.mv;apply rfl;apply rfl)|(apply T.neq;(iterate 3 apply rfl))|(with_reducible first|refine Sr.nil ?_|refine S.seq ?_|refine S.reg ?_)|(apply S.condQ;apply rfl;all_goals (intro _;try (exfalso;first|omega|with_reducible contradiction)))|(with_reducible apply T.ofRet)|fail)
   refine T.call rfl rfl Z5 ?_
   rintro _ _ ⟨rfl,rfl⟩
   repeat' (first|(apply T.storeW;apply rfl;apply rfl;infer_instance;(first|rfl|(simp only [List.length_append,List.length_map,List.length_set,List.length_replicate,List.length_cons,List.length_nil];first|done|omega));(first|rfl|(simp only [List.length_append,List.length_map,List.length_set,List.length_replicate,List.length_cons,List.length_nil];first|done|omega));(first|rfl|(repeat' first|apply all_nV|apply all_bV|apply all_iV|rfl|apply all_app)))|with_reducible refine Sr.nil ?_|(with_reducible apply T.ofRet)|(apply T.retC;apply rfl;((repeat' first|apply RV.nil|(apply RV.tmp;apply rfl)|(apply RV.cellW;apply rfl;apply rfl;infer_instance;(first|rfl|(simp only [List.length_append,List.length_map,List.length_set,List.length_replicate,List.length_cons,List.length_nil];first|done|omega)))|(apply RV.cellP;apply rfl;apply rfl;infer_instance;apply rfl)));apply rfl)|fail)
   exact ⟨_,PSub.drop (PSub.refl _),[],rfl,rfl⟩
end
end Go.Proofs.YthomgjihagigcaaGreatDoor
/- The walks of the document's reader of JSON: what stands in brackets. -/
namespace Go.Proofs.YthomgjihagigcaaGreatDoor
open Sg Go.IntWalk
set_option maxRecDepth 100000
set_option maxHeartbeats 4000000
section
variable {F:World} {M:List Nat} {H:List Res} {t:List UInt8} {p:Nat}
def Z1A (obj:Bool):Int:=if obj=true then 7 else 6
def Z2Y (obj:Bool):Int:=if obj=true then 125 else 93
theorem Z4s {val:Nat→Gt (List Nd)} {o:Nat} {obj:Bool} (hR:ValR t val)
  (hv:∀ {X:List Res} {q:Nat},q≤t.length→Meets Tryz.prog 115 [sV t,.int .i64 q,.int .i64 o] F M X (VaE X (val q)))
  (hp:p < t.length) (hl:t.length≤262144) :
  Meets Tryz.prog 131 [sV t,.int .i64 p,.bool obj,.int .i64 o] F M H (VaE H (if atB t (Z2 t (p+1)) (ZG obj) then .ok (Z2 t (p+1)+1) [nd (Z1A obj)] else rowX val t obj (t.length+1) (Z2 t (p+1)) [] (nd (Z1A obj)) [])):=by
 refine Meets.enter Tryz.func131 rfl rfl ?_
 have hcl:∀ q,atB t q (ZG obj)=decide (bAt t q=(ZG obj).toNat):=fun q=>Zs (by cases obj<;>decide)
 have hcz:((ZG obj).toNat:Int)=Z2Y obj:=by cases obj<;>rfl
 have hcp:0 < (ZG obj).toNat:=by cases obj<;>decide
 refine S.seq ?_
 repeat' (first|(apply T.alloc;apply rfl;intro nb)|(with_reducible first|refine Sr.nil ?_|refine S.reg ?_)|fail)
 revert nb
 intro b8
 refine S.seq ?_
 repeat' (first|(apply T.asn;apply rfl;apply rfl)|(with_reducible first|refine Sr.nil ?_|refine S.reg ?_)|fail)
 refine S.seq ?_
 refine S.cut (fun H' e'=>H'=.blk b8 (goV 0 noL [] 0 0) 151::H∧e'=[(0,sV t),(1,.int .i64 p),(2,.bool obj),(3,.int .i64 o),(8,.pointer (some ⟨b8,0,none⟩)),(9,.int .i64 (Z1A obj)),(10,.int .i64 (Z2Y obj))]) ?_ ?_
 ·intro k' hrest
  cases obj with
  | true =>
   repeat' (first|((first|apply T.mv|apply T.asn);apply rfl;apply rfl)|(with_reducible first|refine Sr.nil ?_|refine S.seq ?_|refine S.reg ?_)|(apply S.condTV;apply rfl;(first|with_reducible rfl|decide))|fail)
   exact hrest _ _ _ ⟨rfl,rfl⟩ (by repeat' first|exact trivial|refine And.intro rfl ?_)
  | false =>
   repeat' (first|(apply T.mv;apply rfl;apply rfl)|(with_reducible first|refine Sr.nil ?_|refine S.seq ?_|refine S.reg ?_|refine S.skip ?_)|(apply S.condFV;apply rfl;(first|with_reducible rfl|decide))|fail)
   exact hrest _ _ _ ⟨rfl,rfl⟩ (by repeat' first|exact trivial|refine And.intro rfl ?_)
 rintro _ _ ⟨rfl,rfl⟩
 have e1:(p:Int)+1=((p+1:Nat):Int):=by omega
 have hs1:=Zb (t:=t) (p:=p+1) hp
 have hs2:=Zd t (p+1)
 repeat' (first|(apply T.addI;apply rfl;apply rfl;omega;apply rfl;rw [e1])|((first|apply T.mv|apply T.asn);apply rfl;apply rfl)|(apply T.buildL;(iterate 3 apply rfl))|(apply T.bsL;(iterate 5 apply rfl);intro nb)|(with_reducible first|refine Sr.nil ?_|refine S.seq ?_|refine S.reg ?_)|fail)
 refine T.call rfl rfl (Zv (p:=p+1) hp (by omega)) ?_
 rintro _ _ ⟨rfl,rfl⟩
 generalize Z2 t (p+1)=w at *
 repeat' (first|(refine Sr.rowOfN (n:=1) (sz:=6) rfl (by decide) ?_)|((first|apply T.mv|apply T.asn);apply rfl;apply rfl)|(with_reducible first|refine Sr.nil ?_|refine S.seq ?_|refine S.reg ?_)|fail)
 refine T.call rfl rfl Z4 ?_
 rintro _ _ ⟨rfl,rfl⟩
 rw [hcl]
 by_cases h1:bAt t w=(ZG obj).toNat
 ·have hI:Z1E t w=Z2Y obj:=by rw [ZJ h1 hcp,hcz]
  have hlt:=Z7 (t:=t) (p:=w) (by omega)
  rw [if_pos (decide_eq_true h1)]
  repeat' (first|(apply T.mv;apply rfl;apply rfl)|(apply T.eql;(iterate 3 apply rfl))|(apply T.addI;apply rfl;apply rfl;omega;apply rfl)|(apply T.buildL;(iterate 3 apply rfl))|(apply T.storeW;apply rfl;apply rfl;infer_instance;(first|rfl|(simp only [List.length_append,List.length_map,List.length_set,List.length_replicate,List.length_cons,List.length_nil];first|done|omega));(first|rfl|(simp only [List.length_append,List.length_map,List.length_set,List.length_replicate,List.length_cons,List.length_nil];first|done|omega));(first|rfl|(repeat' first|apply all_nV|apply all_bV|apply all_iV|rfl|apply all_app)))|(with_reducible first|refine Sr.nil ?_|refine S.seq ?_|refine S.reg ?_)|(apply S.condQ;apply rfl;all_goals (intro _;try (exfalso;first|omega|with_reducible contradiction)))|(with_reducible apply T.ofRet)|(apply T.retC;apply rfl;((repeat' first|apply RV.nil|(apply RV.tmp;apply rfl)|(apply RV.cellW;apply rfl;apply rfl;infer_instance;(first|rfl|(simp only [List.length_append,List.length_map,List.length_set,List.length_replicate,List.length_cons,List.length_nil];first|done|omega)))|(apply RV.cellP;apply rfl;apply rfl;infer_instance;apply rfl)));apply rfl)|fail)
  exact ⟨_,PSub.take Z0 (PSub.drop (PSub.refl _)),_,_,[],rfl,rfl⟩
 have hI:¬Z1E t w=Z2Y obj:=by rw [←hcz];exact Zy h1
 rw [if_neg (by rw [decide_eq_true_eq];exact h1)]
 generalize hQ:rowX val t obj (t.length+1) w [] (nd (Z1A obj)) []=Q
 have hr0:([nd (Z1A obj)]:List Nd).flatMap ndV=ndV (nd (Z1A obj)):=by simp
 refine Sr.nilrow 9 1 ?_
 repeat' (first|(apply T.mv;apply rfl;apply rfl)|(apply T.eql;(iterate 3 apply rfl))|(with_reducible first|refine Sr.nil ?_|refine S.block ?_|refine S.skip ?_)|(apply S.condQ;apply rfl;all_goals (intro _;try (exfalso;first|omega|with_reducible contradiction)))|fail)
 refine S.loopE 2 [0,2,3,8,10] (fun R b' μ H' e=>∃ (q f m nc rc:Nat) (na ra:Option Addr) (ns nms:List (List UInt8)) (hd:Nd) (out:List Nd),H'=.row na nc 9 1 m (ns.map sV)::ouR ra rc (hd::out)::R∧e=(1,.int .i64 q)::(11,.slice ra (hd::out).length rc)::(12,.slice na m nc)::b'∧(q≤t.length∧t.length < q+f∧ns.length=m∧m≤q∧out.length≤q∧(0≤hd.kids∧hd.kids≤(q:Int))∧rowX val t obj f q nms hd out=Q∧(obj=true→nms=ns))∧μ=t.length - q) rfl rfl ?_ _ _ ⟨w,t.length+1,0,0,1,none,_,[],[],nd (Z1A obj),[],rfl,rfl,⟨hs1,by omega,rfl,Nat.zero_le _,Nat.zero_le _,⟨(by decide:(0:Int)≤0),(show (0:Int)≤(w:Int) by omega)⟩,hQ,fun _=>rfl⟩,rfl⟩ (by repeat' first|exact trivial|refine And.intro rfl ?_)
 clear hQ h1 hI hs1 hs2 hr0
 rintro _ _ _ ⟨q,f,m,nc,rc,na,ra,ns,nms,hd,out,rfl,rfl,⟨h1,h2,h3,h4,h5,⟨h6,h7⟩,h8,h9⟩,rfl⟩ ih
 obtain ⟨f,rfl⟩:∃ g,f=g+1:=⟨f - 1,by omega⟩
 have hit:Z0u val t obj q nms=Z0u val t obj q ns:=by
  cases obj with
  | false=>rfl
  | true=>rw [h9 rfl]
 rw [rowX,hit] at h8
 have hfit:=Z2a (names:=ns) (obj:=obj) hR h1
 have hnam:=Z2P (names:=ns) (obj:=obj) hR h1
 repeat' (first|(apply T.mv;apply rfl;apply rfl)|(with_reducible first|refine S.seq ?_|refine S.block ?_|refine S.reg ?_)|fail)
 refine T.call rfl rfl (Z3I (ns:=ns) hR hv h3 (by omega) h1 hl) ?_
 cases hi:Z0u val t obj q ns with
 | bad c b =>
  have hc:=hnam c b hi
  rw [hi] at h8
  rw [←h8]
  rintro _ _ ⟨s,rfl,rfl⟩
  repeat' (first|(apply T.fieldAddrZ;apply rfl;apply rfl)|(apply T.load;apply rfl;apply rfl;infer_instance;apply rfl;apply rfl)|(apply T.neq;(iterate 3 apply rfl))|(apply T.loadW;apply rfl;apply rfl;infer_instance;(first|rfl|(simp only [List.length_append,List.length_map,List.length_set,List.length_replicate,List.length_cons,List.length_nil];first|done|omega));apply rfl)|(apply T.storeW;apply rfl;apply rfl;infer_instance;(first|rfl|(simp only [List.length_append,List.length_map,List.length_set,List.length_replicate,List.length_cons,List.length_nil];first|done|omega));(first|rfl|(simp only [List.length_append,List.length_map,List.length_set,List.length_replicate,List.length_cons,List.length_nil];first|done|omega));(first|rfl|(repeat' first|apply all_nV|apply all_bV|apply all_iV|rfl|apply all_app)))|(apply T.alloc;apply rfl;intro nb)|(with_reducible first|refine Sr.nil ?_|refine S.seq ?_|refine S.reg ?_)|(apply S.condQ;apply rfl;all_goals (intro _;try (exfalso;first|omega|with_reducible contradiction)))|(with_reducible apply T.ofRet)|(apply T.retC;apply rfl;((repeat' first|apply RV.nil|(apply RV.tmp;apply rfl)|(apply RV.cellW;apply rfl;apply rfl;infer_instance;(first|rfl|(simp only [List.length_append,List.length_map,List.length_set,List.length_replicate,List.length_cons,List.length_nil];first|done|omega)))|(apply RV.cellP;apply rfl;apply rfl;infer_instance;apply rfl)));apply rfl)|fail)
  exact ⟨_,PSub.drop (PSub.drop (PSub.drop (PSub.drop (PSub.refl _)))),s,rfl,rfl⟩
 | ok a g =>
  obtain ⟨hf1,hf2⟩:=hfit a g hi
  obtain ⟨hz,-⟩:=Z6G (fun {p a l}=>hR.sz) h1 hi
  have hz1:=hz.1
  rw [hi] at h8
  have h8':rowE t obj (fun p'=>rowX val t obj f p' (nms++[g.2]) hd.more (out++g.1)) a (hd.more::(out++g.1))=Q:=h8
  clear h8
  rintro _ _ ⟨oa,oc,s,rfl,rfl,hs⟩
  have hs1:=Zb hf2
  have hs2:=Zd t a
  have hln:(hd::out).length=out.length+1:=rfl
  have hla:(hd::out++g.1).length=out.length+1+g.1.length:=by rw [List.length_append];rfl
  repeat' (first|(refine T.appendAllF (g:=ndV) (xs:=hd::out) (us:=g.1) rfl rfl inferInstance inferInstance rfl (fun _=>rfl) (fun _=>rfl) rfl rfl (by constructor<;>omega) rfl ?_;intro ra' rc')|(refine T.ixF (g:=ndV) (sz:=6) (i:=0) (xs:=hd::out++g.1) rfl rfl inferInstance (fun _=>rfl) rfl (by omega) (by rw [List.length_append];omega) rfl ?_)|(refine T.loadF (g:=ndV) (sz:=6) (i:=0) (f:=5) (xs:=hd::out++g.1) (a:=hd) rfl rfl inferInstance (fun _=>rfl) rfl rfl rfl rfl ?_)|(refine T.storeF (g:=ndV) hd.more rfl rfl inferInstance (fun _=>rfl) rfl rfl rfl rfl ?_)|((first|apply T.mv|apply T.asn);apply rfl;apply rfl)|(apply T.fieldAddrZ;apply rfl;apply rfl)|(apply T.load;apply rfl;apply rfl;infer_instance;apply rfl;apply rfl)|(apply T.neq;(iterate 3 apply rfl))|(apply T.addI;apply rfl;apply rfl;omega;apply rfl)|(apply T.fieldAddrF;apply rfl;infer_instance;exact (fun _=>rfl);apply rfl;omega;apply rfl)|(apply T.storeW;apply rfl;apply rfl;infer_instance;(first|rfl|(simp only [List.length_append,List.length_map,List.length_set,List.length_replicate,List.length_cons,List.length_nil];first|done|omega));(first|rfl|(simp only [List.length_append,List.length_map,List.length_set,List.length_replicate,List.length_cons,List.length_nil];first|done|omega));(first|rfl|(repeat' first|apply all_nV|apply all_bV|apply all_iV|rfl|apply all_app)))|(apply T.alloc;apply rfl;intro nb)|(apply T.bs;(iterate 6 apply rfl);intro nb)|(apply T.append;apply rfl;apply rfl;infer_instance;(first|rfl|(simp;done));(first|rfl|(simp;done));apply rfl;apply rfl;(constructor<;>omega);apply rfl;intro na nc)|(with_reducible first|refine Sr.nil ?_|refine S.seq ?_|refine S.reg ?_|refine S.skip ?_)|(apply S.condFV;apply rfl;(first|with_reducible rfl|decide))|(with_reducible apply T.ofRet)|fail)
  refine T.call rfl rfl (Zv hf2 (by omega)) ?_
  rintro _ _ ⟨rfl,rfl⟩
  unfold rowE at h8'
  generalize Z2 t a=w2 at *
  repeat' (first|((first|apply T.mv|apply T.asn);apply rfl;apply rfl)|(with_reducible first|refine Sr.nil ?_|refine S.seq ?_|refine S.reg ?_)|(with_reducible apply T.ofRet)|fail)
  refine T.call rfl rfl Z4 ?_
  rintro _ _ ⟨rfl,rfl⟩
  rw [hcl] at h8'
  have hlm:(hd.more::(out++g.1)).length=(hd::out).length+g.1.length:=by simp only [List.length_cons,List.length_append];omega
  rw [←hlm,show ns.map sV++[sV s]=(ns++[s]).map sV from by rw [List.map_append];rfl,show (hd::out++g.1).set 0 hd.more=hd.more::(out++g.1) from rfl]
  by_cases k1:bAt t w2=(ZG obj).toNat
  ·have hI:Z1E t w2=Z2Y obj:=by rw [ZJ k1 hcp,hcz]
   have hlt:=Z7 (t:=t) (p:=w2) (by omega)
   rw [if_pos (decide_eq_true k1)] at h8'
   rw [←h8']
   repeat' (first|((first|apply T.mv|apply T.asn);apply rfl;apply rfl)|(apply T.eql;(iterate 3 apply rfl))|(apply T.addI;apply rfl;apply rfl;omega;apply rfl)|(apply T.buildL;(iterate 3 apply rfl))|(apply T.storeW;apply rfl;apply rfl;infer_instance;(first|rfl|(simp only [List.length_append,List.length_map,List.length_set,List.length_replicate,List.length_cons,List.length_nil];first|done|omega));(first|rfl|(simp only [List.length_append,List.length_map,List.length_set,List.length_replicate,List.length_cons,List.length_nil];first|done|omega));(first|rfl|(repeat' first|apply all_nV|apply all_bV|apply all_iV|rfl|apply all_app)))|(with_reducible first|refine Sr.nil ?_|refine S.seq ?_|refine S.block ?_|refine S.reg ?_)|(apply S.condQ;apply rfl;all_goals (intro _;try (exfalso;first|omega|with_reducible contradiction)))|(with_reducible apply T.ofRet)|(apply T.retC;apply rfl;((repeat' first|apply RV.nil|(apply RV.tmp;apply rfl)|(apply RV.cellW;apply rfl;apply rfl;infer_instance;(first|rfl|(simp only [List.length_append,List.length_map,List.length_set,List.length_replicate,List.length_cons,List.length_nil];first|done|omega)))|(apply RV.cellP;apply rfl;apply rfl;infer_instance;apply rfl)));apply rfl)|fail)
   exact ⟨_,PSub.drop (PSub.drop (PSub.drop (PSub.take Z0 (PSub.drop (PSub.refl _))))),ra',rc',[],rfl,rfl⟩
  have hI:¬Z1E t w2=Z2Y obj:=by rw [←hcz];exact Zy k1
  rw [if_neg (by rw [decide_eq_true_eq];exact k1),Zs (by decide)] at h8'
  by_cases k2:bAt t w2=44
  ·have hlt:=Z7 (t:=t) (p:=w2) (by omega)
   have e2:(w2:Int)+1=((w2+1:Nat):Int):=by omega
   have hs3:=Zb (t:=t) (p:=w2+1) (by omega)
   have hs4:=Zd t (w2+1)
   have hI2:=ZJ k2 (by omega)
   rw [if_pos (by rw [decide_eq_true_eq];exact k2)] at h8'
   repeat' (first|(apply T.addI;apply rfl;apply rfl;omega;apply rfl;rw [e2])|((first|apply T.mv|apply T.asn);apply rfl;apply rfl)|(apply T.eql;(iterate 3 apply rfl))|(with_reducible first|refine Sr.nil ?_|refine S.seq ?_|refine S.block ?_|refine S.reg ?_)|(apply S.condQ;apply rfl;all_goals (intro _;try (exfalso;first|omega|with_reducible contradiction)))|(with_reducible apply T.ofRet)|fail)
   refine T.call rfl rfl (Zv (p:=w2+1) (by omega) (by omega)) ?_
   rintro _ _ ⟨rfl,rfl⟩
   generalize Z2 t (w2+1)=u at *
   repeat' (first|(apply T.asn;apply rfl;apply rfl)|(with_reducible first|refine Sr.nil ?_|refine S.inBlock ?_)|(with_reducible apply T.ofRet)|fail)
   refine S.sublist ?_ (PSub.drop (PSub.drop (PSub.refl _)))
   exact ih _ _ _ _ ⟨u,f,m+1,nc,rc',na,ra',ns++[s],nms++[g.2],hd.more,out++g.1,rfl,rfl,⟨hs3,by omega,by rw [List.length_append,h3];rfl,by omega,by rw [List.length_append];omega,⟨by simp only [Nd.more];omega,by simp only [Nd.more];omega⟩,h8',fun ho=>by rw [h9 ho,hs ho]⟩,rfl⟩ (by omega) (by repeat' first|exact trivial|refine And.intro rfl ?_)
  ·have hI2:=Zy k2
   rw [if_neg (by rw [decide_eq_true_eq];exact k2)] at h8'
   rw [←h8']
   repeat' (first|((first|apply T.mv|apply T.asn);apply rfl;apply rfl)|(apply T.eql;(iterate 3 apply rfl))|(with_reducible first|refine Sr.nil ?_|refine S.seq ?_|refine S.block ?_|refine S.reg ?_)|(apply S.condQ;apply rfl;all_goals (intro _;try (exfalso;first|omega|with_reducible contradiction)))|(with_reducible apply T.ofRet)|fail)
   refine T.call rfl rfl Z5 ?_
   rintro _ _ ⟨rfl,rfl⟩
   repeat' (first|(apply T.storeW;apply rfl;apply rfl;infer_instance;(first|rfl|(simp only [List.length_append,List.length_map,List.length_set,List.length_replicate,List.length_cons,List.length_nil];first|done|omega));(first|rfl|(simp only [List.length_append,List.length_map,List.length_set,List.length_replicate,List.length_cons,List.length_nil];first|done|omega));(first|rfl|(repeat' first|apply all_nV|apply all_bV|apply all_iV|rfl|apply all_app)))|with_reducible refine Sr.nil ?_|(with_reducible apply T.ofRet)|(apply T.retC;apply rfl;((repeat' first|apply RV.nil|(apply RV.tmp;apply rfl)|(apply RV.cellW;apply rfl;apply rfl;infer_instance;(first|rfl|(simp only [List.length_append,List.length_map,List.length_set,List.length_replicate,List.length_cons,List.length_nil];first|done|omega)))|(apply RV.cellP;apply rfl;apply rfl;infer_instance;apply rfl)));apply rfl)|fail)
   exact ⟨_,PSub.drop (PSub.drop (PSub.drop (PSub.drop (PSub.drop (PSub.refl _))))),[],rfl,rfl⟩
end
end Go.Proofs.YthomgjihagigcaaGreatDoor
/- The walks of the document's reader of JSON: values; the whole. -/
namespace Go.Proofs.YthomgjihagigcaaGreatDoor
open Sg Go.IntWalk
set_option maxRecDepth 100000
set_option maxHeartbeats 4000000
section
variable {F:World} {M:List Nat} {H:List Res} {t:List UInt8} {p o:Nat}
theorem Z74 {c d:UInt8}:c=d↔c.toNat=d.toNat:=UInt8.toNat_inj.symm
theorem Z3J (hp:p < t.length) (hl:t.length≤262144) (h91:¬(t.getD p 0).toNat=91) (h123:¬(t.getD p 0).toNat=123) :
  Meets Tryz.prog 115 [sV t,.int .i64 p,.int .i64 o] F M H (VaE H (ZT Z9 t p (t.getD p 0))):=by
 refine Meets.enter Tryz.func115 rfl rfl ?_
 have hb:bAt t p=(t.getD p 0).toNat:=rfl
 have hI:Z1E t p=((t.getD p 0).toNat:Int):=ZB hp
 unfold ZT
 simp only [Z74,digitB_iff]
 generalize (t.getD p 0).toNat=c at *
 repeat' (first|(apply T.mv;apply rfl;apply rfl)|(apply T.alloc;apply rfl;intro nb)|(with_reducible first|refine Sr.nil ?_|refine S.seq ?_|refine S.reg ?_)|fail)
 refine T.call rfl rfl Z4 ?_
 rintro _ _ ⟨rfl,rfl⟩
 rw [hI]
 by_cases h1:c=34
 ·have e1:(p:Int)+1=((p+1:Nat):Int):=by omega
  have hqn:=Z06 (t:=t) (p:=p+1) (by omega)
  rw [if_pos (show c=(34:UInt8).toNat from h1)]
  repeat' (first|(apply T.addI;apply rfl;apply rfl;omega;apply rfl;rw [e1])|((first|apply T.mv|apply T.asn);apply rfl;apply rfl)|(apply T.eql;(iterate 3 apply rfl))|(apply T.pickF;(iterate 3 apply rfl))|(with_reducible first|refine Sr.nil ?_|refine S.seq ?_|refine S.block ?_|refine S.reg ?_)|(apply T.ungV;apply rfl;(first|with_reducible rfl|decide))|(apply S.condQ;apply rfl;all_goals (intro _;try (exfalso;first|omega|with_reducible contradiction)))|(apply T.gcase;apply rfl;apply rfl;all_goals (intro _;try (exfalso;first|omega|with_reducible contradiction)))|(with_reducible apply T.ofRet)|fail)
  refine T.call rfl rfl (Z10 (p:=p+1) (by omega) hl) ?_
  cases hx:Zo t (p+1) with
  | bad e b =>
   have hc:=hqn e b hx
   rintro _ _ ⟨⟨s,rfl⟩,rfl⟩
   repeat' (first|(apply T.fieldAddrZ;apply rfl;apply rfl)|(apply T.load;apply rfl;apply rfl;infer_instance;apply rfl;apply rfl)|(apply T.eql;(iterate 3 apply rfl))|(apply T.loadW;apply rfl;apply rfl;infer_instance;(first|rfl|(simp only [List.length_append,List.length_map,List.length_set,List.length_replicate,List.length_cons,List.length_nil];first|done|omega));apply rfl)|(apply T.storeW;apply rfl;apply rfl;infer_instance;(first|rfl|(simp only [List.length_append,List.length_map,List.length_set,List.length_replicate,List.length_cons,List.length_nil];first|done|omega));(first|rfl|(simp only [List.length_append,List.length_map,List.length_set,List.length_replicate,List.length_cons,List.length_nil];first|done|omega));(first|rfl|(repeat' first|apply all_nV|apply all_bV|apply all_iV|rfl|apply all_app)))|(apply T.alloc;apply rfl;intro nb)|(with_reducible first|refine Sr.nil ?_|refine S.seq ?_|refine S.reg ?_|refine S.skip ?_)|(apply S.condQ;apply rfl;all_goals (intro _;try (exfalso;first|omega|with_reducible contradiction)))|(with_reducible apply T.ofRet)|(apply T.retC;apply rfl;((repeat' first|apply RV.nil|(apply RV.tmp;apply rfl)|(apply RV.cellW;apply rfl;apply rfl;infer_instance;(first|rfl|(simp only [List.length_append,List.length_map,List.length_set,List.length_replicate,List.length_cons,List.length_nil];first|done|omega)))|(apply RV.cellP;apply rfl;apply rfl;infer_instance;apply rfl)));apply rfl)|fail)
   exact ⟨_,PSub.drop (PSub.drop (PSub.refl _)),s,rfl,rfl⟩
  | ok a s =>
   rintro _ _ ⟨rfl,rfl⟩
   repeat' (first|(refine Sr.rowOfN (n:=1) (sz:=6) rfl (by decide) ?_)|(apply T.fieldAddrZ;apply rfl;apply rfl)|(apply T.load;apply rfl;apply rfl;infer_instance;apply rfl;apply rfl)|(apply T.eql;(iterate 3 apply rfl))|(apply T.buildL;(iterate 3 apply rfl))|(apply T.loadW;apply rfl;apply rfl;infer_instance;(first|rfl|(simp only [List.length_append,List.length_map,List.length_set,List.length_replicate,List.length_cons,List.length_nil];first|done|omega));apply rfl)|(apply T.storeW;apply rfl;apply rfl;infer_instance;(first|rfl|(simp only [List.length_append,List.length_map,List.length_set,List.length_replicate,List.length_cons,List.length_nil];first|done|omega));(first|rfl|(simp only [List.length_append,List.length_map,List.length_set,List.length_replicate,List.length_cons,List.length_nil];first|done|omega));(first|rfl|(repeat' first|apply all_nV|apply all_bV|apply all_iV|rfl|apply all_app)))|(apply T.store;apply rfl;apply rfl;infer_instance;(first|decide|(simp;omega)|simp);apply rfl)|(apply T.alloc;apply rfl;intro nb)|(apply T.bsL;(iterate 5 apply rfl);intro nb)|(with_reducible first|refine Sr.nil ?_|refine S.seq ?_|refine S.reg ?_)|(apply S.condTV;apply rfl;(first|with_reducible rfl|decide))|(with_reducible apply T.ofRet)|(apply T.retC;apply rfl;((repeat' first|apply RV.nil|(apply RV.tmp;apply rfl)|(apply RV.cellW;apply rfl;apply rfl;infer_instance;(first|rfl|(simp only [List.length_append,List.length_map,List.length_set,List.length_replicate,List.length_cons,List.length_nil];first|done|omega)))|(apply RV.cellP;apply rfl;apply rfl;infer_instance;apply rfl)));apply rfl)|fail)
   exact ⟨_,PSub.take Z0 (PSub.drop (PSub.drop (PSub.refl _))),_,_,s,rfl,rfl⟩
 rw [if_neg (show ¬c=(34:UInt8).toNat from h1)]
 by_cases h2:c=45∨(48≤c∧c≤57)
 ·rw [if_pos (show c=(45:UInt8).toNat∨(48≤c∧c≤57) from h2)]
  rcases h2 with h2|⟨h2,h3⟩
  all_goals
   repeat' (first|((first|apply T.mv|apply T.asn);apply rfl;apply rfl)|((first|apply T.leq|apply T.geq|apply T.eql);(iterate 3 apply rfl))|(apply T.pickT;(iterate 3 apply rfl))|(apply T.pickF;(iterate 3 apply rfl))|(with_reducible first|refine Sr.nil ?_|refine S.seq ?_|refine S.block ?_|refine S.reg ?_)|(apply T.ungV;apply rfl;(first|with_reducible rfl|decide))|(apply T.skip;apply rfl;(first|with_reducible rfl|decide);apply rfl)|(apply T.skipU;apply rfl;apply rfl)|(apply S.condTV;apply rfl;(first|with_reducible rfl|decide))|(apply S.condQ;apply rfl;all_goals (intro _;try (exfalso;first|omega|with_reducible contradiction)))|(apply T.gcase;apply rfl;apply rfl;all_goals (intro _;try (exfalso;first|omega|with_reducible contradiction)))|(with_reducible apply T.ofRet)|fail)
   refine T.call rfl rfl (Z2t hp hl) ?_
   cases hx:numX t p with
   | bad e b =>
    rintro _ _ ⟨s,rfl,rfl⟩
    repeat' (first|(apply T.storeW;apply rfl;apply rfl;infer_instance;(first|rfl|(simp only [List.length_append,List.length_map,List.length_set,List.length_replicate,List.length_cons,List.length_nil];first|done|omega));(first|rfl|(simp only [List.length_append,List.length_map,List.length_set,List.length_replicate,List.length_cons,List.length_nil];first|done|omega));(first|rfl|(repeat' first|apply all_nV|apply all_bV|apply all_iV|rfl|apply all_app)))|with_reducible refine Sr.nil ?_|(with_reducible apply T.ofRet)|(apply T.retC;apply rfl;((repeat' first|apply RV.nil|(apply RV.tmp;apply rfl)|(apply RV.cellW;apply rfl;apply rfl;infer_instance;(first|rfl|(simp only [List.length_append,List.length_map,List.length_set,List.length_replicate,List.length_cons,List.length_nil];first|done|omega)))|(apply RV.cellP;apply rfl;apply rfl;infer_instance;apply rfl)));apply rfl)|fail)
    exact ⟨_,PSub.drop (PSub.refl _),s,rfl,rfl⟩
   | ok a u =>
    rintro _ _ ⟨oa,oc,s,rfl,rfl⟩
    repeat' (first|(apply T.storeW;apply rfl;apply rfl;infer_instance;(first|rfl|(simp only [List.length_append,List.length_map,List.length_set,List.length_replicate,List.length_cons,List.length_nil];first|done|omega));(first|rfl|(simp only [List.length_append,List.length_map,List.length_set,List.length_replicate,List.length_cons,List.length_nil];first|done|omega));(first|rfl|(repeat' first|apply all_nV|apply all_bV|apply all_iV|rfl|apply all_app)))|with_reducible refine Sr.nil ?_|(with_reducible apply T.ofRet)|(apply T.retC;apply rfl;((repeat' first|apply RV.nil|(apply RV.tmp;apply rfl)|(apply RV.cellW;apply rfl;apply rfl;infer_instance;(first|rfl|(simp only [List.length_append,List.length_map,List.length_set,List.length_replicate,List.length_cons,List.length_nil];first|done|omega)))|(apply RV.cellP;apply rfl;apply rfl;infer_instance;apply rfl)));apply rfl)|fail)
    exact ⟨_,PSub.take Z0 (PSub.drop (PSub.refl _)),oa,oc,s,rfl,rfl⟩
 rw [if_neg (show ¬(c=(45:UInt8).toNat∨(48≤c∧c≤57)) from h2)]
 have h45:¬c=45:=fun h=>h2 (.inl h)
 have hdg:¬(48≤c∧c≤57):=fun h=>h2 (.inr h)
 clear h2
 have hcase:c < 48∨57 < c:=by omega
 by_cases h3:c=110
 ·rw [if_pos (show c=(110:UInt8).toNat from h3)]
  repeat' (first|((first|apply T.mv|apply T.asn);apply rfl;apply rfl)|((first|apply T.leq|apply T.geq|apply T.eql);(iterate 3 apply rfl))|(apply T.pickT;(iterate 3 apply rfl))|(apply T.pickF;(iterate 3 apply rfl))|(with_reducible first|refine Sr.nil ?_|refine S.seq ?_|refine S.block ?_|refine S.reg ?_)|(apply T.ungV;apply rfl;(first|with_reducible rfl|decide))|(apply S.condQ;apply rfl;all_goals (intro _;try (exfalso;first|omega|with_reducible contradiction)))|(apply T.gcase;apply rfl;apply rfl;all_goals (intro _;try (exfalso;first|omega|with_reducible contradiction)))|(with_reducible apply T.ofRet)|fail)
  refine T.call rfl rfl (Z01 (w:=[110,117,108,108]) (kd:=1) (by decide) (by decide) (by omega) hl) ?_
  cases hx:ZL t p [110,117,108,108] with
  | bad e b =>
   rintro _ _ ⟨s,rfl,rfl⟩
   repeat' (first|(apply T.storeW;apply rfl;apply rfl;infer_instance;(first|rfl|(simp only [List.length_append,List.length_map,List.length_set,List.length_replicate,List.length_cons,List.length_nil];first|done|omega));(first|rfl|(simp only [List.length_append,List.length_map,List.length_set,List.length_replicate,List.length_cons,List.length_nil];first|done|omega));(first|rfl|(repeat' first|apply all_nV|apply all_bV|apply all_iV|rfl|apply all_app)))|with_reducible refine Sr.nil ?_|(with_reducible apply T.ofRet)|(apply T.retC;apply rfl;((repeat' first|apply RV.nil|(apply RV.tmp;apply rfl)|(apply RV.cellW;apply rfl;apply rfl;infer_instance;(first|rfl|(simp only [List.length_append,List.length_map,List.length_set,List.length_replicate,List.length_cons,List.length_nil];first|done|omega)))|(apply RV.cellP;apply rfl;apply rfl;infer_instance;apply rfl)));apply rfl)|fail)
   exact ⟨_,PSub.drop (PSub.refl _),s,rfl,rfl⟩
  | ok a u =>
   rintro _ _ ⟨oa,oc,s,rfl,rfl⟩
   repeat' (first|(apply T.storeW;apply rfl;apply rfl;infer_instance;(first|rfl|(simp only [List.length_append,List.length_map,List.length_set,List.length_replicate,List.length_cons,List.length_nil];first|done|omega));(first|rfl|(simp only [List.length_append,List.length_map,List.length_set,List.length_replicate,List.length_cons,List.length_nil];first|done|omega));(first|rfl|(repeat' first|apply all_nV|apply all_bV|apply all_iV|rfl|apply all_app)))|with_reducible refine Sr.nil ?_|(with_reducible apply T.ofRet)|(apply T.retC;apply rfl;((repeat' first|apply RV.nil|(apply RV.tmp;apply rfl)|(apply RV.cellW;apply rfl;apply rfl;infer_instance;(first|rfl|(simp only [List.length_append,List.length_map,List.length_set,List.length_replicate,List.length_cons,List.length_nil];first|done|omega)))|(apply RV.cellP;apply rfl;apply rfl;infer_instance;apply rfl)));apply rfl)|fail)
   exact ⟨_,PSub.take Z0 (PSub.drop (PSub.refl _)),oa,oc,s,rfl,rfl⟩
 rw [if_neg (show ¬c=(110:UInt8).toNat from h3)]
 by_cases h4:c=102
 ·rw [if_pos (show c=(102:UInt8).toNat from h4)]
  repeat' (first|((first|apply T.mv|apply T.asn);apply rfl;apply rfl)|((first|apply T.leq|apply T.geq|apply T.eql);(iterate 3 apply rfl))|(apply T.pickT;(iterate 3 apply rfl))|(apply T.pickF;(iterate 3 apply rfl))|(with_reducible first|refine Sr.nil ?_|refine S.seq ?_|refine S.block ?_|refine S.reg ?_)|(apply T.ungV;apply rfl;(first|with_reducible rfl|decide))|(apply S.condQ;apply rfl;all_goals (intro _;try (exfalso;first|omega|with_reducible contradiction)))|(apply T.gcase;apply rfl;apply rfl;all_goals (intro _;try (exfalso;first|omega|with_reducible contradiction)))|(with_reducible apply T.ofRet)|fail)
  refine T.call rfl rfl (Z01 (w:=[102,97,108,115,101]) (kd:=2) (by decide) (by decide) (by omega) hl) ?_
  cases hx:ZL t p [102,97,108,115,101] with
  | bad e b =>
   rintro _ _ ⟨s,rfl,rfl⟩
   repeat' (first|(apply T.storeW;apply rfl;apply rfl;infer_instance;(first|rfl|(simp only [List.length_append,List.length_map,List.length_set,List.length_replicate,List.length_cons,List.length_nil];first|done|omega));(first|rfl|(simp only [List.length_append,List.length_map,List.length_set,List.length_replicate,List.length_cons,List.length_nil];first|done|omega));(first|rfl|(repeat' first|apply all_nV|apply all_bV|apply all_iV|rfl|apply all_app)))|with_reducible refine Sr.nil ?_|(with_reducible apply T.ofRet)|(apply T.retC;apply rfl;((repeat' first|apply RV.nil|(apply RV.tmp;apply rfl)|(apply RV.cellW;apply rfl;apply rfl;infer_instance;(first|rfl|(simp only [List.length_append,List.length_map,List.length_set,List.length_replicate,List.length_cons,List.length_nil];first|done|omega)))|(apply RV.cellP;apply rfl;apply rfl;infer_instance;apply rfl)));apply rfl)|fail)
   exact ⟨_,PSub.drop (PSub.refl _),s,rfl,rfl⟩
  | ok a u =>
   rintro _ _ ⟨oa,oc,s,rfl,rfl⟩
   repeat' (first|(apply T.storeW;apply rfl;apply rfl;infer_instance;(first|rfl|(simp only [List.length_append,List.length_map,List.length_set,List.length_replicate,List.length_cons,List.length_nil];first|done|omega));(first|rfl|(simp only [List.length_append,List.length_map,List.length_set,List.length_replicate,List.length_cons,List.length_nil];first|done|omega));(first|rfl|(repeat' first|apply all_nV|apply all_bV|apply all_iV|rfl|apply all_app)))|with_reducible refine Sr.nil ?_|(with_reducible apply T.ofRet)|(apply T.retC;apply rfl;((repeat' first|apply RV.nil|(apply RV.tmp;apply rfl)|(apply RV.cellW;apply rfl;apply rfl;infer_instance;(first|rfl|(simp only [List.length_append,List.length_map,List.length_set,List.length_replicate,List.length_cons,List.length_nil];first|done|omega)))|(apply RV.cellP;apply rfl;apply rfl;infer_instance;apply rfl)));apply rfl)|fail)
   exact ⟨_,PSub.take Z0 (PSub.drop (PSub.refl _)),oa,oc,s,rfl,rfl⟩
 rw [if_neg (show ¬c=(102:UInt8).toNat from h4)]
 by_cases h5:c=116
 ·rw [if_pos (show c=(116:UInt8).toNat from h5)]
  repeat' (first|((first|apply T.mv|apply T.asn);apply rfl;apply rfl)|((first|apply T.leq|apply T.geq|apply T.eql);(iterate 3 apply rfl))|(apply T.pickT;(iterate 3 apply rfl))|(apply T.pickF;(iterate 3 apply rfl))|(with_reducible first|refine Sr.nil ?_|refine S.seq ?_|refine S.block ?_|refine S.reg ?_)|(apply T.ungV;apply rfl;(first|with_reducible rfl|decide))|(apply S.condQ;apply rfl;all_goals (intro _;try (exfalso;first|omega|with_reducible contradiction)))|(apply T.gcase;apply rfl;apply rfl;all_goals (intro _;try (exfalso;first|omega|with_reducible contradiction)))|(with_reducible apply T.ofRet)|fail)
  refine T.call rfl rfl (Z01 (w:=[116,114,117,101]) (kd:=3) (by decide) (by decide) (by omega) hl) ?_
  cases hx:ZL t p [116,114,117,101] with
  | bad e b =>
   rintro _ _ ⟨s,rfl,rfl⟩
   repeat' (first|(apply T.storeW;apply rfl;apply rfl;infer_instance;(first|rfl|(simp only [List.length_append,List.length_map,List.length_set,List.length_replicate,List.length_cons,List.length_nil];first|done|omega));(first|rfl|(simp only [List.length_append,List.length_map,List.length_set,List.length_replicate,List.length_cons,List.length_nil];first|done|omega));(first|rfl|(repeat' first|apply all_nV|apply all_bV|apply all_iV|rfl|apply all_app)))|with_reducible refine Sr.nil ?_|(with_reducible apply T.ofRet)|(apply T.retC;apply rfl;((repeat' first|apply RV.nil|(apply RV.tmp;apply rfl)|(apply RV.cellW;apply rfl;apply rfl;infer_instance;(first|rfl|(simp only [List.length_append,List.length_map,List.length_set,List.length_replicate,List.length_cons,List.length_nil];first|done|omega)))|(apply RV.cellP;apply rfl;apply rfl;infer_instance;apply rfl)));apply rfl)|fail)
   exact ⟨_,PSub.drop (PSub.refl _),s,rfl,rfl⟩
  | ok a u =>
   rintro _ _ ⟨oa,oc,s,rfl,rfl⟩
   repeat' (first|(apply T.storeW;apply rfl;apply rfl;infer_instance;(first|rfl|(simp only [List.length_append,List.length_map,List.length_set,List.length_replicate,List.length_cons,List.length_nil];first|done|omega));(first|rfl|(simp only [List.length_append,List.length_map,List.length_set,List.length_replicate,List.length_cons,List.length_nil];first|done|omega));(first|rfl|(repeat' first|apply all_nV|apply all_bV|apply all_iV|rfl|apply all_app)))|with_reducible refine Sr.nil ?_|(with_reducible apply T.ofRet)|(apply T.retC;apply rfl;((repeat' first|apply RV.nil|(apply RV.tmp;apply rfl)|(apply RV.cellW;apply rfl;apply rfl;infer_instance;(first|rfl|(simp only [List.length_append,List.length_map,List.length_set,List.length_replicate,List.length_cons,List.length_nil];first|done|omega)))|(apply RV.cellP;apply rfl;apply rfl;infer_instance;apply rfl)));apply rfl)|fail)
   exact ⟨_,PSub.take Z0 (PSub.drop (PSub.refl _)),oa,oc,s,rfl,rfl⟩
 rw [if_neg (show ¬c=(116:UInt8).toNat from h5)]
 repeat' (first|((first|apply T.mv|apply T.asn);apply rfl;apply rfl)|((first|apply T.leq|apply T.geq|apply T.eql);(iterate 3 apply rfl))|(apply T.pickT;(iterate 3 apply rfl))|(apply T.pickF;(iterate 3 apply rfl))|(with_reducible first|refine Sr.nil ?_|refine S.seq ?_|refine S.block ?_|refine S.reg ?_|refine S.skip ?_|refine S.inBlock ?_)|(apply T.ungV;apply rfl;(first|with_reducible rfl|decide))|(apply T.skip;apply rfl;(first|with_reducible rfl|decide);apply rfl)|(apply S.condFV;apply rfl;(first|with_reducible rfl|decide))|(apply S.condQ;apply rfl;all_goals (intro _;try (exfalso;first|omega|with_reducible contradiction)))|(apply T.gcase;apply rfl;apply rfl;all_goals (intro _;try (exfalso;first|omega|with_reducible contradiction)))|(with_reducible apply T.ofRet)|fail)
 all_goals
  refine T.call rfl rfl Z5 ?_
  rintro _ _ ⟨rfl,rfl⟩
  repeat' (first|(apply T.storeW;apply rfl;apply rfl;infer_instance;(first|rfl|(simp only [List.length_append,List.length_map,List.length_set,List.length_replicate,List.length_cons,List.length_nil];first|done|omega));(first|rfl|(simp only [List.length_append,List.length_map,List.length_set,List.length_replicate,List.length_cons,List.length_nil];first|done|omega));(first|rfl|(repeat' first|apply all_nV|apply all_bV|apply all_iV|rfl|apply all_app)))|with_reducible refine Sr.nil ?_|(with_reducible apply T.ofRet)|(apply T.retC;apply rfl;((repeat' first|apply RV.nil|(apply RV.tmp;apply rfl)|(apply RV.cellW;apply rfl;apply rfl;infer_instance;(first|rfl|(simp only [List.length_append,List.length_map,List.length_set,List.length_replicate,List.length_cons,List.length_nil];first|done|omega)))|(apply RV.cellP;apply rfl;apply rfl;infer_instance;apply rfl)));apply rfl)|fail)
  exact ⟨_,PSub.drop (PSub.refl _),[],rfl,rfl⟩
theorem Z3F (hp:¬p < t.length) (hp2:p≤t.length) :
  Meets Tryz.prog 115 [sV t,.int .i64 p,.int .i64 o] F M H (VaE H (.bad 31 p)):=by
 refine Meets.enter Tryz.func115 rfl rfl ?_
 repeat' (first|(apply T.mv;apply rfl;apply rfl)|(apply T.alloc;apply rfl;intro nb)|(with_reducible first|refine Sr.nil ?_|refine S.seq ?_|refine S.reg ?_)|fail)
 refine T.call rfl rfl Z4 ?_
 rintro _ _ ⟨rfl,rfl⟩
 rw [ZX hp]
 repeat' (first|((first|apply T.mv|apply T.asn);apply rfl;apply rfl)|((first|apply T.geq|apply T.eql);(iterate 3 apply rfl))|(apply T.pickF;(iterate 3 apply rfl))|(with_reducible first|refine Sr.nil ?_|refine S.seq ?_|refine S.block ?_|refine S.reg ?_|refine S.skip ?_|refine S.inBlock ?_)|(apply T.ungV;apply rfl;(first|with_reducible rfl|decide))|(apply T.skip;apply rfl;(first|with_reducible rfl|decide);apply rfl)|(apply S.condFV;apply rfl;(first|with_reducible rfl|decide))|(with_reducible apply T.ofRet)|fail)
 refine T.call rfl rfl Z5 ?_
 rintro _ _ ⟨rfl,rfl⟩
 repeat' (first|(apply T.storeW;apply rfl;apply rfl;infer_instance;(first|rfl|(simp only [List.length_append,List.length_map,List.length_set,List.length_replicate,List.length_cons,List.length_nil];first|done|omega));(first|rfl|(simp only [List.length_append,List.length_map,List.length_set,List.length_replicate,List.length_cons,List.length_nil];first|done|omega));(first|rfl|(repeat' first|apply all_nV|apply all_bV|apply all_iV|rfl|apply all_app)))|with_reducible refine Sr.nil ?_|(with_reducible apply T.ofRet)|(apply T.retC;apply rfl;((repeat' first|apply RV.nil|(apply RV.tmp;apply rfl)|(apply RV.cellW;apply rfl;apply rfl;infer_instance;(first|rfl|(simp only [List.length_append,List.length_map,List.length_set,List.length_replicate,List.length_cons,List.length_nil];first|done|omega)))|(apply RV.cellP;apply rfl;apply rfl;infer_instance;apply rfl)));apply rfl)|fail)
 exact ⟨_,PSub.drop (PSub.refl _),[],rfl,rfl⟩
theorem Z3b (hl:t.length≤262144):∀ (d o:Nat),o+d=32→∀ {X:List Res} {q:Nat},q≤t.length→Meets Tryz.prog 115 [sV t,.int .i64 q,.int .i64 o] F M X (VaE X (valX Z9 t d q)):=by
 have key:∀ (d o:Nat),o+d=32→(∀ d',d=d'+1→∀ {X:List Res} {q:Nat},q≤t.length→Meets Tryz.prog 115 [sV t,.int .i64 q,.int .i64 ((o+1:Nat):Int)] F M X (VaE X (valX Z9 t d' q))) →
   ∀ {X:List Res} {q:Nat},q≤t.length→Meets Tryz.prog 115 [sV t,.int .i64 q,.int .i64 o] F M X (VaE X (valX Z9 t d q)):=by
  intro d o hod IH X q hq
  by_cases hlt:q < t.length
  ·have hc:t[q]?=some (t.getD q 0):=by simp [List.getD,hlt]
   have hI:Z1E t q=((t.getD q 0).toNat:Int):=ZB hlt
   have hbr:((t.getD q 0)=91∨(t.getD q 0)=123)↔((t.getD q 0).toNat=91∨(t.getD q 0).toNat=123):=or_congr Z74 Z74
   by_cases hb:(t.getD q 0).toNat=91∨(t.getD q 0).toNat=123
   ·cases d with
    | zero =>
     have hX:valX Z9 t 0 q=.bad 11 q:=by
      rw [valX]
      simp only [hc]
      rw [if_pos (hbr.2 hb)]
     rw [hX]
     obtain rfl:o=32:=by omega
     refine Meets.enter Tryz.func115 rfl rfl ?_
     repeat' (first|(apply T.mv;apply rfl;apply rfl)|(apply T.alloc;apply rfl;intro nb)|(with_reducible first|refine Sr.nil ?_|refine S.seq ?_|refine S.reg ?_)|fail)
     refine T.call rfl rfl Z4 ?_
     rintro _ _ ⟨rfl,rfl⟩
     rw [hI]
     rcases hb with hb|hb
     all_goals
      rw [hb]
      repeat' (first|((first|apply T.mv|apply T.asn);apply rfl;apply rfl)|(apply T.eql;(iterate 3 apply rfl))|(apply T.pickT;(iterate 3 apply rfl))|(apply T.pickF;(iterate 3 apply rfl))|(with_reducible first|refine Sr.nil ?_|refine S.seq ?_|refine S.block ?_|refine S.reg ?_)|(apply T.ungV;apply rfl;(first|with_reducible rfl|decide))|(apply T.skip;apply rfl;(first|with_reducible rfl|decide);apply rfl)|(apply S.condTV;apply rfl;(first|with_reducible rfl|decide))|(with_reducible apply T.ofRet)|fail)
      refine T.call rfl rfl Z5 ?_
      rintro _ _ ⟨rfl,rfl⟩
      repeat' (first|(apply T.storeW;apply rfl;apply rfl;infer_instance;(first|rfl|(simp only [List.length_append,List.length_map,List.length_set,List.length_replicate,List.length_cons,List.length_nil];first|done|omega));(first|rfl|(simp only [List.length_append,List.length_map,List.length_set,List.length_replicate,List.length_cons,List.length_nil];first|done|omega));(first|rfl|(repeat' first|apply all_nV|apply all_bV|apply all_iV|rfl|apply all_app)))|with_reducible refine Sr.nil ?_|(with_reducible apply T.ofRet)|(apply T.retC;apply rfl;((repeat' first|apply RV.nil|(apply RV.tmp;apply rfl)|(apply RV.cellW;apply rfl;apply rfl;infer_instance;(first|rfl|(simp only [List.length_append,List.length_map,List.length_set,List.length_replicate,List.length_cons,List.length_nil];first|done|omega)))|(apply RV.cellP;apply rfl;apply rfl;infer_instance;apply rfl)));apply rfl)|fail)
      exact ⟨_,PSub.drop (PSub.refl _),[],rfl,rfl⟩
    | succ d =>
     have e1:(o:Int)+1=((o+1:Nat):Int):=by omega
     obtain ⟨obj,hobj,hbo⟩:∃ obj:Bool,decide (t.getD q 0=123)=obj∧decide ((((t.getD q 0).toNat:Nat):Int)=123)=obj:=by
      refine ⟨_,rfl,?_⟩
      rw [decide_eq_decide,Z74]
      exact ⟨fun h=>by simpa using Int.ofNat.inj h,fun h=>by rw [h];rfl⟩
     have hX:valX Z9 t (d+1) q=if atB t (Z2 t (q+1)) (ZG obj) then .ok (Z2 t (q+1)+1) [nd (Z1A obj)] else rowX (valX Z9 t d) t obj (t.length+1) (Z2 t (q+1)) [] (nd (Z1A obj)) []:=by
      rw [valX]
      simp only [hc]
      rw [if_pos (hbr.2 hb),hobj]
      have hk:(if t.getD q 0=123 then (7:Int) else 6)=Z1A obj:=by
       unfold Z1A
       rw [←hobj]
       simp only [decide_eq_true_eq]
      rw [hk]
     rw [hX]
     refine Meets.enter Tryz.func115 rfl rfl ?_
     repeat' (first|(apply T.mv;apply rfl;apply rfl)|(apply T.alloc;apply rfl;intro nb)|(with_reducible first|refine Sr.nil ?_|refine S.seq ?_|refine S.reg ?_)|fail)
     refine T.call rfl rfl Z4 ?_
     rintro _ _ ⟨rfl,rfl⟩
     rw [hI]
     have ho:¬((o:Int)=32):=by omega
     have hrow:=fun {X:List Res}=>Z4s (F:=F) (M:=M) (H:=X) (o:=o+1) (obj:=obj) (Z34 (wh:=Z9) (t:=t) d) (IH d rfl) hlt hl
     generalize (if atB t (Z2 t (q+1)) (ZG obj) then (.ok (Z2 t (q+1)+1) [nd (Z1A obj)]:Gt (List Nd)) else rowX (valX Z9 t d) t obj (t.length+1) (Z2 t (q+1)) [] (nd (Z1A obj)) [])=R at *
     have hb2:((t.getD q 0).toNat=91∧obj=false)∨((t.getD q 0).toNat=123∧obj=true):=by
      rcases hb with hb|hb
      ·exact .inl ⟨hb,by rw [←hbo,hb];rfl⟩
      ·exact .inr ⟨hb,by rw [←hbo,hb];rfl⟩
     rcases hb2 with ⟨hb,rfl⟩|⟨hb,rfl⟩
     all_goals
      repeat' (first|(apply T.addI;apply rfl;apply rfl;omega;apply rfl;rw [e1])|(apply T.eql;(iterate 3 apply rfl);try rw [hbo])|((first|apply T.mv|apply T.asn);apply rfl;apply rfl)|(apply T.pickT;(iterate 3 apply rfl))|(apply T.pickF;(iterate 3 apply rfl))|(with_reducible first|refine Sr.nil ?_|refine S.seq ?_|refine S.block ?_|refine S.reg ?_|refine S.skip ?_)|(apply T.ungV;apply rfl;(first|with_reducible rfl|decide))|(apply T.skip;apply rfl;(first|with_reducible rfl|decide);apply rfl)|(apply S.condTV;apply rfl;(first|with_reducible rfl|decide))|(apply S.condQ;apply rfl;all_goals (intro _;try (exfalso;first|omega|with_reducible contradiction)))|(apply T.gcase;apply rfl;apply rfl;all_goals (intro _;try (exfalso;first|omega|with_reducible contradiction)))|(with_reducible apply T.ofRet)|fail)
      refine T.call rfl rfl hrow ?_
      cases R with
      | bad c b =>
       rintro _ _ ⟨s,rfl,rfl⟩
       repeat' (first|(apply T.storeW;apply rfl;apply rfl;infer_instance;(first|rfl|(simp only [List.length_append,List.length_map,List.length_set,List.length_replicate,List.length_cons,List.length_nil];first|done|omega));(first|rfl|(simp only [List.length_append,List.length_map,List.length_set,List.length_replicate,List.length_cons,List.length_nil];first|done|omega));(first|rfl|(repeat' first|apply all_nV|apply all_bV|apply all_iV|rfl|apply all_app)))|with_reducible refine Sr.nil ?_|(with_reducible apply T.ofRet)|(apply T.retC;apply rfl;((repeat' first|apply RV.nil|(apply RV.tmp;apply rfl)|(apply RV.cellW;apply rfl;apply rfl;infer_instance;(first|rfl|(simp only [List.length_append,List.length_map,List.length_set,List.length_replicate,List.length_cons,List.length_nil];first|done|omega)))|(apply RV.cellP;apply rfl;apply rfl;infer_instance;apply rfl)));apply rfl)|fail)
       exact ⟨_,PSub.drop (PSub.refl _),s,rfl,rfl⟩
      | ok a l =>
       rintro _ _ ⟨oa,oc,s,rfl,rfl⟩
       repeat' (first|(apply T.storeW;apply rfl;apply rfl;infer_instance;(first|rfl|(simp only [List.length_append,List.length_map,List.length_set,List.length_replicate,List.length_cons,List.length_nil];first|done|omega));(first|rfl|(simp only [List.length_append,List.length_map,List.length_set,List.length_replicate,List.length_cons,List.length_nil];first|done|omega));(first|rfl|(repeat' first|apply all_nV|apply all_bV|apply all_iV|rfl|apply all_app)))|with_reducible refine Sr.nil ?_|(with_reducible apply T.ofRet)|(apply T.retC;apply rfl;((repeat' first|apply RV.nil|(apply RV.tmp;apply rfl)|(apply RV.cellW;apply rfl;apply rfl;infer_instance;(first|rfl|(simp only [List.length_append,List.length_map,List.length_set,List.length_replicate,List.length_cons,List.length_nil];first|done|omega)))|(apply RV.cellP;apply rfl;apply rfl;infer_instance;apply rfl)));apply rfl)|fail)
       exact ⟨_,PSub.take Z0 (PSub.drop (PSub.refl _)),oa,oc,s,rfl,rfl⟩
   ·have hX:valX Z9 t d q=ZT Z9 t q (t.getD q 0):=by
     rw [valX]
     simp only [hc]
     rw [if_neg (fun h=>hb (hbr.1 h))]
    rw [hX]
    exact Z3J hlt hl (fun h=>hb (.inl h)) (fun h=>hb (.inr h))
  ·have hX:valX Z9 t d q=.bad 31 q:=by
    rw [valX]
    simp only [List.getElem?_eq_none (show t.length≤q by omega)]
   rw [hX]
   exact Z3F hlt hq
 intro d
 induction d with
 | zero=>exact fun o ho=>key 0 o ho (fun d' h=>by omega)
 | succ d IH=>exact fun o ho=>key (d+1) o ho (fun d' h=>by
   obtain rfl:d=d':=by omega
   exact IH (o+1) (by omega))
theorem Z3d {t:List UInt8}:Meets Tryz.prog 97 [sV t] F M H (ParP H (ZM Z9 t)):=by
 refine Meets.enter Tryz.func97 rfl rfl ?_
 unfold ZM
 by_cases hl:262144 < t.length
 ·rw [if_pos hl]
  repeat' (first|((first|apply T.slen|apply T.mv|apply T.asn);apply rfl;apply rfl)|(apply T.gtr;(iterate 3 apply rfl))|(with_reducible first|refine Sr.nil ?_|refine S.seq ?_|refine S.reg ?_)|(apply S.condQ;apply rfl;all_goals (intro _;try (exfalso;first|omega|with_reducible contradiction)))|(apply T.retW;apply rfl)|fail)
  exact ⟨_,PSub.refl _,rfl,rfl⟩
 rw [if_neg hl]
 have hs1:=Zb (t:=t) (p:=0) (Nat.zero_le _)
 have hR:=Z34 (wh:=Z9) (t:=t) 32
 have hnm:=hR.named (Z2 t 0) hs1
 have hft:=hR.fits (Z2 t 0) hs1
 repeat' (first|((first|apply T.slen|apply T.mv|apply T.asn);apply rfl;apply rfl)|(apply T.gtr;(iterate 3 apply rfl))|(with_reducible first|refine Sr.nil ?_|refine S.seq ?_|refine S.reg ?_|refine S.skip ?_)|(apply S.condQ;apply rfl;all_goals (intro _;try (exfalso;first|omega|with_reducible contradiction)))|fail)
 refine T.call rfl rfl (Zv (p:=0) (Nat.zero_le _) (by omega)) ?_
 rintro _ _ ⟨rfl,rfl⟩
 repeat' (first|(with_reducible apply T.ofRet)|fail)
 refine T.call rfl rfl (Z3b (by omega) 32 0 rfl hs1) ?_
 cases hx:valX Z9 t 32 (Z2 t 0) with
 | bad c b =>
  have hc:=hnm c b hx
  rintro _ _ ⟨s,rfl,rfl⟩
  repeat' (first|((first|apply T.asn|apply T.fieldAddrZ);apply rfl;apply rfl)|(apply T.load;apply rfl;apply rfl;infer_instance;apply rfl;apply rfl)|(apply T.neq;(iterate 3 apply rfl))|(apply T.storeW;apply rfl;apply rfl;infer_instance;(first|rfl|(simp only [List.length_append,List.length_map,List.length_set,List.length_replicate,List.length_cons,List.length_nil];first|done|omega));(first|rfl|(simp only [List.length_append,List.length_map,List.length_set,List.length_replicate,List.length_cons,List.length_nil];first|done|omega));(first|rfl|(repeat' first|apply all_nV|apply all_bV|apply all_iV|rfl|apply all_app)))|(apply T.alloc;apply rfl;intro nb)|(with_reducible first|refine Sr.nil ?_|refine S.seq ?_|refine S.reg ?_)|(apply S.quiet;apply rfl;kernel_rfl)|(apply S.condQ;apply rfl;all_goals (intro _;try (exfalso;first|omega|with_reducible contradiction)))|(apply T.retW;apply rfl)|(with_reducible apply T.ofRet)|fail)
  exact ⟨_,PSub.drop (PSub.refl _),rfl,rfl⟩
 | ok a l =>
  obtain ⟨hf1,hf2⟩:=hft a l hx
  have hs2:=Zb hf2
  rintro _ _ ⟨oa,oc,s,rfl,rfl⟩
  simp only [Gt.bind]
  repeat' (first|((first|apply T.mv|apply T.fieldAddrZ);apply rfl;apply rfl)|(apply T.load;apply rfl;apply rfl;infer_instance;apply rfl;apply rfl)|(apply T.neq;(iterate 3 apply rfl))|(apply T.storeW;apply rfl;apply rfl;infer_instance;(first|rfl|(simp only [List.length_append,List.length_map,List.length_set,List.length_replicate,List.length_cons,List.length_nil];first|done|omega));(first|rfl|(simp only [List.length_append,List.length_map,List.length_set,List.length_replicate,List.length_cons,List.length_nil];first|done|omega));(first|rfl|(repeat' first|apply all_nV|apply all_bV|apply all_iV|rfl|apply all_app)))|(apply T.alloc;apply rfl;intro nb)|(with_reducible first|refine Sr.nil ?_|refine S.seq ?_|refine S.reg ?_|refine S.skip ?_)|(apply S.condFV;apply rfl;(first|with_reducible rfl|decide))|(with_reducible apply T.ofRet)|fail)
  refine T.call rfl rfl (Zv hf2 (by omega)) ?_
  rintro _ _ ⟨rfl,rfl⟩
  generalize Z2 t a=w at *
  by_cases h1:w < t.length
  ·rw [if_pos h1]
   repeat' (first|((first|apply T.slen|apply T.mv|apply T.asn);apply rfl;apply rfl)|(apply T.lss;(iterate 3 apply rfl))|(with_reducible first|refine Sr.nil ?_|refine S.seq ?_|refine S.reg ?_)|(apply S.condQ;apply rfl;all_goals (intro _;try (exfalso;first|omega|with_reducible contradiction)))|(apply T.retW;apply rfl)|(with_reducible apply T.ofRet)|fail)
   exact ⟨_,PSub.drop (PSub.drop (PSub.refl _)),rfl,rfl⟩
  ·rw [if_neg h1]
   repeat' (first|((first|apply T.slen|apply T.mv|apply T.asn|apply T.fieldAddrZ);apply rfl;apply rfl)|(apply T.load;apply rfl;apply rfl;infer_instance;apply rfl;apply rfl)|(apply T.lss;(iterate 3 apply rfl))|(with_reducible first|refine Sr.nil ?_|refine S.seq ?_|refine S.reg ?_|refine S.skip ?_)|(apply S.condQ;apply rfl;all_goals (intro _;try (exfalso;first|omega|with_reducible contradiction)))|(apply T.retW;apply rfl)|(with_reducible apply T.ofRet)|fail)
   exact ⟨_,PSub.drop (PSub.refl _),oa,oc,rfl,rfl⟩
end
end Go.Proofs.YthomgjihagigcaaGreatDoor
/- The walks of the document's reader of rules: words. -/
/- guards -/
namespace Go.Proofs.YthomgjihagigcaaGreatDoor
open Sg Go.IntWalk
set_option maxRecDepth 100000
set_option maxHeartbeats 4000000
section
variable {F:World} {M:List Nat} {H:List Res} {t s:List UInt8} {p oc n:Nat} {a:Nat} {o er bd:Int} {oa:Option Addr} {k:Nat} {c:UInt8}
abbrev rdV (t:List UInt8) (a:Nat) (oa:Option Addr) (n oc:Nat) (o er bd:Int):List Value:=[sV t,.int .i64 a,.slice oa n oc,.int .i64 o,.int .i64 er,.int .i64 bd]
abbrev rdR (p:Nat) (t:List UInt8) (a:Nat) (oa:Option Addr) (n oc:Nat) (o er bd:Int) (H:List Res):List Res:=.blk p (rdV t a oa n oc o er bd) 79::H
theorem Z0E:Meets Tryz.prog 71 [.int .u8 (c.toNat:Nat)] F M H (fun e H'=>e=.returned (.bool (letB c))∧H'=H):=by
 refine Meets.enter Tryz.func71 rfl rfl ?_
 have hc:=c.toNat_lt
 repeat' (first|((first|apply T.mv|apply T.asn);apply rfl;apply rfl)|((first|apply T.leq|apply T.geq|apply T.eql);(iterate 3 apply rfl))|(apply T.pickT;(iterate 3 apply rfl))|(apply T.pickF;(iterate 3 apply rfl))|(with_reducible first|refine Sr.nil ?_|refine S.seq ?_|refine S.reg ?_)|(apply T.ungV;apply rfl;(first|with_reducible rfl|decide))|(apply T.skip;apply rfl;(first|with_reducible rfl|decide);apply rfl)|(apply T.skipU;apply rfl;apply rfl)|(apply T.gcase;apply rfl;apply rfl;all_goals (intro _;try (exfalso;first|omega|with_reducible contradiction)))|(apply T.retW;apply rfl)|fail)
 all_goals exact ⟨_,PSub.refl _,Z7B (by first|exact (decide_eq_true (by omega)).symm|exact (decide_eq_false (by omega)).symm|exact decide_eq_decide.2 (by omega)),rfl⟩
theorem Zm:Meets Tryz.prog 72 [.int .u8 (c.toNat:Nat)] F M H (fun e H'=>e=.returned (.bool (Za c))∧H'=H):=by
 refine Meets.enter Tryz.func72 rfl rfl ?_
 have hc:=c.toNat_lt
 rw [Z1t]
 repeat' (first|((first|apply T.mv|apply T.asn);apply rfl;apply rfl)|((first|apply T.leq|apply T.geq);(iterate 3 apply rfl))|(apply T.pickT;(iterate 3 apply rfl))|(apply T.pickF;(iterate 3 apply rfl))|(with_reducible first|refine Sr.nil ?_|refine S.seq ?_|refine S.reg ?_)|(apply T.ungV;apply rfl;(first|with_reducible rfl|decide))|(apply T.skip;apply rfl;(first|with_reducible rfl|decide);apply rfl)|(apply T.gcase;apply rfl;apply rfl;all_goals (intro _;try (exfalso;first|omega|with_reducible contradiction)))|(apply T.retW;apply rfl)|fail)
 all_goals exact ⟨_,PSub.refl _,Z7B (by first|exact (decide_eq_true (by omega)).symm|exact (decide_eq_false (by omega)).symm|exact decide_eq_decide.2 (by omega)),rfl⟩
theorem Z8 {z:Int} {b:Nat}:Meets Tryz.prog 30 [.pointer (some ⟨p,0,none⟩),.int .i64 z,.int .i64 b] F M (rdR p t a oa n oc o 0 bd H) (fun e H'=>e=.returned (.tuple ⟨[]⟩)∧H'=rdR p t a oa n oc o z b H):=by
 refine Meets.enter Tryz.func30 rfl rfl ?_
 repeat' (first|((first|apply T.mv|apply T.nilCheck|apply T.fieldAddrZ);apply rfl;apply rfl)|(apply T.load;apply rfl;apply rfl;infer_instance;apply rfl;apply rfl)|(apply T.eql;(iterate 3 apply rfl))|(apply T.store;apply rfl;apply rfl;infer_instance;(first|decide|(simp;omega)|simp);apply rfl)|(with_reducible first|refine Sr.nil ?_|refine S.seq ?_|refine S.reg ?_)|(apply S.condTV;apply rfl;(first|with_reducible rfl|decide))|(apply T.doneW;apply rfl)|fail)
 exact ⟨_,PSub.refl _,rfl,rfl⟩
theorem Zk (ha:a≤t.length) (hl:t.length≤1024):Meets Tryz.prog 29 [.pointer (some ⟨p,0,none⟩)] F M (rdR p t a oa n oc o er bd H) (fun e H'=>e=.returned (.bool (decide (Z2 t a < t.length)))∧H'=rdR p t (Z2 t a) oa n oc o er bd H):=by
 refine Meets.enter Tryz.func29 rfl rfl ?_
 have hsl:=Zj (t:=t) ha
 generalize hQ:Z2 t a=Q at *
 have hdec:decide (Q < t.length)=decide ((Q:Int) < (t.length:Int)):=by rw [decide_eq_decide];omega
 rw [hdec]
 repeat' (first|(apply T.asn;apply rfl;apply rfl)|(with_reducible first|refine Sr.nil ?_|refine S.seq ?_|refine S.block ?_|refine S.reg ?_)|fail)
 refine S.loopE 1 [0] (fun R b' μ H' e=>∃ q:Nat,H'=rdR p t q oa n oc o er bd R∧e=b'∧(q≤t.length∧Z2 t q=Q)∧μ=t.length - q) rfl rfl ?_ _ _ ⟨a,rfl,rfl,⟨ha,hQ⟩,rfl⟩ (by repeat' first|exact trivial|refine And.intro rfl ?_)
 rintro _ _ _ ⟨q,rfl,rfl,⟨h1,h2⟩,rfl⟩ ih
 have hb:bAt t q=(t.getD q 0).toNat:=rfl
 by_cases h3:q < t.length
 ·have hu:=(t.getD q 0).toNat_lt
  by_cases h4:bAt t q=32∨bAt t q=9∨bAt t q=10∨bAt t q=13
  ·have h6:Z2 t (q+1)=Q:=(Z37 h4).symm.trans h2
   rcases h4 with h4|h4|h4|h4
   all_goals
    repeat' (first|((first|apply T.slen|apply T.mv|apply T.nilCheck|apply T.fieldAddrZ);apply rfl;apply rfl)|(apply T.sidx;apply rfl;apply rfl;omega;apply rfl)|(apply T.load;apply rfl;apply rfl;infer_instance;apply rfl;apply rfl)|((first|apply T.lss|apply T.eql);(iterate 3 apply rfl))|(apply T.addI;apply rfl;apply rfl;omega;apply rfl)|(apply T.pickT;(iterate 3 apply rfl))|(apply T.pickF;(iterate 3 apply rfl))|(apply T.store;apply rfl;apply rfl;infer_instance;(first|decide|(simp;omega)|simp);apply rfl)|(with_reducible first|refine Sr.nil ?_|refine S.seq ?_|refine S.block ?_|refine S.reg ?_|refine S.skip ?_|refine S.inBlock ?_)|(apply S.quiet;apply rfl;kernel_rfl)|(apply T.ungV;apply rfl;(first|with_reducible rfl|decide))|(apply T.skip;apply rfl;(first|with_reducible rfl|decide);apply rfl)|(apply S.condTV;apply rfl;(first|with_reducible rfl|decide))|(apply S.condQ;apply rfl;all_goals (intro _;try (exfalso;first|omega|with_reducible contradiction)))|(apply T.gcase;apply rfl;apply rfl;all_goals (intro _;try (exfalso;first|omega|with_reducible contradiction)))|fail)
    exact ih _ _ _ _ ⟨q+1,rfl,rfl,⟨h3,h6⟩,rfl⟩ (by omega) (by repeat' first|exact trivial|refine And.intro rfl ?_)
  ·have h5:q=Q:=(Z1X h4).symm.trans h2
   subst h5
   clear ih
   repeat' (first|((first|apply T.slen|apply T.mv|apply T.asn|apply T.nilCheck|apply T.fieldAddrZ);apply rfl;apply rfl)|(apply T.sidx;apply rfl;apply rfl;omega;apply rfl)|(apply T.load;apply rfl;apply rfl;infer_instance;apply rfl;apply rfl)|((first|apply T.lss|apply T.eql);(iterate 3 apply rfl))|(apply T.pickT;(iterate 3 apply rfl))|(apply T.pickF;(iterate 3 apply rfl))|(with_reducible first|refine Sr.nil ?_|refine S.seq ?_)|(apply S.exit;apply rfl)|(apply S.quiet;apply rfl;kernel_rfl)|(apply T.ungV;apply rfl;(first|with_reducible rfl|decide))|(apply S.condQ;apply rfl;all_goals (intro _;try (exfalso;first|omega|with_reducible contradiction)))|(apply T.gcase;apply rfl;apply rfl;all_goals (intro _;try (exfalso;first|omega|with_reducible contradiction)))|(apply T.retW;apply rfl)|fail)
   exact ⟨_,PSub.refl _,rfl,rfl⟩
 ·have h5:q=Q:=(Z0r (by omega)).symm.trans h2
  subst h5
  clear ih
  repeat' (first|((first|apply T.slen|apply T.mv|apply T.asn|apply T.nilCheck|apply T.fieldAddrZ);apply rfl;apply rfl)|(apply T.load;apply rfl;apply rfl;infer_instance;apply rfl;apply rfl)|(apply T.lss;(iterate 3 apply rfl))|(apply T.pickF;(iterate 3 apply rfl))|(with_reducible first|refine Sr.nil ?_|refine S.seq ?_)|(apply S.exit;apply rfl)|(apply S.quiet;apply rfl;kernel_rfl)|(apply T.skip;apply rfl;(first|with_reducible rfl|decide);apply rfl)|(apply T.skipU;apply rfl;apply rfl)|(apply S.condFV;apply rfl;(first|with_reducible rfl|decide))|(apply T.gcase;apply rfl;apply rfl;all_goals (intro _;try (exfalso;first|omega|with_reducible contradiction)))|(apply T.retW;apply rfl)|fail)
  exact ⟨_,PSub.refl _,rfl,rfl⟩
theorem ZA (ha:a≤t.length) (hl:t.length≤1024):Meets Tryz.prog 58 [.pointer (some ⟨p,0,none⟩)] F M (rdR p t a oa n oc o er bd H) (fun e H'=>e=.returned (sV (wdX t a))∧H'=rdR p t a oa n oc o er bd H):=by
 refine Meets.enter Tryz.func58 rfl rfl ?_
 have hle:=Z1v (t:=t) ha
 have hge:=Z4c (t:=t) (p:=a)
 unfold wdX
 generalize hQ:wdE t a=Q at *
 repeat' (first|((first|apply T.mv|apply T.asn|apply T.nilCheck|apply T.fieldAddrZ);apply rfl;apply rfl)|(apply T.load;apply rfl;apply rfl;infer_instance;apply rfl;apply rfl)|(with_reducible first|refine Sr.nil ?_|refine S.seq ?_|refine S.block ?_|refine S.reg ?_)|fail)
 refine S.loopE 1 [0] (fun R b' μ H' e=>∃ q:Nat,H'=rdR p t a oa n oc o er bd R∧e=(3,.int .i64 q)::b'∧(q≤t.length∧wdE t q=Q)∧μ=t.length - q) rfl rfl ?_ _ _ ⟨a,rfl,rfl,⟨ha,hQ⟩,rfl⟩ (by repeat' first|exact trivial|refine And.intro rfl ?_)
 rintro _ _ _ ⟨q,rfl,rfl,⟨h1,h2⟩,rfl⟩ ih
 by_cases h3:q < t.length
 ·repeat' (first|((first|apply T.slen|apply T.mv|apply T.nilCheck|apply T.fieldAddrZ);apply rfl;apply rfl)|(apply T.sidx;apply rfl;apply rfl;omega;apply rfl)|(apply T.load;apply rfl;apply rfl;infer_instance;apply rfl;apply rfl)|(apply T.lss;(iterate 3 apply rfl))|(with_reducible first|refine S.seq ?_|refine S.reg ?_)|(apply T.ungV;apply rfl;(first|with_reducible rfl|decide))|(apply T.gcase;apply rfl;apply rfl;all_goals (intro _;try (exfalso;first|omega|with_reducible contradiction)))|fail)
  refine T.call rfl rfl (Z0E (c:=t.getD q 0)) ?_
  rintro _ _ ⟨rfl,rfl⟩
  cases hb:letB (t.getD q 0) with
  | true =>
   have h6:wdE t (q+1)=Q:=(Z1l h3 (by unfold wdB;rw [hb];rfl)).symm.trans h2
   repeat' (first|((first|apply T.mv|apply T.asn);apply rfl;apply rfl)|(apply T.addI;apply rfl;apply rfl;omega;apply rfl)|(apply T.pickT;(iterate 3 apply rfl))|(with_reducible first|refine Sr.nil ?_|refine S.block ?_|refine S.reg ?_|refine S.skip ?_|refine S.inBlock ?_)|(apply T.ungV;apply rfl;(first|with_reducible rfl|decide))|(apply T.skip;apply rfl;(first|with_reducible rfl|decide);apply rfl)|(apply S.condTV;apply rfl;(first|with_reducible rfl|decide))|(with_reducible apply T.ofRet)|fail)
   exact ih _ _ _ _ ⟨q+1,rfl,rfl,⟨h3,h6⟩,rfl⟩ (by omega) (by repeat' first|exact trivial|refine And.intro rfl ?_)
  | false =>
   repeat' (first|(apply T.sidx;apply rfl;apply rfl;omega;apply rfl)|((first|apply T.mv|apply T.nilCheck|apply T.fieldAddrZ);apply rfl;apply rfl)|(apply T.load;apply rfl;apply rfl;infer_instance;apply rfl;apply rfl)|(apply T.ungV;apply rfl;(first|with_reducible rfl|decide))|(with_reducible apply T.ofRet)|fail)
   refine T.call rfl rfl (Zm (c:=t.getD q 0)) ?_
   rintro _ _ ⟨rfl,rfl⟩
   cases hd:Za (t.getD q 0) with
   | true =>
    have h6:wdE t (q+1)=Q:=(Z1l h3 (by unfold wdB;rw [hb,hd];rfl)).symm.trans h2
    repeat' (first|((first|apply T.mv|apply T.asn);apply rfl;apply rfl)|(apply T.addI;apply rfl;apply rfl;omega;apply rfl)|(apply T.pickT;(iterate 3 apply rfl))|(apply T.pickF;(iterate 3 apply rfl))|(with_reducible first|refine Sr.nil ?_|refine S.block ?_|refine S.reg ?_|refine S.skip ?_|refine S.inBlock ?_)|(apply T.ungV;apply rfl;(first|with_reducible rfl|decide))|(apply S.condTV;apply rfl;(first|with_reducible rfl|decide))|(with_reducible apply T.ofRet)|fail)
    exact ih _ _ _ _ ⟨q+1,rfl,rfl,⟨h3,h6⟩,rfl⟩ (by omega) (by repeat' first|exact trivial|refine And.intro rfl ?_)
   | false =>
    have h5:q=Q:=(Z1k h3 (by unfold wdB;rw [hb,hd];rfl)).symm.trans h2
    subst h5
    clear ih
    repeat' (first|(apply T.sslice;(iterate 3 apply rfl);omega;apply rfl)|((first|apply T.mv|apply T.asn|apply T.nilCheck|apply T.fieldAddrZ);apply rfl;apply rfl)|(apply T.load;apply rfl;apply rfl;infer_instance;apply rfl;apply rfl)|(apply T.pickT;(iterate 3 apply rfl))|(apply T.pickF;(iterate 3 apply rfl))|(with_reducible first|refine Sr.nil ?_|refine S.seq ?_)|(apply S.exit;apply rfl)|(apply S.quiet;apply rfl;kernel_rfl)|(apply T.ungV;apply rfl;(first|with_reducible rfl|decide))|(apply S.condFV;apply rfl;(first|with_reducible rfl|decide))|(apply T.retW;apply rfl)|(with_reducible apply T.ofRet)|fail)
    exact ⟨_,PSub.refl _,rfl,rfl⟩
 ·have h5:q=Q:=(Z0r (by omega)).symm.trans h2
  subst h5
  clear ih
  repeat' (first|(apply T.sslice;(iterate 3 apply rfl);omega;apply rfl)|((first|apply T.slen|apply T.mv|apply T.asn|apply T.nilCheck|apply T.fieldAddrZ);apply rfl;apply rfl)|(apply T.load;apply rfl;apply rfl;infer_instance;apply rfl;apply rfl)|(apply T.lss;(iterate 3 apply rfl))|(apply T.pickF;(iterate 3 apply rfl))|(with_reducible first|refine Sr.nil ?_|refine S.seq ?_|refine S.reg ?_)|(apply S.exit;apply rfl)|(apply S.quiet;apply rfl;kernel_rfl)|(apply T.skip;apply rfl;(first|with_reducible rfl|decide);apply rfl)|(apply T.skipU;apply rfl;apply rfl)|(apply S.condFV;apply rfl;(first|with_reducible rfl|decide))|(apply T.gcase;apply rfl;apply rfl;all_goals (intro _;try (exfalso;first|omega|with_reducible contradiction)))|(apply T.retW;apply rfl)|fail)
  exact ⟨_,PSub.refl _,rfl,rfl⟩
end
end Go.Proofs.YthomgjihagigcaaGreatDoor
