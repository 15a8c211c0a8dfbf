/- Texts put together by a program: GtL Lock Defr GtO. -/
import Derived.Test.YthomgjihagigcaaGreatDoorMm
import Derived.Test.YthomgjihagigcaaGreatDoorMh
import Derived.Test.YthomgjihagigcaaGreatDoorFacts
import Derived.Test.YthomgjihagigcaaGreatDoorMa
import Derived.Conc.MuLone
import Derived.KernelRfl
import Derived.Test.YthomgjihagigcaaGreatDoorMb
/- The walks of the document's reader of rules: going down; its face. -/
/- guards -/
namespace Sg
theorem Z7o {t:List UInt8} {a:Nat}:gOp t a=gOp t (Z2 t a):=by
 unfold gOp
 rw [ZZ]
theorem Z0o {t:List UInt8} {a:Nat} (h:¬a < t.length):wdX t a=[]:=Z33 (by omega)
end Sg
namespace Go.Proofs.YthomgjihagigcaaGreatDoor
open Sg Go.IntWalk
set_option maxRecDepth 100000
set_option maxHeartbeats 4000000
section
variable {F:World} {M:List Nat} {H:List Res} {t s:List UInt8} {p oc n:Nat} {a:Nat} {o er bd:Int} {oa:Option Addr} {k K:Nat} {c:UInt8}
def RtP (p:Nat) (t:List UInt8) (o:Int) (H:List Res) (n a K:Nat):Rz→Ending→List Res→Prop
 | .to r=>fun e H'=>∃ (i:Int) (oa:Option Addr) (oc:Nat) (ns:List Rnd),e=.returned (.int .i64 i)∧ns.length+a≤n+r∧H'=rdT p t r oa oc ns o 0 0 H
 | .no c=>fun e H'=>∃ (i:Int) (oa:Option Addr) (oc:Nat) (ns:List Rnd) (a' b:Nat),e=.returned (.int .i64 i)∧(a'≤K∧ns.length≤K)∧H'=rdT p t a' oa oc ns o c b H
abbrev RDown (f:FuncId) (xs:List Value) (F:World) (M:List Nat) (p:Nat) (t:List UInt8) (o:Int) (H:List Res) (K:Nat) (A:Nat→Rz):Prop:=∀ (a:Nat) (ns:List Rnd) (oa:Option Addr) (oc:Nat),a≤t.length→ns.length≤a→Meets Tryz.prog f (.pointer (some ⟨p,0,none⟩)::xs) F M (rdT p t a oa oc ns o 0 0 H) (RtP p t o H ns.length a K (A a))
theorem RtP.any {Z:Rz} {lo:Nat} (hz:RzO t lo Z) (hK:1024≤K) (hl:t.length≤1024) (hn:n≤a) {e:Ending} {H':List Res} (h:RtP p t o H n a K Z e H') :
  ∃ (i:Int) (oa:Option Addr) (oc:Nat) (ns:List Rnd) (a':Nat) (z b:Int),e=.returned (.int .i64 i)∧H'=rdT p t a' oa oc ns o z b H∧(a'≤K∧ns.length≤K)∧((z=0∧b=0∧Z=.to a'∧lo≤a'∧a'≤t.length∧ns.length+a≤n+a')∨(Z=.no z∧z≠0∧∃ b':Nat,b=b')):=by
 cases Z with
 | no c =>
  obtain ⟨i,oa,oc,ns,a',b,h1,h2,h3⟩:=h
  exact ⟨i,oa,oc,ns,a',c,b,h1,h3,h2,.inr ⟨rfl,(by rcases hz with h|h<;>omega),b,rfl⟩⟩
 | to r =>
  obtain ⟨i,oa,oc,ns,h1,h2,h3⟩:=h
  have:=hz.2
  exact ⟨i,oa,oc,ns,r,0,0,h1,h3,⟨by omega,by omega⟩,.inl ⟨rfl,rfl,rfl,hz.1,hz.2,h2⟩⟩
theorem Z5C (hl:t.length≤1024):RDown 70 [] F M p t o H 1030 (Z2i t):=by
 intro a ns oa oc ha hn
 refine Meets.enter Tryz.func70 rfl rfl ?_
 generalize hG:Z2i t a=G
 unfold Z2i at hG
 repeat' (first|((first|apply T.mv|apply T.asn);apply rfl;apply rfl)|(with_reducible first|refine Sr.nil ?_|refine S.seq ?_|refine S.reg ?_)|fail)
 refine T.call rfl rfl (Z2G ha hl) ?_
 intro _ _ hh
 obtain ⟨_,a',z,b,⟨la,ln,lc,rfl⟩,rfl,rfl,g1,g2⟩:=hh.any gpath_ok
 clear hh
 rcases g2 with ⟨rfl,rfl,h3,h4⟩|⟨h1,h2,b',rfl⟩
 ·rw [h3] at hG
  dsimp only at hG
  rw [Z7o] at hG
  have hs1:=Zi (t:=t) (p:=a')
  have hs2:=Zj (t:=t) (p:=a') g1
  have hss:=ZZ (t:=t) (p:=a')
  repeat' (first|((first|apply T.mv|apply T.asn|apply T.nilCheck|apply T.fieldAddrZ);apply rfl;apply rfl)|(apply T.load;apply rfl;apply rfl;infer_instance;apply rfl;apply rfl)|(apply T.neq;(iterate 3 apply rfl))|(with_reducible first|refine Sr.nil ?_|refine S.seq ?_|refine S.reg ?_|refine S.skip ?_)|(apply S.condFV;apply rfl;(first|with_reducible rfl|decide))|(with_reducible apply T.ofRet)|fail)
  refine T.call rfl rfl (Zk g1 hl) ?_
  rintro _ _ ⟨rfl,rfl⟩
  generalize Z2 t a'=u at *
  by_cases h5:u < t.length
  ·rw [decide_eq_true h5]
   repeat' (first|((first|apply T.mv|apply T.asn);apply rfl;apply rfl)|(apply T.notB;apply rfl;apply rfl)|(with_reducible first|refine Sr.nil ?_|refine S.seq ?_|refine S.reg ?_|refine S.skip ?_)|(apply S.condFV;apply rfl;(first|with_reducible rfl|decide))|(with_reducible apply T.ofRet)|fail)
   refine T.call rfl rfl (Z5D h5 hss hl) ?_
   rintro _ _ ⟨z,m,rfl,rfl,hm⟩
   cases hg:gOp t u with
   | none =>
    rw [hg] at hm hG
    dsimp only at hm hG
    subst hm
    subst hG
    repeat' (first|((first|apply T.mv|apply T.asn|apply T.nilCheck|apply T.fieldAddrZ);apply rfl;apply rfl)|(apply T.load;apply rfl;apply rfl;infer_instance;apply rfl;apply rfl)|((first|apply T.eql|apply T.extract);(iterate 3 apply rfl))|(with_reducible first|refine Sr.nil ?_|refine S.seq ?_|refine S.reg ?_)|(apply S.condTV;apply rfl;(first|with_reducible rfl|decide))|(with_reducible apply T.ofRet)|fail)
    refine T.call rfl rfl Z8 ?_
    rintro _ _ ⟨rfl,rfl⟩
    repeat' (first|(apply T.asn;apply rfl;apply rfl)|(with_reducible first|refine Sr.nil ?_|refine S.seq ?_|refine S.reg ?_)|(apply T.retW;apply rfl)|(with_reducible apply T.ofRet)|fail)
    exact ⟨_,PSub.refl _,0,_,_,ns,u,u,rfl,⟨by omega,by omega⟩,rfl⟩
   | some br =>
    obtain ⟨b,r⟩:=br
    obtain ⟨u1,u2⟩:=Z6I hg
    rw [hg] at hm hG
    dsimp only at hm hG
    obtain ⟨hz0,rfl,rfl⟩:=hm
    repeat' (first|((first|apply T.mv|apply T.asn|apply T.nilCheck|apply T.fieldAddrZ);apply rfl;apply rfl)|(apply T.load;apply rfl;apply rfl;infer_instance;apply rfl;apply rfl)|((first|apply T.eql|apply T.extract);(iterate 3 apply rfl))|(apply T.addI;apply rfl;apply rfl;omega;apply rfl)|(apply T.store;apply rfl;apply rfl;infer_instance;(first|decide|(simp;omega)|simp);apply rfl)|(with_reducible first|refine Sr.nil ?_|refine S.seq ?_|refine S.reg ?_|refine S.skip ?_)|(apply S.condQ;apply rfl;all_goals (intro _;try (exfalso;first|omega|with_reducible contradiction)))|(with_reducible apply T.ofRet)|fail)
    refine T.call rfl rfl (Z4l u2 hl) ?_
    intro _ _ hh
    obtain ⟨_,a3,z3,b3,⟨kd,tx,rfl⟩,rfl,rfl,g3,g4⟩:=hh.any gval_ok
    clear hh
    repeat' (first|((first|apply T.mv|apply T.asn);apply rfl;apply rfl)|(apply T.extract;(iterate 3 apply rfl))|(apply T.buildL;(iterate 3 apply rfl))|(with_reducible first|refine Sr.nil ?_|refine S.seq ?_|refine S.reg ?_)|(with_reducible apply T.ofRet)|fail)
    refine T.call rfl rfl (Z0i (ns:=ns) (nd:=⟨z,-1,-1,la,ln,lc,kd,tx⟩) (by omega)) ?_
    rintro _ _ ⟨oa4,oc4,rfl,rfl⟩
    repeat' (first|(apply T.asn;apply rfl;apply rfl)|with_reducible refine Sr.nil ?_|(apply T.retW;apply rfl)|(with_reducible apply T.ofRet)|fail)
    have hL:(ns++[(⟨z,-1,-1,la,ln,lc,kd,tx⟩:Rnd)]).length=ns.length+1:=by rw [List.length_append];rfl
    have hb11:decide (z=11)=decide (z=11):=rfl
    rcases g4 with ⟨rfl,rfl,k3,k4⟩|⟨k1,k2,b',rfl⟩
    ·have hG2:G=.to a3:=hG.symm.trans k3
     subst hG2
     exact ⟨_,PSub.refl _,_,_,_,_,rfl,by rw [hL];omega,rfl⟩
    ·have hG2:G=.no z3:=hG.symm.trans k1
     subst hG2
     exact ⟨_,PSub.refl _,_,_,_,_,a3,b',rfl,⟨by omega,by rw [hL];omega⟩,rfl⟩
  ·rw [decide_eq_false h5]
   have hg:gOp t u=none:=by
    unfold gOp
    rw [hss,if_neg h5]
   rw [hg] at hG
   dsimp only at hG
   subst hG
   repeat' (first|((first|apply T.mv|apply T.asn|apply T.nilCheck|apply T.fieldAddrZ);apply rfl;apply rfl)|(apply T.load;apply rfl;apply rfl;infer_instance;apply rfl;apply rfl)|(apply T.notB;apply rfl;apply rfl)|(with_reducible first|refine Sr.nil ?_|refine S.seq ?_|refine S.reg ?_)|(apply S.condTV;apply rfl;(first|with_reducible rfl|decide))|(with_reducible apply T.ofRet)|fail)
   refine T.call rfl rfl Z8 ?_
   rintro _ _ ⟨rfl,rfl⟩
   repeat' (first|(apply T.asn;apply rfl;apply rfl)|(with_reducible first|refine Sr.nil ?_|refine S.seq ?_|refine S.reg ?_)|(apply T.retW;apply rfl)|(with_reducible apply T.ofRet)|fail)
   exact ⟨_,PSub.refl _,0,_,_,ns,u,u,rfl,⟨by omega,by omega⟩,rfl⟩
 ·rw [h1] at hG
  dsimp only at hG
  subst hG
  repeat' (first|((first|apply T.mv|apply T.asn|apply T.nilCheck|apply T.fieldAddrZ);apply rfl;apply rfl)|(apply T.load;apply rfl;apply rfl;infer_instance;apply rfl;apply rfl)|(apply T.neq;(iterate 3 apply rfl))|(with_reducible first|refine Sr.nil ?_|refine S.seq ?_|refine S.reg ?_)|(apply S.condQ;apply rfl;all_goals (intro _;try (exfalso;first|omega|with_reducible contradiction)))|(apply T.retW;apply rfl)|(with_reducible apply T.ofRet)|fail)
  exact ⟨_,PSub.refl _,0,_,_,ns,a',b',rfl,⟨by omega,by omega⟩,rfl⟩
theorem Z53 (hl:t.length≤1024) (hK:1024≤K) (hK2:K≤90000) {A:Nat→Rz} (hok:∀ p,p≤t.length→RzO t (p+1) (A p)) (hA:RDown 57 [] F M p t o H K A):RDown 46 [sV kAnd,.int .i64 1] F M p t o H (K+1) (ZW t A kAnd):=by
 intro a ns oa oc ha hn
 refine Meets.enter Tryz.func46 rfl rfl ?_
 generalize hG:ZW t A kAnd a=G
 unfold ZW at hG
 have hkl:kAnd.length=3:=rfl
 repeat' (first|((first|apply T.mv|apply T.asn);apply rfl;apply rfl)|(apply T.eql;(iterate 3 apply rfl))|(with_reducible first|refine Sr.nil ?_|refine S.seq ?_|refine S.reg ?_)|(apply S.condFV;apply rfl;(first|with_reducible rfl|decide))|fail)
 refine T.call rfl rfl (hA a ns oa oc ha hn) ?_
 intro _ _ hh
 obtain ⟨i,oa1,oc1,ns1,a',z,b,rfl,rfl,g1,g2⟩:=hh.any (hok a ha) hK hl hn
 clear hh
 have g3:z=0∧b=0∧a'≤t.length∧t.length < a'+(t.length+1)∧Z0A t A kAnd (t.length+1) a'=G∧ns1.length+a≤ns.length+a'∨G=.no z∧z≠0∧∃ b':Nat,b=b':=by
  rcases g2 with ⟨h1,h2,h3,h4,h5,h6⟩|⟨h1,h2,h3⟩
  ·rw [h3] at hG
   exact .inl ⟨h1,h2,h5,by omega,hG,h6⟩
  ·rw [h1] at hG
   exact .inr ⟨hG.symm,h2,h3⟩
 clear hG g2
 repeat' (first|(apply T.asn;apply rfl;apply rfl)|(with_reducible first|refine Sr.nil ?_|refine S.seq ?_|refine S.block ?_)|(with_reducible apply T.ofRet)|fail)
 refine S.loopE 2 [0,1,2] (fun R b' μ H' e=>∃ (q k oc2:Nat) (oa2:Option Addr) (ns2:List Rnd) (i z b:Int),H'=rdT p t q oa2 oc2 ns2 o z b R∧e=(7,.int .i64 i)::b'∧(q≤K+1∧ns2.length≤K+1∧(z=0∧b=0∧q≤t.length∧t.length < q+k∧Z0A t A kAnd k q=G∧ns2.length+a≤ns.length+q∨G=.no z∧z≠0∧∃ b':Nat,b=b'))∧μ=k+1) rfl rfl ?_ _ _ ⟨a',t.length+1,oc1,oa1,ns1,i,z,b,rfl,rfl,⟨by omega,by omega,g3⟩,rfl⟩ (by repeat' first|exact trivial|refine And.intro rfl ?_)
 clear g1 g3
 rintro _ _ _ ⟨q,k,oc2,oa2,ns2,i,z,b,rfl,rfl,⟨m1,m2,hor⟩,rfl⟩ ih
 rcases hor with ⟨rfl,rfl,h1,h2,h3,h4⟩|⟨h2,h3,b',rfl⟩
 ·obtain ⟨j,rfl⟩:∃ j,k=j+1:=⟨k - 1,by omega⟩
  rw [Z0A,hkl] at h3
  have h6:=Zi (t:=t) (p:=q)
  have hle:=Zj (t:=t) (p:=q) h1
  have n1:=Zk (F:=F) (M:=M) (H:=.row oa2 oc2 95 6 ns2.length (ns2.flatMap Sg.rnV)::H) (p:=p) (oa:=oa2) (n:=ns2.length) (oc:=oc2) (o:=o) (er:=0) (bd:=0) h1 hl
  generalize Z2 t q=u at *
  by_cases h8:u < t.length
  ·rw [decide_eq_true h8] at n1
   repeat' (first|((first|apply T.mv|apply T.nilCheck|apply T.fieldAddrZ);apply rfl;apply rfl)|(apply T.load;apply rfl;apply rfl;infer_instance;apply rfl;apply rfl)|(apply T.eql;(iterate 3 apply rfl))|(with_reducible first|refine S.seq ?_|refine S.reg ?_)|(apply T.ungV;apply rfl;(first|with_reducible rfl|decide))|fail)
   refine T.call rfl rfl n1 ?_
   rintro _ _ ⟨rfl,rfl⟩
   repeat' (first|(apply T.mv;apply rfl;apply rfl)|(apply T.pickT;(iterate 3 apply rfl))|(apply T.ungV;apply rfl;(first|with_reducible rfl|decide))|(with_reducible apply T.ofRet)|fail)
   refine T.call rfl rfl (ZA hle hl) ?_
   rintro _ _ ⟨rfl,rfl⟩
   by_cases e1:wdX t u=kAnd
   ·rw [if_pos e1] at h3
    rw [e1]
    have h7:=Zu (by decide) e1
    rw [hkl] at h7
    repeat' (first|(apply T.seql;(iterate 3 apply rfl);rw [decide_eq_true rfl])|((first|apply T.slen|apply T.mv|apply T.asn|apply T.nilCheck|apply T.fieldAddrZ);apply rfl;apply rfl)|(apply T.load;apply rfl;apply rfl;infer_instance;apply rfl;apply rfl)|(apply T.eql;(iterate 3 apply rfl))|(apply T.addI;apply rfl;apply rfl;omega;apply rfl)|(apply T.pickT;(iterate 3 apply rfl))|(apply T.store;apply rfl;apply rfl;infer_instance;(first|decide|(simp;omega)|simp);apply rfl)|(with_reducible first|refine Sr.nil ?_|refine S.seq ?_|refine S.block ?_|refine S.reg ?_|refine S.skip ?_)|(apply T.ungV;apply rfl;(first|with_reducible rfl|decide))|(apply S.condTV;apply rfl;(first|with_reducible rfl|decide))|(apply S.condFV;apply rfl;(first|with_reducible rfl|decide))|(with_reducible apply T.ofRet)|fail)
    refine T.call rfl rfl (hA (u+3) ns2 oa2 oc2 (by omega) (by omega)) ?_
    intro _ _ hh
    obtain ⟨i3,oa3,oc3,ns3,a3,z3,b3,rfl,rfl,g1,g2⟩:=hh.any (hok (u+3) (by omega)) hK hl (by omega)
    clear hh
    repeat' (first|((first|apply T.mv|apply T.asn);apply rfl;apply rfl)|(apply T.buildL;(iterate 3 apply rfl))|(with_reducible first|refine Sr.nil ?_|refine S.reg ?_)|(with_reducible apply T.ofRet)|fail)
    refine T.call rfl rfl (Z0i (ns:=ns3) (nd:=⟨1,i,i3,none,0,0,0,[]⟩) (by omega)) ?_
    rintro _ _ ⟨oa4,oc4,rfl,rfl⟩
    repeat' (first|(apply T.asn;apply rfl;apply rfl)|(with_reducible first|refine Sr.nil ?_|refine S.inBlock ?_)|(with_reducible apply T.ofRet)|fail)
    have hL:(ns3++[(⟨1,i,i3,none,0,0,0,[]⟩:Rnd)]).length=ns3.length+1:=by rw [List.length_append];rfl
    have g3:z3=0∧b3=0∧a3≤t.length∧t.length < a3+j∧Z0A t A kAnd j a3=G∧(ns3++[(⟨1,i,i3,none,0,0,0,[]⟩:Rnd)]).length+a≤ns.length+a3∨G=.no z3∧z3≠0∧∃ b':Nat,b3=b':=by
     rcases g2 with ⟨k1,k2,k3,k4,k5,k6⟩|⟨k1,k2,k3⟩
     ·rw [k3] at h3
      exact .inl ⟨k1,k2,k5,by omega,h3,by rw [hL];omega⟩
     ·rw [k1] at h3
      exact .inr ⟨h3.symm,k2,k3⟩
    exact ih _ _ _ _ ⟨a3,j,oc4,oa4,_,_,z3,b3,rfl,rfl,⟨by omega,by rw [hL];omega,g3⟩,rfl⟩ (by omega) (by repeat' first|exact trivial|refine And.intro rfl ?_)
   ·rw [if_neg e1] at h3
    subst h3
    clear ih
    repeat' (first|(apply T.seql;(iterate 3 apply rfl);rw [decide_eq_false e1])|((first|apply T.mv|apply T.asn);apply rfl;apply rfl)|(apply T.pickT;(iterate 3 apply rfl))|(with_reducible first|refine Sr.nil ?_|refine S.seq ?_|refine S.reg ?_)|(apply S.exit;apply rfl)|(apply T.ungV;apply rfl;(first|with_reducible rfl|decide))|(apply S.condFV;apply rfl;(first|with_reducible rfl|decide))|(apply T.retW;apply rfl)|(with_reducible apply T.ofRet)|fail)
    exact ⟨_,PSub.refl _,_,_,_,_,rfl,by omega,rfl⟩
  ·rw [decide_eq_false h8] at n1
   rw [if_neg (by rw [Z0o h8];decide)] at h3
   subst h3
   clear ih
   repeat' (first|((first|apply T.mv|apply T.nilCheck|apply T.fieldAddrZ);apply rfl;apply rfl)|(apply T.load;apply rfl;apply rfl;infer_instance;apply rfl;apply rfl)|(apply T.eql;(iterate 3 apply rfl))|(with_reducible first|refine S.seq ?_|refine S.reg ?_)|(apply T.ungV;apply rfl;(first|with_reducible rfl|decide))|fail)
   refine T.call rfl rfl n1 ?_
   rintro _ _ ⟨rfl,rfl⟩
   repeat' (first|((first|apply T.mv|apply T.asn);apply rfl;apply rfl)|(apply T.pickT;(iterate 3 apply rfl))|(apply T.pickF;(iterate 3 apply rfl))|(with_reducible first|refine Sr.nil ?_|refine S.seq ?_|refine S.reg ?_)|(apply S.exit;apply rfl)|(apply T.skip;apply rfl;(first|with_reducible rfl|decide);apply rfl)|(apply S.condFV;apply rfl;(first|with_reducible rfl|decide))|(apply T.retW;apply rfl)|(with_reducible apply T.ofRet)|fail)
   exact ⟨_,PSub.refl _,_,_,_,_,rfl,by omega,rfl⟩
 ·subst h2
  clear ih
  repeat' (first|((first|apply T.mv|apply T.asn|apply T.nilCheck|apply T.fieldAddrZ);apply rfl;apply rfl)|(apply T.load;apply rfl;apply rfl;infer_instance;apply rfl;apply rfl)|(apply T.eql;(iterate 3 apply rfl))|(apply T.pickF;(iterate 3 apply rfl))|(with_reducible first|refine Sr.nil ?_|refine S.seq ?_|refine S.reg ?_)|(apply S.exit;apply rfl)|(apply T.skip;apply rfl;(first|with_reducible rfl|decide);apply rfl)|(apply S.condFV;apply rfl;(first|with_reducible rfl|decide))|(apply T.gcase;apply rfl;apply rfl;all_goals (intro _;try (exfalso;first|omega|with_reducible contradiction)))|(apply T.retW;apply rfl)|fail)
  exact ⟨_,PSub.refl _,_,_,_,_,q,b',rfl,⟨m1,m2⟩,rfl⟩
theorem Z4Y (hl:t.length≤1024) (hK:1024≤K) (hK2:K≤90000) {A:Nat→Rz} (hok:∀ p,p≤t.length→RzO t (p+1) (A p)) (hA:RDown 46 [sV kAnd,.int .i64 1] F M p t o H K A):RDown 46 [sV kOr,.int .i64 2] F M p t o H (K+1) (ZW t A kOr):=by
 intro a ns oa oc ha hn
 refine Meets.enter Tryz.func46 rfl rfl ?_
 generalize hG:ZW t A kOr a=G
 unfold ZW at hG
 have hkl:kOr.length=2:=rfl
 repeat' (first|((first|apply T.mv|apply T.asn);apply rfl;apply rfl)|(apply T.eql;(iterate 3 apply rfl))|(with_reducible first|refine Sr.nil ?_|refine S.seq ?_|refine S.reg ?_)|(apply S.condTV;apply rfl;(first|with_reducible rfl|decide))|fail)
 refine T.call rfl rfl (hA a ns oa oc ha hn) ?_
 intro _ _ hh
 obtain ⟨i,oa1,oc1,ns1,a',z,b,rfl,rfl,g1,g2⟩:=hh.any (hok a ha) hK hl hn
 clear hh
 have g3:z=0∧b=0∧a'≤t.length∧t.length < a'+(t.length+1)∧Z0A t A kOr (t.length+1) a'=G∧ns1.length+a≤ns.length+a'∨G=.no z∧z≠0∧∃ b':Nat,b=b':=by
  rcases g2 with ⟨h1,h2,h3,h4,h5,h6⟩|⟨h1,h2,h3⟩
  ·rw [h3] at hG
   exact .inl ⟨h1,h2,h5,by omega,hG,h6⟩
  ·rw [h1] at hG
   exact .inr ⟨hG.symm,h2,h3⟩
 clear hG g2
 repeat' (first|(apply T.asn;apply rfl;apply rfl)|(with_reducible first|refine Sr.nil ?_|refine S.seq ?_|refine S.block ?_)|(with_reducible apply T.ofRet)|fail)
 refine S.loopE 2 [0,1,2] (fun R b' μ H' e=>∃ (q k oc2:Nat) (oa2:Option Addr) (ns2:List Rnd) (i z b:Int),H'=rdT p t q oa2 oc2 ns2 o z b R∧e=(7,.int .i64 i)::b'∧(q≤K+1∧ns2.length≤K+1∧(z=0∧b=0∧q≤t.length∧t.length < q+k∧Z0A t A kOr k q=G∧ns2.length+a≤ns.length+q∨G=.no z∧z≠0∧∃ b':Nat,b=b'))∧μ=k+1) rfl rfl ?_ _ _ ⟨a',t.length+1,oc1,oa1,ns1,i,z,b,rfl,rfl,⟨by omega,by omega,g3⟩,rfl⟩ (by repeat' first|exact trivial|refine And.intro rfl ?_)
 clear g1 g3
 rintro _ _ _ ⟨q,k,oc2,oa2,ns2,i,z,b,rfl,rfl,⟨m1,m2,hor⟩,rfl⟩ ih
 rcases hor with ⟨rfl,rfl,h1,h2,h3,h4⟩|⟨h2,h3,b',rfl⟩
 ·obtain ⟨j,rfl⟩:∃ j,k=j+1:=⟨k - 1,by omega⟩
  rw [Z0A,hkl] at h3
  have h6:=Zi (t:=t) (p:=q)
  have hle:=Zj (t:=t) (p:=q) h1
  have n1:=Zk (F:=F) (M:=M) (H:=.row oa2 oc2 95 6 ns2.length (ns2.flatMap Sg.rnV)::H) (p:=p) (oa:=oa2) (n:=ns2.length) (oc:=oc2) (o:=o) (er:=0) (bd:=0) h1 hl
  generalize Z2 t q=u at *
  by_cases h8:u < t.length
  ·rw [decide_eq_true h8] at n1
   repeat' (first|((first|apply T.mv|apply T.nilCheck|apply T.fieldAddrZ);apply rfl;apply rfl)|(apply T.load;apply rfl;apply rfl;infer_instance;apply rfl;apply rfl)|(apply T.eql;(iterate 3 apply rfl))|(with_reducible first|refine S.seq ?_|refine S.reg ?_)|(apply T.ungV;apply rfl;(first|with_reducible rfl|decide))|fail)
   refine T.call rfl rfl n1 ?_
   rintro _ _ ⟨rfl,rfl⟩
   repeat' (first|(apply T.mv;apply rfl;apply rfl)|(apply T.pickT;(iterate 3 apply rfl))|(apply T.ungV;apply rfl;(first|with_reducible rfl|decide))|(with_reducible apply T.ofRet)|fail)
   refine T.call rfl rfl (ZA hle hl) ?_
   rintro _ _ ⟨rfl,rfl⟩
   by_cases e1:wdX t u=kOr
   ·rw [if_pos e1] at h3
    rw [e1]
    have h7:=Zu (by decide) e1
    rw [hkl] at h7
    repeat' (first|(apply T.seql;(iterate 3 apply rfl);rw [decide_eq_true rfl])|((first|apply T.slen|apply T.mv|apply T.asn|apply T.nilCheck|apply T.fieldAddrZ);apply rfl;apply rfl)|(apply T.load;apply rfl;apply rfl;infer_instance;apply rfl;apply rfl)|(apply T.eql;(iterate 3 apply rfl))|(apply T.addI;apply rfl;apply rfl;omega;apply rfl)|(apply T.pickT;(iterate 3 apply rfl))|(apply T.store;apply rfl;apply rfl;infer_instance;(first|decide|(simp;omega)|simp);apply rfl)|(with_reducible first|refine Sr.nil ?_|refine S.seq ?_|refine S.block ?_|refine S.reg ?_|refine S.skip ?_)|(apply T.ungV;apply rfl;(first|with_reducible rfl|decide))|(apply S.condTV;apply rfl;(first|with_reducible rfl|decide))|(with_reducible apply T.ofRet)|fail)
    refine T.call rfl rfl (hA (u+2) ns2 oa2 oc2 (by omega) (by omega)) ?_
    intro _ _ hh
    obtain ⟨i3,oa3,oc3,ns3,a3,z3,b3,rfl,rfl,g1,g2⟩:=hh.any (hok (u+2) (by omega)) hK hl (by omega)
    clear hh
    repeat' (first|((first|apply T.mv|apply T.asn);apply rfl;apply rfl)|(apply T.buildL;(iterate 3 apply rfl))|(with_reducible first|refine Sr.nil ?_|refine S.reg ?_)|(with_reducible apply T.ofRet)|fail)
    refine T.call rfl rfl (Z0i (ns:=ns3) (nd:=⟨2,i,i3,none,0,0,0,[]⟩) (by omega)) ?_
    rintro _ _ ⟨oa4,oc4,rfl,rfl⟩
    repeat' (first|(apply T.asn;apply rfl;apply rfl)|(with_reducible first|refine Sr.nil ?_|refine S.inBlock ?_)|(with_reducible apply T.ofRet)|fail)
    have hL:(ns3++[(⟨2,i,i3,none,0,0,0,[]⟩:Rnd)]).length=ns3.length+1:=by rw [List.length_append];rfl
    have g3:z3=0∧b3=0∧a3≤t.length∧t.length < a3+j∧Z0A t A kOr j a3=G∧(ns3++[(⟨2,i,i3,none,0,0,0,[]⟩:Rnd)]).length+a≤ns.length+a3∨G=.no z3∧z3≠0∧∃ b':Nat,b3=b':=by
     rcases g2 with ⟨k1,k2,k3,k4,k5,k6⟩|⟨k1,k2,k3⟩
     ·rw [k3] at h3
      exact .inl ⟨k1,k2,k5,by omega,h3,by rw [hL];omega⟩
     ·rw [k1] at h3
      exact .inr ⟨h3.symm,k2,k3⟩
    exact ih _ _ _ _ ⟨a3,j,oc4,oa4,_,_,z3,b3,rfl,rfl,⟨by omega,by rw [hL];omega,g3⟩,rfl⟩ (by omega) (by repeat' first|exact trivial|refine And.intro rfl ?_)
   ·rw [if_neg e1] at h3
    subst h3
    clear ih
    repeat' (first|(apply T.seql;(iterate 3 apply rfl);rw [decide_eq_false e1])|((first|apply T.mv|apply T.asn);apply rfl;apply rfl)|(apply T.pickT;(iterate 3 apply rfl))|(with_reducible first|refine Sr.nil ?_|refine S.seq ?_|refine S.reg ?_)|(apply S.exit;apply rfl)|(apply T.ungV;apply rfl;(first|with_reducible rfl|decide))|(apply S.condFV;apply rfl;(first|with_reducible rfl|decide))|(apply T.retW;apply rfl)|(with_reducible apply T.ofRet)|fail)
    exact ⟨_,PSub.refl _,_,_,_,_,rfl,by omega,rfl⟩
  ·rw [decide_eq_false h8] at n1
   rw [if_neg (by rw [Z0o h8];decide)] at h3
   subst h3
   clear ih
   repeat' (first|((first|apply T.mv|apply T.nilCheck|apply T.fieldAddrZ);apply rfl;apply rfl)|(apply T.load;apply rfl;apply rfl;infer_instance;apply rfl;apply rfl)|(apply T.eql;(iterate 3 apply rfl))|(with_reducible first|refine S.seq ?_|refine S.reg ?_)|(apply T.ungV;apply rfl;(first|with_reducible rfl|decide))|fail)
   refine T.call rfl rfl n1 ?_
   rintro _ _ ⟨rfl,rfl⟩
   repeat' (first|((first|apply T.mv|apply T.asn);apply rfl;apply rfl)|(apply T.pickT;(iterate 3 apply rfl))|(apply T.pickF;(iterate 3 apply rfl))|(with_reducible first|refine Sr.nil ?_|refine S.seq ?_|refine S.reg ?_)|(apply S.exit;apply rfl)|(apply T.skip;apply rfl;(first|with_reducible rfl|decide);apply rfl)|(apply S.condFV;apply rfl;(first|with_reducible rfl|decide))|(apply T.retW;apply rfl)|(with_reducible apply T.ofRet)|fail)
   exact ⟨_,PSub.refl _,_,_,_,_,rfl,by omega,rfl⟩
 ·subst h2
  clear ih
  repeat' (first|((first|apply T.mv|apply T.asn|apply T.nilCheck|apply T.fieldAddrZ);apply rfl;apply rfl)|(apply T.load;apply rfl;apply rfl;infer_instance;apply rfl;apply rfl)|(apply T.eql;(iterate 3 apply rfl))|(apply T.pickF;(iterate 3 apply rfl))|(with_reducible first|refine Sr.nil ?_|refine S.seq ?_|refine S.reg ?_)|(apply S.exit;apply rfl)|(apply T.skip;apply rfl;(first|with_reducible rfl|decide);apply rfl)|(apply S.condFV;apply rfl;(first|with_reducible rfl|decide))|(apply T.gcase;apply rfl;apply rfl;all_goals (intro _;try (exfalso;first|omega|with_reducible contradiction)))|(apply T.retW;apply rfl)|fail)
  exact ⟨_,PSub.refl _,_,_,_,_,q,b',rfl,⟨m1,m2⟩,rfl⟩
theorem Z21 {A:Nat→Rz} (hA:RDown 46 [sV kOr,.int .i64 2] F M p t o H K (ZW t A kOr)):RDown 28 [] F M p t o H K (ZW t A kOr):=by
 intro a ns oa oc ha hn
 refine Meets.enter Tryz.func28 rfl rfl ?_
 repeat' (first|((first|apply T.mv|apply T.asn);apply rfl;apply rfl)|(with_reducible first|refine Sr.nil ?_|refine S.seq ?_|refine S.reg ?_)|fail)
 refine T.call rfl rfl (hA a ns oa oc ha hn) ?_
 cases ZW t A kOr a with
 | no c =>
  rintro _ _ ⟨i,oa,oc,ns,a',b,rfl,h,rfl⟩
  repeat' (first|(apply T.asn;apply rfl;apply rfl)|with_reducible refine Sr.nil ?_|(apply T.retW;apply rfl)|(with_reducible apply T.ofRet)|fail)
  exact ⟨_,PSub.refl _,_,_,_,_,a',b,rfl,h,rfl⟩
 | to r =>
  rintro _ _ ⟨i,oa,oc,ns,rfl,h,rfl⟩
  repeat' (first|(apply T.asn;apply rfl;apply rfl)|with_reducible refine Sr.nil ?_|(apply T.retW;apply rfl)|(with_reducible apply T.ofRet)|fail)
  exact ⟨_,PSub.refl _,_,_,_,_,rfl,h,rfl⟩
theorem Z5F (hl:t.length≤1024):∀ k:Nat,k≤32→RDown 57 [] F M p t (32 - (k:Int)) H (1040+4*k) (ZV t k):=by
 intro k
 induction k using Nat.strongRecOn with
 | _ k ih =>
 intro hk a ns oa oc ha hn
 refine Meets.enter Tryz.func57 rfl rfl ?_
 rw [Z5e]
 have h6:=Zi (t:=t) (p:=a)
 have hle:=Zj (t:=t) ha
 have hss:=ZZ (t:=t) (p:=a)
 have hnx:=Zk (F:=F) (M:=M) (H:=.row oa oc 95 6 ns.length (ns.flatMap Sg.rnV)::H) (p:=p) (oa:=oa) (n:=ns.length) (oc:=oc) (o:=32 - (k:Int)) (er:=0) (bd:=0) ha hl
 generalize Z2 t a=q at *
 by_cases h0:q < t.length
 ·rw [decide_eq_true h0] at hnx
  repeat' (first|((first|apply T.mv|apply T.asn|apply T.nilCheck|apply T.fieldAddrZ);apply rfl;apply rfl)|(apply T.load;apply rfl;apply rfl;infer_instance;apply rfl;apply rfl)|(apply T.neq;(iterate 3 apply rfl))|(with_reducible first|refine Sr.nil ?_|refine S.seq ?_|refine S.reg ?_|refine S.skip ?_)|(apply S.condFV;apply rfl;(first|with_reducible rfl|decide))|fail)
  refine T.call rfl rfl hnx ?_
  rintro _ _ ⟨rfl,rfl⟩
  repeat' (first|((first|apply T.mv|apply T.asn);apply rfl;apply rfl)|(apply T.notB;apply rfl;apply rfl)|(with_reducible first|refine Sr.nil ?_|refine S.seq ?_|refine S.reg ?_|refine S.skip ?_)|(apply S.condFV;apply rfl;(first|with_reducible rfl|decide))|(with_reducible apply T.ofRet)|fail)
  refine T.call rfl rfl (ZA hle hl) ?_
  rintro _ _ ⟨rfl,rfl⟩
  by_cases e1:wdX t q=kNot
  ·have hw:=Zu (by decide) e1
   have l3:kNot.length=3:=rfl
   rw [l3] at hw
   rw [if_pos e1,e1]
   repeat' (first|(apply T.seql;(iterate 3 apply rfl))|((first|apply T.mv|apply T.asn);apply rfl;apply rfl)|(with_reducible first|refine Sr.nil ?_|refine S.seq ?_|refine S.block ?_|refine S.reg ?_)|(apply S.condTV;apply rfl;(first|with_reducible rfl|decide))|(with_reducible apply T.ofRet)|fail)
   refine T.call rfl rfl (Z22 (k:=k) (b:=3) rfl hk (by omega)) ?_
   cases k with
   | zero =>
    dsimp only
    rintro _ _ ⟨rfl,rfl⟩
    repeat' (first|((first|apply T.mv|apply T.asn);apply rfl;apply rfl)|(apply T.notB;apply rfl;apply rfl)|(with_reducible first|refine Sr.nil ?_|refine S.seq ?_|refine S.reg ?_)|(apply S.condTV;apply rfl;(first|with_reducible rfl|decide))|(apply T.retW;apply rfl)|(with_reducible apply T.ofRet)|fail)
    exact ⟨_,PSub.refl _,0,_,_,ns,q,q,rfl,⟨by omega,by omega⟩,rfl⟩
   | succ d =>
    dsimp only
    rintro _ _ ⟨rfl,rfl⟩
    have he:(32:Int) - (d:Int) - 1=32 - ((d+1:Nat):Int):=by omega
    repeat' (first|((first|apply T.mv|apply T.asn);apply rfl;apply rfl)|(apply T.notB;apply rfl;apply rfl)|(with_reducible first|refine Sr.nil ?_|refine S.seq ?_|refine S.reg ?_|refine S.skip ?_)|(apply S.condFV;apply rfl;(first|with_reducible rfl|decide))|(with_reducible apply T.ofRet)|fail)
    refine T.call rfl rfl (ih d (by omega) (by omega) (q+3) ns oa oc (by omega) (by omega)) ?_
    intro _ _ hh
    obtain ⟨i3,oa3,oc3,ns3,a3,z3,b3,rfl,rfl,g1,g2⟩:=hh.any (Z09 (by omega)) (by omega) hl (by omega)
    clear hh
    repeat' (first|(apply T.subI;apply rfl;apply rfl;omega;apply rfl;rw [he])|((first|apply T.mv|apply T.asn|apply T.nilCheck|apply T.fieldAddrZ);apply rfl;apply rfl)|(apply T.load;apply rfl;apply rfl;infer_instance;apply rfl;apply rfl)|(apply T.buildL;(iterate 3 apply rfl))|(apply T.store;apply rfl;apply rfl;infer_instance;(first|decide|(simp;omega)|simp);apply rfl)|(with_reducible first|refine Sr.nil ?_|refine S.seq ?_|refine S.reg ?_)|(with_reducible apply T.ofRet)|fail)
    refine T.call rfl rfl (Z0i (ns:=ns3) (nd:=⟨3,i3,-1,none,0,0,0,[]⟩) (by omega)) ?_
    rintro _ _ ⟨oa4,oc4,rfl,rfl⟩
    repeat' (first|(apply T.asn;apply rfl;apply rfl)|with_reducible refine Sr.nil ?_|(apply T.retW;apply rfl)|(with_reducible apply T.ofRet)|fail)
    have hL:(ns3++[(⟨3,i3,-1,none,0,0,0,[]⟩:Rnd)]).length=ns3.length+1:=by rw [List.length_append];rfl
    rcases g2 with ⟨rfl,rfl,k3,k4,k5,k6⟩|⟨k1,k2,b',rfl⟩
    ·rw [k3]
     exact ⟨_,PSub.refl _,_,_,_,_,rfl,by rw [hL];omega,rfl⟩
    ·rw [k1]
     exact ⟨_,PSub.refl _,_,_,_,_,a3,b',rfl,⟨by omega,by rw [hL];omega⟩,rfl⟩
  ·rw [if_neg e1]
   have f1:¬wdX t q=[110,111,116]:=e1
   by_cases e2:wdX t q=kHas
   ·have hw:=Zu (by decide) e2
    have l3:kHas.length=3:=rfl
    rw [l3] at hw
    rw [if_pos e2,e2]
    repeat' (first|(apply T.seql;(iterate 3 apply rfl))|((first|apply T.mv|apply T.asn|apply T.nilCheck|apply T.fieldAddrZ);apply rfl;apply rfl)|(apply T.load;apply rfl;apply rfl;infer_instance;apply rfl;apply rfl)|(apply T.addI;apply rfl;apply rfl;omega;apply rfl)|(apply T.store;apply rfl;apply rfl;infer_instance;(first|decide|(simp;omega)|simp);apply rfl)|(with_reducible first|refine Sr.nil ?_|refine S.seq ?_|refine S.block ?_|refine S.reg ?_)|(apply S.condTV;apply rfl;(first|with_reducible rfl|decide))|(apply S.condFV;apply rfl;(first|with_reducible rfl|decide))|(with_reducible apply T.ofRet)|fail)
    refine T.call rfl rfl (Z2G (a:=q+3) (by omega) hl) ?_
    intro _ _ hh
    obtain ⟨_,a',z,b,⟨la,ln,lc,rfl⟩,rfl,rfl,g1,g2⟩:=hh.any gpath_ok
    clear hh
    repeat' (first|((first|apply T.mv|apply T.asn);apply rfl;apply rfl)|(apply T.buildL;(iterate 3 apply rfl))|(with_reducible first|refine Sr.nil ?_|refine S.seq ?_|refine S.reg ?_)|(with_reducible apply T.ofRet)|fail)
    refine T.call rfl rfl (Z0i (ns:=ns) (nd:=⟨4,-1,-1,la,ln,lc,0,[]⟩) (by omega)) ?_
    rintro _ _ ⟨oa4,oc4,rfl,rfl⟩
    repeat' (first|(apply T.asn;apply rfl;apply rfl)|with_reducible refine Sr.nil ?_|(apply T.retW;apply rfl)|(with_reducible apply T.ofRet)|fail)
    have hL:(ns++[(⟨4,-1,-1,la,ln,lc,0,[]⟩:Rnd)]).length=ns.length+1:=by rw [List.length_append];rfl
    rcases g2 with ⟨rfl,rfl,k3,k4⟩|⟨k1,k2,b',rfl⟩
    ·rw [k3]
     exact ⟨_,PSub.refl _,_,_,_,_,rfl,by rw [hL];omega,rfl⟩
    ·rw [k1]
     exact ⟨_,PSub.refl _,_,_,_,_,a',b',rfl,⟨by omega,by rw [hL];omega⟩,rfl⟩
   ·rw [if_neg e2]
    have f2:¬wdX t q=[104,97,115]:=e2
    have hu:=(t.getD q 0).toNat_lt
    by_cases e3:(t.getD q 0).toNat=40
    ·rw [if_pos ⟨h0,e3⟩]
     repeat' (first|(apply T.seql;(iterate 3 apply rfl))|(apply T.sidx;apply rfl;apply rfl;omega;apply rfl)|((first|apply T.mv|apply T.asn|apply T.nilCheck|apply T.fieldAddrZ);apply rfl;apply rfl)|(apply T.load;apply rfl;apply rfl;infer_instance;apply rfl;apply rfl)|(apply T.neq;(iterate 3 apply rfl))|(with_reducible first|refine Sr.nil ?_|refine S.seq ?_|refine S.block ?_|refine S.reg ?_|refine S.skip ?_|refine S.inBlock ?_)|(apply S.quiet;apply rfl;kernel_rfl)|(apply S.condQ;apply rfl;all_goals (intro _;try (exfalso;first|omega|with_reducible contradiction)))|(with_reducible apply T.ofRet)|fail)
     refine T.call rfl rfl (Z22 (k:=k) (b:=1) rfl hk (by omega)) ?_
     cases k with
     | zero =>
      dsimp only
      rintro _ _ ⟨rfl,rfl⟩
      repeat' (first|((first|apply T.mv|apply T.asn);apply rfl;apply rfl)|(apply T.notB;apply rfl;apply rfl)|(with_reducible first|refine Sr.nil ?_|refine S.seq ?_|refine S.reg ?_)|(apply S.condTV;apply rfl;(first|with_reducible rfl|decide))|(apply T.retW;apply rfl)|(with_reducible apply T.ofRet)|fail)
      exact ⟨_,PSub.refl _,0,_,_,ns,q,q,rfl,⟨by omega,by omega⟩,rfl⟩
     | succ d =>
      dsimp only
      rintro _ _ ⟨rfl,rfl⟩
      have hok:∀ p,p≤t.length→RzO t (p+1) (ZV t d p):=fun _ h=>Z09 h
      have hr:=Z4Y hl (by omega) (by omega) (fun _ h=>Z1q hok h) (Z53 hl (by omega) (by omega) hok (ih d (by omega) (by omega)))
      have he:(32:Int) - (d:Int) - 1=32 - ((d+1:Nat):Int):=by omega
      repeat' (first|((first|apply T.mv|apply T.asn);apply rfl;apply rfl)|(apply T.notB;apply rfl;apply rfl)|(with_reducible first|refine Sr.nil ?_|refine S.seq ?_|refine S.reg ?_|refine S.skip ?_)|(apply S.condFV;apply rfl;(first|with_reducible rfl|decide))|(with_reducible apply T.ofRet)|fail)
      refine T.call rfl rfl (Z21 hr (q+1) ns oa oc (by omega) (by omega)) ?_
      intro _ _ hh
      obtain ⟨i3,oa3,oc3,ns3,a3,z3,b3,rfl,rfl,g1,g2⟩:=hh.any (Z1p hok (by omega)) (by omega) hl (by omega)
      clear hh
      rcases g2 with ⟨rfl,rfl,k3,k4,k5,k6⟩|⟨k1,k2,b',rfl⟩
      ·rw [k3,show Z4H t (.to a3)=if Z2 t a3 < t.length∧(t.getD (Z2 t a3) 0).toNat=41 then .to (Z2 t a3+1) else .no 180 from rfl]
       have n1:=Zk (F:=F) (M:=M) (H:=.row oa3 oc3 95 6 ns3.length (ns3.flatMap Sg.rnV)::H) (p:=p) (oa:=oa3) (n:=ns3.length) (oc:=oc3) (o:=32 - (d:Int)) (er:=0) (bd:=0) k5 hl
       have hs1:=Zi (t:=t) (p:=a3)
       have hs2:=Zj (t:=t) (p:=a3) k5
       generalize Z2 t a3=u at *
       by_cases e4:u < t.length∧(t.getD u 0).toNat=41
       ·rw [if_pos e4]
        rw [decide_eq_true e4.1] at n1
        repeat' (first|(apply T.asn;apply rfl;apply rfl)|(with_reducible first|refine Sr.nil ?_|refine S.seq ?_)|(with_reducible apply T.ofRet)|fail)
        (apply S.draw;(case Hs=>exact H);(case es=>exact  [7]);(case n=>exact  22);(case hn=>rfl))
        repeat' (first|(apply T.call;apply rfl;apply rfl;with_reducible exact n1;rintro _ _ ⟨rfl,rfl⟩)|(apply T.sidx;apply rfl;apply rfl;omega;apply rfl)|((first|apply T.mv|apply T.asn|apply T.nilCheck|apply T.fieldAddrZ);apply rfl;apply rfl)|(apply T.load;apply rfl;apply rfl;infer_instance;apply rfl;apply rfl)|((first|apply T.eql|apply T.neq);(iterate 3 apply rfl))|((first|apply T.addI|apply T.subI);apply rfl;apply rfl;omega;apply rfl)|(apply T.notB;apply rfl;apply rfl)|(apply T.pickT;(iterate 3 apply rfl))|(apply T.pickF;(iterate 3 apply rfl))|(apply T.store;apply rfl;apply rfl;infer_instance;(first|decide|(simp;omega)|simp);apply rfl)|(with_reducible first|refine Sr.nil ?_|refine S.seq ?_|refine S.reg ?_|refine S.skip ?_)|(apply T.ungV;apply rfl;(first|with_reducible rfl|decide))|(apply S.condQ;apply rfl;all_goals (intro _;try (exfalso;first|omega|with_reducible contradiction)))|(apply T.retW;apply rfl)|(with_reducible apply T.ofRet)|(apply SA.gz;(iterate 4 apply rfl);(first|with_reducible rfl|decide);apply rfl;kernel_rfl)|(apply SA.gn;(iterate 4 apply rfl);(first|with_reducible rfl|decide);apply rfl;kernel_rfl)|(apply SA.qn;(iterate 4 apply rfl);kernel_rfl)|(apply SA.en;apply rfl;apply rfl;kernel_rfl)|(apply SA.done;apply rfl;kernel_rfl)|(apply SK.intro;(first|exact fun _ h=>h|exact fun _ h=>St.psub h (by ((repeat (first|dsimp only [List.set_cons_zero]|dsimp only [List.set_cons_succ]));repeat' first|exact PSub.refl _|exact PSub.nil|(with_reducible apply PSub.app)|(apply PSub.take;(repeat' first|(with_reducible exact Z0)|(with_reducible apply Z1)))|(with_reducible apply PSub.drop)|((apply PSub.take);(repeat' first|exact Z0|(apply Z1)))))))|fail)
        skip
        try rw [he]
        exact ⟨_,PSub.refl _,_,_,_,ns3,rfl,by omega,rfl⟩
       ·rw [if_neg e4]
        by_cases e5:u < t.length
        ·have e6:¬(t.getD u 0).toNat=41:=fun h=>e4 ⟨e5,h⟩
         rw [decide_eq_true e5] at n1
         repeat' (first|(apply T.asn;apply rfl;apply rfl)|(with_reducible first|refine Sr.nil ?_|refine S.seq ?_)|(with_reducible apply T.ofRet)|fail)
         (apply S.draw;(case Hs=>exact H);(case es=>exact  [7]);(case n=>exact  22);(case hn=>rfl))
         repeat' (first|(apply T.call;apply rfl;apply rfl;with_reducible exact n1;rintro _ _ ⟨rfl,rfl⟩)|(apply T.sidx;apply rfl;apply rfl;omega;apply rfl)|((first|apply T.mv|apply T.nilCheck|apply T.fieldAddrZ);apply rfl;apply rfl)|(apply T.load;apply rfl;apply rfl;infer_instance;apply rfl;apply rfl)|((first|apply T.eql|apply T.neq);(iterate 3 apply rfl))|(apply T.notB;apply rfl;apply rfl)|(apply T.pickT;(iterate 3 apply rfl))|(apply T.pickF;(iterate 3 apply rfl))|(with_reducible first|refine Sr.nil ?_|refine S.reg ?_)|(apply T.ungV;apply rfl;(first|with_reducible rfl|decide))|(apply S.condQ;apply rfl;all_goals (intro _;try (exfalso;first|omega|with_reducible contradiction)))|(with_reducible apply T.ofRet)|(apply SA.gz;(iterate 4 apply rfl);(first|with_reducible rfl|decide);apply rfl;kernel_rfl)|(apply SA.gn;(iterate 4 apply rfl);(first|with_reducible rfl|decide);apply rfl;kernel_rfl)|(apply SA.qn;(iterate 4 apply rfl);kernel_rfl)|(apply SA.en;apply rfl;apply rfl;kernel_rfl)|(apply SA.done;apply rfl;kernel_rfl)|(apply SK.intro;(first|exact fun _ h=>h|exact fun _ h=>St.psub h (by ((repeat (first|dsimp only [List.set_cons_zero]|dsimp only [List.set_cons_succ]));repeat' first|exact PSub.refl _|exact PSub.nil|(with_reducible apply PSub.app)|(apply PSub.take;(repeat' first|(with_reducible exact Z0)|(with_reducible apply Z1)))|(with_reducible apply PSub.drop)|((apply PSub.take);(repeat' first|exact Z0|(apply Z1)))))))|fail)
         skip
         refine T.call rfl rfl Z8 ?_
         rintro _ _ ⟨rfl,rfl⟩
         repeat' (first|(apply T.subI;apply rfl;apply rfl;omega;apply rfl;rw [he])|((first|apply T.mv|apply T.asn|apply T.nilCheck|apply T.fieldAddrZ);apply rfl;apply rfl)|(apply T.load;apply rfl;apply rfl;infer_instance;apply rfl;apply rfl)|(apply T.addI;apply rfl;apply rfl;omega;apply rfl)|(apply T.store;apply rfl;apply rfl;infer_instance;(first|decide|(simp;omega)|simp);apply rfl)|(with_reducible first|refine Sr.nil ?_|refine S.seq ?_|refine S.reg ?_)|(apply T.retW;apply rfl)|(with_reducible apply T.ofRet)|fail)
         exact ⟨_,PSub.refl _,_,_,_,ns3,u+1,u,rfl,⟨by omega,by omega⟩,rfl⟩
        ·rw [decide_eq_false e5] at n1
         repeat' (first|(apply T.asn;apply rfl;apply rfl)|(with_reducible first|refine Sr.nil ?_|refine S.seq ?_)|(with_reducible apply T.ofRet)|fail)
         (apply S.draw;(case Hs=>exact H);(case es=>exact  [7]);(case n=>exact  22);(case hn=>rfl))
         repeat' (first|(apply T.call;apply rfl;apply rfl;with_reducible exact n1;rintro _ _ ⟨rfl,rfl⟩)|((first|apply T.mv|apply T.nilCheck|apply T.fieldAddrZ);apply rfl;apply rfl)|(apply T.load;apply rfl;apply rfl;infer_instance;apply rfl;apply rfl)|(apply T.eql;(iterate 3 apply rfl))|(apply T.notB;apply rfl;apply rfl)|(apply T.pickT;(iterate 3 apply rfl))|(with_reducible first|refine Sr.nil ?_|refine S.reg ?_)|(apply T.ungV;apply rfl;(first|with_reducible rfl|decide))|(apply S.condTV;apply rfl;(first|with_reducible rfl|decide))|(with_reducible apply T.ofRet)|(apply SA.gxv;(iterate 5 apply rfl);kernel_rfl;apply rfl)|(apply SA.gz;(iterate 4 apply rfl);(first|with_reducible rfl|decide);apply rfl;kernel_rfl)|(apply SA.qn;(iterate 4 apply rfl);kernel_rfl)|(apply SA.en;apply rfl;apply rfl;kernel_rfl)|(apply SA.done;apply rfl;kernel_rfl)|(apply SK.intro;(first|exact fun _ h=>h|exact fun _ h=>St.psub h (by ((repeat (first|dsimp only [List.set_cons_zero]|dsimp only [List.set_cons_succ]));repeat' first|exact PSub.refl _|exact PSub.nil|(with_reducible apply PSub.app)|(apply PSub.take;(repeat' first|(with_reducible exact Z0)|(with_reducible apply Z1)))|(with_reducible apply PSub.drop)|((apply PSub.take);(repeat' first|exact Z0|(apply Z1)))))))|fail)
         skip
         refine T.call rfl rfl Z8 ?_
         rintro _ _ ⟨rfl,rfl⟩
         repeat' (first|(apply T.subI;apply rfl;apply rfl;omega;apply rfl;rw [he])|((first|apply T.mv|apply T.asn|apply T.nilCheck|apply T.fieldAddrZ);apply rfl;apply rfl)|(apply T.load;apply rfl;apply rfl;infer_instance;apply rfl;apply rfl)|(apply T.addI;apply rfl;apply rfl;omega;apply rfl)|(apply T.store;apply rfl;apply rfl;infer_instance;(first|decide|(simp;omega)|simp);apply rfl)|(with_reducible first|refine Sr.nil ?_|refine S.seq ?_|refine S.reg ?_)|(apply T.retW;apply rfl)|(with_reducible apply T.ofRet)|fail)
         exact ⟨_,PSub.refl _,_,_,_,ns3,u+1,u,rfl,⟨by omega,by omega⟩,rfl⟩
      ·rw [k1,show Z4H t (.no z3)=.no z3 from rfl]
       repeat' (first|(apply T.asn;apply rfl;apply rfl)|(with_reducible first|refine Sr.nil ?_|refine S.seq ?_)|(with_reducible apply T.ofRet)|fail)
       (apply S.draw;(case Hs=>exact H);(case es=>exact  [7]);(case n=>exact  22);(case hn=>rfl))
       repeat' (first|(apply T.eql;(iterate 3 apply rfl);rw [decide_eq_false k2])|((first|apply T.mv|apply T.asn|apply T.nilCheck|apply T.fieldAddrZ);apply rfl;apply rfl)|(apply T.load;apply rfl;apply rfl;infer_instance;apply rfl;apply rfl)|((first|apply T.addI|apply T.subI);apply rfl;apply rfl;omega;apply rfl)|(apply T.pickF;(iterate 3 apply rfl))|(apply T.store;apply rfl;apply rfl;infer_instance;(first|decide|(simp;omega)|simp);apply rfl)|(with_reducible first|refine Sr.nil ?_|refine S.seq ?_|refine S.reg ?_|refine S.skip ?_)|(apply T.skip;apply rfl;(first|with_reducible rfl|decide);apply rfl)|(apply S.condFV;apply rfl;(first|with_reducible rfl|decide))|(apply T.retW;apply rfl)|(apply SA.gxu;(iterate 4 apply rfl);kernel_rfl;apply rfl)|(apply SA.gxv;(iterate 5 apply rfl);kernel_rfl;apply rfl)|(apply SA.qn;(iterate 4 apply rfl);kernel_rfl)|(apply SA.en;apply rfl;apply rfl;kernel_rfl)|(apply SA.done;apply rfl;kernel_rfl)|(apply SK.intro;(first|exact fun _ h=>h|exact fun _ h=>St.psub h (by ((repeat (first|dsimp only [List.set_cons_zero]|dsimp only [List.set_cons_succ]));repeat' first|exact PSub.refl _|exact PSub.nil|(with_reducible apply PSub.app)|(apply PSub.take;(repeat' first|(with_reducible exact Z0)|(with_reducible apply Z1)))|(with_reducible apply PSub.drop)|((apply PSub.take);(repeat' first|exact Z0|(apply Z1)))))))|fail)
       skip
       rw [he]
       exact ⟨_,PSub.refl _,_,_,_,ns3,a3+1,b',rfl,⟨by omega,by omega⟩,rfl⟩
    ·rw [if_neg (fun h=>e3 h.2)]
     have hc:=Z5C (F:=F) (M:=M) (H:=H) (p:=p) (o:=32 - (k:Int)) hl q ns oa oc hle (by omega)
     have ho:=gtest_ok (t:=t) (p:=q)
     repeat' (first|(apply T.seql;(iterate 3 apply rfl))|(apply T.sidx;apply rfl;apply rfl;omega;apply rfl)|((first|apply T.mv|apply T.asn|apply T.nilCheck|apply T.fieldAddrZ);apply rfl;apply rfl)|(apply T.load;apply rfl;apply rfl;infer_instance;apply rfl;apply rfl)|(apply T.neq;(iterate 3 apply rfl))|(with_reducible first|refine Sr.nil ?_|refine S.seq ?_|refine S.block ?_|refine S.reg ?_)|(apply S.quiet;apply rfl;kernel_rfl)|(apply S.condQ;apply rfl;all_goals (intro _;try (exfalso;first|omega|with_reducible contradiction)))|(with_reducible apply T.ofRet)|fail)
     refine T.call rfl rfl hc ?_
     intro _ _ hh
     obtain ⟨i3,oa3,oc3,ns3,a3,z3,b3,rfl,rfl,g1,g2⟩:=hh.any ho (by omega) hl (by omega)
     clear hh
     repeat' (first|(apply T.asn;apply rfl;apply rfl)|with_reducible refine Sr.nil ?_|(apply T.retW;apply rfl)|(with_reducible apply T.ofRet)|fail)
     rcases g2 with ⟨rfl,rfl,k3,k4,k5,k6⟩|⟨k1,k2,b',rfl⟩
     ·rw [k3]
      exact ⟨_,PSub.refl _,_,_,_,ns3,rfl,by omega,rfl⟩
     ·rw [k1]
      exact ⟨_,PSub.refl _,_,_,_,_,a3,b',rfl,⟨by omega,by omega⟩,rfl⟩
 ·rw [decide_eq_false h0] at hnx
  have hwe:wdX t q=[]:=Z0o h0
  have hgt:Z2i t q=.no 180:=by
   unfold Z2i Z17 Z1C
   rw [hss,if_neg h0]
  rw [hwe,if_neg (by decide),if_neg (by decide),if_neg (fun h=>h0 h.1),hgt]
  repeat' (first|((first|apply T.mv|apply T.asn|apply T.nilCheck|apply T.fieldAddrZ);apply rfl;apply rfl)|(apply T.load;apply rfl;apply rfl;infer_instance;apply rfl;apply rfl)|(apply T.neq;(iterate 3 apply rfl))|(with_reducible first|refine Sr.nil ?_|refine S.seq ?_|refine S.reg ?_|refine S.skip ?_)|(apply S.condFV;apply rfl;(first|with_reducible rfl|decide))|fail)
  refine T.call rfl rfl hnx ?_
  rintro _ _ ⟨rfl,rfl⟩
  repeat' (first|((first|apply T.mv|apply T.asn|apply T.nilCheck|apply T.fieldAddrZ);apply rfl;apply rfl)|(apply T.load;apply rfl;apply rfl;infer_instance;apply rfl;apply rfl)|(apply T.notB;apply rfl;apply rfl)|(with_reducible first|refine Sr.nil ?_|refine S.seq ?_|refine S.reg ?_)|(apply S.condTV;apply rfl;(first|with_reducible rfl|decide))|(with_reducible apply T.ofRet)|fail)
  refine T.call rfl rfl Z8 ?_
  rintro _ _ ⟨rfl,rfl⟩
  repeat' (first|(apply T.asn;apply rfl;apply rfl)|(with_reducible first|refine Sr.nil ?_|refine S.seq ?_|refine S.reg ?_)|(apply T.retW;apply rfl)|(with_reducible apply T.ofRet)|fail)
  exact ⟨_,PSub.refl _,0,_,_,ns,q,q,rfl,⟨by omega,by omega⟩,rfl⟩
theorem Z3G:Meets Tryz.prog 19 [sV t] F M H (fun e H'=>∃ (ra:Option Addr) (rn rc:Nat) (b:Int),e=.returned (.tuple ⟨[.slice ra rn rc,.int .i64 (Z4p t),.int .i64 b]⟩)∧H'=H):=by
 refine Meets.enter Tryz.func19 rfl rfl ?_
 unfold Z4p
 by_cases hl:1024 < t.length
 ·rw [if_pos hl]
  repeat' (first|((first|apply T.slen|apply T.mv|apply T.asn);apply rfl;apply rfl)|(apply T.gtr;(iterate 3 apply rfl))|(with_reducible first|refine Sr.nil ?_|refine S.seq ?_|refine S.reg ?_)|(apply S.condQ;apply rfl;all_goals (intro _;try (exfalso;first|omega|with_reducible contradiction)))|(apply T.retW;apply rfl)|fail)
  exact ⟨_,PSub.refl _,none,0,0,0,rfl,rfl⟩
 ·rw [if_neg hl]
  have hl2:t.length≤1024:=by omega
  have hok:∀ p,p≤t.length→RzO t (p+1) (ZV t 32 p):=fun _ h=>Z09 h
  have hc:=fun p H=>Z21 (Z4Y hl2 (by omega) (by omega) (fun _ h=>Z1q hok h) (Z53 hl2 (by omega) (by omega) hok (Z5F (F:=F) (M:=M) (H:=H) (p:=p) hl2 32 (Nat.le_refl _)))) 0 [] none 0 (Nat.zero_le _) (Nat.zero_le _)
  have h0:(32:Int) - ((32:Nat):Int)=0:=by decide
  have hgr:ZW t (ZW t (ZV t 32) kAnd) kOr 0=Z3l t (ZV t 32) 0:=rfl
  rw [h0,hgr] at hc
  have ho:=Z1p (t:=t) (p:=0) hok (Nat.zero_le _)
  repeat' (first|((first|apply T.slen|apply T.mv|apply T.asn);apply rfl;apply rfl)|(apply T.gtr;(iterate 3 apply rfl))|(apply T.buildL;(iterate 3 apply rfl))|(apply T.box;apply rfl;apply rfl;intro nb)|(with_reducible first|refine Sr.nil ?_|refine S.seq ?_|refine S.reg ?_|refine S.skip ?_)|(apply S.condQ;apply rfl;all_goals (intro _;try (exfalso;first|omega|with_reducible contradiction)))|fail)
  refine Sr.nilrow 95 6 ?_
  refine Sr.front nb ?_
  refine T.call rfl rfl (hc nb _) ?_
  intro _ _ hh
  obtain ⟨i3,oa3,oc3,ns3,a3,z3,b3,rfl,rfl,g1,g2⟩:=hh.any ho (by omega) hl2 (Nat.le_refl _)
  clear hh
  rcases g2 with ⟨rfl,rfl,k3,k4,k5,k6⟩|⟨k1,k2,b',rfl⟩
  ·rw [k3]
   dsimp only
   have n1:=fun X=>Zk (F:=F) (M:=M) (H:=X) (p:=nb) (oa:=oa3) (n:=ns3.length) (oc:=oc3) (o:=0) (er:=0) (bd:=0) k5 hl2
   by_cases h1:Z2 t a3 < t.length
   ·rw [if_pos h1]
    rw [decide_eq_true h1] at n1
    repeat' (first|((first|apply T.mv|apply T.nilCheck|apply T.fieldAddrZ);apply rfl;apply rfl)|(apply T.load;apply rfl;apply rfl;infer_instance;apply rfl;apply rfl)|(apply T.eql;(iterate 3 apply rfl))|(with_reducible first|refine Sr.nil ?_|refine S.seq ?_|refine S.reg ?_)|(apply T.ungV;apply rfl;(first|with_reducible rfl|decide))|(with_reducible apply T.ofRet)|fail)
    refine T.call rfl rfl (n1 _) ?_
    rintro _ _ ⟨rfl,rfl⟩
    repeat' (first|((first|apply T.mv|apply T.nilCheck|apply T.fieldAddrZ);apply rfl;apply rfl)|(apply T.load;apply rfl;apply rfl;infer_instance;apply rfl;apply rfl)|(apply T.pickT;(iterate 3 apply rfl))|(with_reducible first|refine Sr.nil ?_|refine S.reg ?_)|(apply S.condTV;apply rfl;(first|with_reducible rfl|decide))|(with_reducible apply T.ofRet)|fail)
    refine T.call rfl rfl Z8 ?_
    rintro _ _ ⟨rfl,rfl⟩
    repeat' (first|((first|apply T.mv|apply T.asn|apply T.nilCheck|apply T.fieldAddrZ);apply rfl;apply rfl)|(apply T.load;apply rfl;apply rfl;infer_instance;apply rfl;apply rfl)|(apply T.neq;(iterate 3 apply rfl))|(with_reducible first|refine Sr.nil ?_|refine S.seq ?_|refine S.reg ?_)|(apply S.quiet;apply rfl;kernel_rfl)|(apply S.condTV;apply rfl;(first|with_reducible rfl|decide))|(apply T.retW;apply rfl)|(with_reducible apply T.ofRet)|fail)
    exact ⟨_,PSub.drop (PSub.drop (PSub.refl _)),none,0,0,_,rfl,rfl⟩
   ·rw [if_neg h1]
    rw [decide_eq_false h1] at n1
    repeat' (first|((first|apply T.mv|apply T.nilCheck|apply T.fieldAddrZ);apply rfl;apply rfl)|(apply T.load;apply rfl;apply rfl;infer_instance;apply rfl;apply rfl)|(apply T.eql;(iterate 3 apply rfl))|(with_reducible first|refine Sr.nil ?_|refine S.seq ?_|refine S.reg ?_)|(apply T.ungV;apply rfl;(first|with_reducible rfl|decide))|(with_reducible apply T.ofRet)|fail)
    refine T.call rfl rfl (n1 _) ?_
    rintro _ _ ⟨rfl,rfl⟩
    repeat' (first|((first|apply T.mv|apply T.asn|apply T.nilCheck|apply T.fieldAddrZ);apply rfl;apply rfl)|(apply T.load;apply rfl;apply rfl;infer_instance;apply rfl;apply rfl)|(apply T.neq;(iterate 3 apply rfl))|(apply T.pickT;(iterate 3 apply rfl))|(with_reducible first|refine Sr.nil ?_|refine S.seq ?_|refine S.reg ?_|refine S.skip ?_)|(apply S.condFV;apply rfl;(first|with_reducible rfl|decide))|(apply T.retW;apply rfl)|(with_reducible apply T.ofRet)|fail)
    exact ⟨_,PSub.drop (PSub.drop (PSub.refl _)),_,_,_,0,rfl,rfl⟩
  ·rw [k1]
   dsimp only
   repeat' (first|((first|apply T.mv|apply T.asn|apply T.nilCheck|apply T.fieldAddrZ);apply rfl;apply rfl)|(apply T.load;apply rfl;apply rfl;infer_instance;apply rfl;apply rfl)|((first|apply T.eql|apply T.neq);(iterate 3 apply rfl))|(apply T.pickF;(iterate 3 apply rfl))|(with_reducible first|refine Sr.nil ?_|refine S.seq ?_|refine S.reg ?_|refine S.skip ?_)|(apply S.quiet;apply rfl;kernel_rfl)|(apply T.skip;apply rfl;(first|with_reducible rfl|decide);apply rfl)|(apply S.condFV;apply rfl;(first|with_reducible rfl|decide))|(apply S.condQ;apply rfl;all_goals (intro _;try (exfalso;first|omega|with_reducible contradiction)))|(apply T.gcase;apply rfl;apply rfl;all_goals (intro _;try (exfalso;first|omega|with_reducible contradiction)))|(apply T.retW;apply rfl)|(with_reducible apply T.ofRet)|fail)
   exact ⟨_,PSub.drop (PSub.drop (PSub.refl _)),none,0,0,_,rfl,rfl⟩
end
end Go.Proofs.YthomgjihagigcaaGreatDoor
/- A lock that nobody holds is taken, and given back: for the seat's program. -/
namespace Go.Proofs
abbrev Tryz.muLink:Go.Conc.Locks.MuLink:={ lock:=10,unlock:=11,ilock:=22,iunlock:=23,lockSlow:=36,unlockSlow:=39,disable:=32,enable:=34,acquire:=35,relMerge:=37,cas32:=33,add32:=38,tMutex:=44,tIMutex:=42,tPMutex:=61,tPIMutex:=83,tPI32:=85,tUP:=87,tNoCopy:=39,tU32:=40 }
theorem Tryz.muLib:Go.Conc.Locks.MuLib Tryz.prog Tryz.muLink :=
 ⟨Tryz.func10,Tryz.func11,Tryz.func22,Tryz.func23,Tryz.func32,Tryz.func34,Tryz.func35,Tryz.func37,Tryz.func33,Tryz.func38,
 Tryz.underlying42,Tryz.runUnderlying42,Tryz.sizeOf42,Tryz.isAgg42,Tryz.zeroValue42,
 Tryz.underlying44,Tryz.runUnderlying44,Tryz.sizeOf44,Tryz.isAgg44,Tryz.zeroValue44,
 Tryz.underlying61,Tryz.runUnderlying61,Tryz.sizeOf61,Tryz.isAgg61,Tryz.zeroValue61,
 Tryz.underlying83,Tryz.runUnderlying83,Tryz.sizeOf83,Tryz.isAgg83,Tryz.zeroValue83,
 Tryz.underlying85,Tryz.runUnderlying85,Tryz.sizeOf85,Tryz.isAgg85,Tryz.zeroValue85,
 Tryz.underlying87,Tryz.runUnderlying87,Tryz.sizeOf87,Tryz.isAgg87,Tryz.zeroValue87,
 Tryz.underlying39,Tryz.runUnderlying39,Tryz.sizeOf39,Tryz.isAgg39,Tryz.zeroValue39,
 Tryz.underlying21,Tryz.runUnderlying21,Tryz.sizeOf21,Tryz.isAgg21,Tryz.zeroValue21,(by kernel_rfl)⟩
end Go.Proofs
namespace Go.Proofs.YthomgjihagigcaaGreatDoor
open Sg Go.MuLone
section
variable {F:World} {M:List Nat} {H:List Res} {b:Nat} {vs:List Value} {E:TypeId}
theorem Z6B (h0:vs[0]?=some (.int .i32 0)):Meets Tryz.prog 10 [.pointer (some ⟨b,0,none⟩)] F M (.blk b vs E::H) (fun e H'=>e=.returned (.tuple ⟨[]⟩)∧H'=.blk b (vs.set 0 (.int .i32 1)) E::H):=fun w hw=>by
 have hc:=(hw.cell (List.mem_cons_self ..) 0).trans h0
 refine (lock_free Tryz.muLib ⟨b,0,none⟩ w hc (hw.unfrozen (List.mem_cons_self ..) 0)).mono fun e w' ⟨h1,h2⟩=>?_
 subst h2
 exact ⟨_,⟨h1,rfl⟩,hw.setCell 0 _⟩
theorem Z4f (h0:vs[0]?=some (.int .i32 1)):MeetsD Tryz.prog 11 [.pointer (some ⟨b,0,none⟩)] F M (.blk b vs E::H) (fun e H'=>e=.returned (.tuple ⟨[]⟩)∧H'=.blk b (vs.set 0 (.int .i32 0)) E::H):=fun w u hw=>by
 have hc:=(hw.cell (List.mem_cons_self ..) 0).trans h0
 refine (unlock_deferred Tryz.muLib ⟨b,0,none⟩ u w hc (hw.unfrozen (List.mem_cons_self ..) 0)).mono fun e u' w' ⟨h1,h2,h3⟩=>?_
 subst h3
 exact ⟨h1,_,⟨h2,rfl⟩,hw.setCell 0 _⟩
end
end Go.Proofs.YthomgjihagigcaaGreatDoor
/- A call that is deferred on a place in a block; for every program. -/
namespace Sg
open Go Go.RowKit
theorem MeetsD.r {P:Program} {g:FuncId} {args:List Value} {F:World} {M:List Nat} {H:List Res} {post:Ending→List Res→Prop} {u:FrameMode} (h:MeetsD P g args F M H post):MeetsR P g args u u F M H post:=fun w hw=>h w u hw
section
variable {c:Ctx} {ds:List Deferred} {H:List Res} {k:List Item} {e:Env}
theorem S.defer4 {id d1 d2 d3 p:Nat} {g:FuncId} {x:Operand} {t t1 t2 t3 t4:TypeId} {p1 p2 p3 p4:String} {a1 a2 a3 a4:Array Edge} {ats:Array TypeId} [HFd c.P t 0 0] (hx:ev e x=some (.pointer (some ⟨p,0,none⟩))) (l1:Nat.blt d1 c.fn.ntmps=true) (l2:Nat.blt d2 c.fn.ntmps=true) (l3:Nat.blt d3 c.fn.ntmps=true)
  (h:S c (⟨.fn (.func g) ⟨[]⟩,⟨[.pointer (some ⟨p,0,none⟩)]⟩⟩::ds) H k ((d3,.pointer (some ⟨p,0,none⟩))::(d2,.pointer (some ⟨p,0,none⟩))::(d1,.pointer (some ⟨p,0,none⟩))::e)) :
  S c ds H (.code (.region id #[⟨some d1,.move x,t1,p1,a1,none⟩,⟨some d2,.nilCheck (.tmp d1),t2,p2,a2,none⟩,⟨some d3,.fieldAddr t (.tmp d2) 0,t3,p3,a3,none⟩,⟨none,.defer ⟨.value (.func g),#[.tmp d3],ats⟩,t4,p4,a4,none⟩] false)::k) e:=S.ofWp fun w a hw ha hds=>by
 refine wp_region_lit (l:=[⟨some d1,.move x,t1,p1,a1,none⟩,⟨some d2,.nilCheck (.tmp d1),t2,p2,a2,none⟩,⟨some d3,.fieldAddr t (.tmp d2) 0,t3,p3,a3,none⟩,⟨none,.defer ⟨.value (.func g),#[.tmp d3],ats⟩,t4,p4,a4,none⟩]) (Zl (Zc rfl _) ?_)
 have r1:(execOp a.eval (⟨some d1,.move x,t1,p1,a1,none⟩:Oper)).run c.P w=.ok (.value (.pointer (some ⟨p,0,none⟩))) w:=by simp [execOp,ha.ev hx]
 simp only [Oper.wp,r1,Oper.upon]
 have ha1:=ha.put (d:=some d1) l1 (.pointer (some ⟨p,0,none⟩))
 refine Zl (Zc rfl _) ?_
 have r2:(execOp (a.put (some d1) (.pointer (some ⟨p,0,none⟩))).eval (⟨some d2,.nilCheck (.tmp d1),t2,p2,a2,none⟩:Oper)).run c.P w=.ok (.value (.pointer (some ⟨p,0,none⟩))) w :=
  Pu.nilCheck (c:=c) (H:=H) (dst:=some d2) (ty:=t2) (pos:=p2) (aft:=a2) (g:=none) (x:=.tmp d1) (by simp [ev,setd,get?]) w _ hw ha1
 simp only [Oper.wp,r2,Oper.upon]
 have ha2:=ha1.put (d:=some d2) l2 (.pointer (some ⟨p,0,none⟩))
 refine Zl (Zc rfl _) ?_
 have r3:(execOp ((a.put (some d1) (.pointer (some ⟨p,0,none⟩))).put (some d2) (.pointer (some ⟨p,0,none⟩))).eval (⟨some d3,.fieldAddr t (.tmp d2) 0,t3,p3,a3,none⟩:Oper)).run c.P w=.ok (.value (.pointer (some ⟨p,0,none⟩))) w :=
  Pu.fieldAddr (c:=c) (H:=H) (dst:=some d3) (ty:=t3) (pos:=p3) (aft:=a3) (g:=none) (x:=.tmp d2) (b:=p) (off:=0) (fo:=0) (by simp [ev,setd,get?]) w _ hw ha2
 simp only [Oper.wp,r3,Oper.upon]
 have ha3:=ha2.put (d:=some d3) l3 (.pointer (some ⟨p,0,none⟩))
 refine Zl (Zc rfl _) ?_
 have h1:=ha3.ev (x:=.tmp d3) (v:=.pointer (some ⟨p,0,none⟩)) (by simp [ev,setd,get?])
 have h2:=ha3.ev (x:=.func g) (v:=.func (.func g) #[] #[]) rfl
 have hm:Array.map (((a.put (some d1) (.pointer (some ⟨p,0,none⟩))).put (some d2) (.pointer (some ⟨p,0,none⟩))).put (some d3) (.pointer (some ⟨p,0,none⟩))).eval #[.tmp d3]=⟨[.pointer (some ⟨p,0,none⟩)]⟩:=by simp [h1]
 simp only [Oper.wp,execOp,resolve,h2,hm,Deferred.ofValue]
 simp only [Oper.upon,Act.put,pure_bind,Sem.run_pure]
 unfold S at h
 exact h w _ hw ⟨ha3.size,ha3.get⟩ (by simp [hds])
end
end Sg
/- The walks of both News; a gate's length. -/
/- guards -/
namespace Sg
open Go
def newC (lee:Int) (t:List UInt8):Int:=if lee < 0∨600 < lee then 12 else if t=[] then 0 else Z4p t
end Sg
namespace Go.Proofs.YthomgjihagigcaaGreatDoor
open Sg Go.IntWalk
set_option maxRecDepth 100000
set_option maxHeartbeats 4000000
section
variable {F:World} {M:List Nat} {H:List Res} {xs ys:List (List UInt8)} {P:Pol} {t:List UInt8} {n g c1 c2 n1 n2:Nat}
abbrev gaV (P:Pol) (mu:Int) (s1 s2 r ri:Value) (b:Nat):List Value:=[.int .i32 mu,.int .u32 0,s1,sV P.iss,.bool P.hi,sV P.aud,.bool P.ha,sV P.typ,.bool P.ht,.int .i64 P.lee,s2,r,ri,.pointer (some ⟨b,0,none⟩)]
abbrev gaR (g:Nat) (P:Pol) (mu:Int) (s1 s2 r ri:Value) (b mb:Nat) (H:List Res):List Res:=.blk g (gaV P mu s1 s2 r ri b) 49::bkR b mb H
def NwP (P:Pol) (H:List Res) (c:Int) (e:Ending) (H':List Res):Prop :=
 (c≠0∧e=.returned (.tuple ⟨[.pointer none,.int .i64 c]⟩)∧H'=H) ∨
 (c=0∧∃ (g b mb:Nat) (s1 s2 r ri:Value),e=.returned (.tuple ⟨[.pointer (some ⟨g,0,none⟩),.int .i64 0]⟩)∧H'=gaR g P 0 s1 s2 r ri b mb H)
theorem Z3V {q1 q2:Addr} (hT:GtT F M) (hJ:Tabs F M) (h1:Rd F M H (some q1) (xs.map sV)) (h2:Rd F M H (some q2) (ys.map sV)) (hx:xs.length=n1) (hy:ys.length=n2) (k1:n1≤1000000000) (k2:n2≤1000000000) :
  Meets Tryz.prog 7 [.agg ⟨poV P (.slice (some q1) n1 c1) (.slice (some q2) n2 c2)⟩,sV t] F M H (NwP P H (newC P.lee t)):=by
 refine Meets.enter Tryz.func7 rfl rfl ?_
 unfold newC
 by_cases hl:P.lee < 0∨600 < P.lee
 ·rw [if_pos hl]
  by_cases hl0:P.lee < 0
  all_goals
   repeat' (first|((first|apply T.mv|apply T.asn|apply T.fieldAddrZ);apply rfl;apply rfl)|(apply T.load;apply rfl;apply rfl;infer_instance;apply rfl;apply rfl)|((first|apply T.lss|apply T.gtr);(iterate 3 apply rfl))|(apply T.pickT;(iterate 3 apply rfl))|(apply T.pickF;(iterate 3 apply rfl))|(apply T.box;apply rfl;apply rfl;intro nb)|(with_reducible first|refine Sr.nil ?_|refine S.seq ?_|refine S.reg ?_)|(apply T.ungV;apply rfl;(first|with_reducible rfl|decide))|(apply T.skip;apply rfl;(first|with_reducible rfl|decide);apply rfl)|(apply S.condTV;apply rfl;(first|with_reducible rfl|decide))|(apply S.condQ;apply rfl;all_goals (intro _;try (exfalso;first|omega|with_reducible contradiction)))|(apply T.gcase;apply rfl;apply rfl;all_goals (intro _;try (exfalso;first|omega|with_reducible contradiction)))|(apply T.retW;apply rfl)|fail)
   exact ⟨_,PSub.drop (PSub.refl _),.inl ⟨by decide,rfl,rfl⟩⟩
 ·rw [if_neg hl]
  have m1:=fun X=>Z3E (F:=F) (M:=M) (H:=X)
  have m2:=fun X=>Z47 (F:=F) (M:=M) (H:=X)
  have e1:=fun X (h:Rd F M X (some q1) (xs.map sV))=>Z2Z (F:=F) (M:=M) (H:=X) (cp:=c1) h hx k1
  have e2:=fun X (h:Rd F M X (some q2) (ys.map sV))=>Z2Z (F:=F) (M:=M) (H:=X) (cp:=c2) h hy k2
  repeat' (first|((first|apply T.mv|apply T.asn|apply T.fieldAddrZ);apply rfl;apply rfl)|(apply T.load;apply rfl;apply rfl;infer_instance;apply rfl;apply rfl)|((first|apply T.lss|apply T.gtr);(iterate 3 apply rfl))|(apply T.pickF;(iterate 3 apply rfl))|(apply T.box;apply rfl;apply rfl;intro nb)|(with_reducible first|refine Sr.nil ?_|refine S.seq ?_|refine S.reg ?_|refine S.skip ?_)|(apply T.ungV;apply rfl;(first|with_reducible rfl|decide))|(apply S.condQ;apply rfl;all_goals (intro _;try (exfalso;first|omega|with_reducible contradiction)))|(apply T.gcase;apply rfl;apply rfl;all_goals (intro _;try (exfalso;first|omega|with_reducible contradiction)))|fail)
  obtain ⟨pb,hpb⟩:∃ pb,pb=nb:=⟨_,rfl⟩
  subst hpb
  (apply S.draw;(case Hs=>exact .blk pb (poV P (.slice (some q1) n1 c1) (.slice (some q2) n2 c2)) 24::H);(case es=>exact  [1,2,4]);(case n=>exact  6);(case hn=>rfl))
  repeat' (first|(apply T.call;apply rfl;apply rfl;with_reducible exact m1 _;rintro _ _ ⟨rb,rfl,rfl⟩)|(apply T.call;apply rfl;apply rfl;with_reducible exact m2 _;rintro _ _ ⟨bb,mb,rfl,rfl⟩)|(apply T.asn;apply rfl;apply rfl)|(apply T.buildL;(iterate 3 apply rfl))|(apply T.loadW;apply rfl;apply rfl;infer_instance;(first|rfl|(simp only [List.length_append,List.length_map,List.length_set,List.length_replicate,List.length_cons,List.length_nil];first|done|omega));apply rfl)|(apply T.box;apply rfl;apply rfl;intro nb)|(with_reducible first|refine Sr.nil ?_|refine S.seq ?_)|(with_reducible apply T.ofRet)|(apply SA.qn;(iterate 4 apply rfl);kernel_rfl)|(apply SA.qsn;(iterate 3 apply rfl);kernel_rfl;(first|exact fun _ h=>h|exact fun _ h=>St.psub h (by ((repeat (first|dsimp only [List.set_cons_zero]|dsimp only [List.set_cons_succ]));repeat' first|exact PSub.refl _|exact PSub.nil|(with_reducible apply PSub.app)|(apply PSub.take;(repeat' first|(with_reducible exact Z0)|(with_reducible apply Z1)))|(with_reducible apply PSub.drop)|((apply PSub.take);(repeat' first|exact Z0|(apply Z1)))))))|(apply SA.en;apply rfl;apply rfl;kernel_rfl)|(apply SA.done;apply rfl;kernel_rfl)|(apply SK.intro;(first|exact fun _ h=>h|exact fun _ h=>St.psub h (by ((repeat (first|dsimp only [List.set_cons_zero]|dsimp only [List.set_cons_succ]));repeat' first|exact PSub.refl _|exact PSub.nil|(with_reducible apply PSub.app)|(apply PSub.take;(repeat' first|(with_reducible exact Z0)|(with_reducible apply Z1)))|(with_reducible apply PSub.drop)|((apply PSub.take);(repeat' first|exact Z0|(apply Z1)))))))|fail)
  all_goals
   obtain ⟨gb,hgb⟩:∃ gb,gb=nb:=⟨_,rfl⟩
   subst hgb
   by_cases ht:t=[]
   ·rw [if_pos ht]
    (apply S.draw;(case Hs=>exact .blk pb (poV P (.slice (some q1) n1 c1) (.slice (some q2) n2 c2)) 24::H);(case es=>exact  [4,7,11,15]);(case n=>exact  16);(case hn=>rfl))
    repeat' (first|(apply T.call;apply rfl;apply rfl;with_reducible exact e1 _ inferInstance;rintro _ _ ⟨va,vn,vc,rfl,rfl⟩)|(apply T.call;apply rfl;apply rfl;with_reducible exact e2 _ inferInstance;rintro _ _ ⟨wa,wn,wc,rfl,rfl⟩)|(apply T.sneq;(iterate 3 apply rfl);rw [decide_eq_false (fun h=>h ht)])|((first|apply T.mv|apply T.asn|apply T.nilCheck);apply rfl;apply rfl)|(apply T.fieldAddrZ;apply rfl;apply rfl)|(apply T.fieldAddr;apply rfl;apply rfl)|(apply T.load;apply rfl;apply rfl;infer_instance;apply rfl;apply rfl)|(apply T.store;apply rfl;apply rfl;infer_instance;(first|decide|(simp;omega)|simp);apply rfl)|(with_reducible first|refine Sr.nil ?_|refine S.seq ?_|refine S.reg ?_|refine S.skip ?_)|(apply S.condFV;apply rfl;(first|with_reducible rfl|decide))|(apply T.retW;apply rfl)|(with_reducible apply T.ofRet)|(apply SA.qn;(iterate 4 apply rfl);kernel_rfl)|(apply SA.qz;(iterate 4 apply rfl);kernel_rfl)|(apply SA.qsn;(iterate 3 apply rfl);kernel_rfl;(first|exact fun _ h=>h|exact fun _ h=>St.psub h (by ((repeat (first|dsimp only [List.set_cons_zero]|dsimp only [List.set_cons_succ]));repeat' first|exact PSub.refl _|exact PSub.nil|(with_reducible apply PSub.app)|(apply PSub.take;(repeat' first|(with_reducible exact Z0)|(with_reducible apply Z1)))|(with_reducible apply PSub.drop)|((apply PSub.take);(repeat' first|exact Z0|(apply Z1)))))))|(apply SA.en;apply rfl;apply rfl;kernel_rfl)|(apply SA.done;apply rfl;kernel_rfl)|(apply SK.intro;(first|exact fun _ h=>h|exact fun _ h=>St.psub h (by ((repeat (first|dsimp only [List.set_cons_zero]|dsimp only [List.set_cons_succ]));repeat' first|exact PSub.refl _|exact PSub.nil|(with_reducible apply PSub.app)|(apply PSub.take;(repeat' first|(with_reducible exact Z0)|(with_reducible apply Z1)))|(with_reducible apply PSub.drop)|((apply PSub.take);(repeat' first|exact Z0|(apply Z1)))))))|fail)
    all_goals exact ⟨_,PSub.take Z0 (PSub.take Z0 (PSub.take Z0 (PSub.drop (PSub.refl _)))),.inr ⟨rfl,gb,bb,mb,.slice va vn vc,.slice wa wn wc,.slice none 0 0,.pointer (some ⟨rb,0,none⟩),rfl,rfl⟩⟩
   ·rw [if_neg ht]
    (apply S.draw;(case Hs=>exact .blk pb (poV P (.slice (some q1) n1 c1) (.slice (some q2) n2 c2)) 24::H);(case es=>exact  [4,7,11,15]);(case n=>exact  16);(case hn=>rfl))
    repeat' (first|(apply T.call;apply rfl;apply rfl;with_reducible exact e1 _ inferInstance;rintro _ _ ⟨va,vn,vc,rfl,rfl⟩)|(apply T.call;apply rfl;apply rfl;with_reducible exact e2 _ inferInstance;rintro _ _ ⟨wa,wn,wc,rfl,rfl⟩)|(apply T.sneq;(iterate 3 apply rfl);rw [decide_eq_true ht])|((first|apply T.mv|apply T.nilCheck);apply rfl;apply rfl)|(apply T.fieldAddrZ;apply rfl;apply rfl)|(apply T.fieldAddr;apply rfl;apply rfl)|(apply T.load;apply rfl;apply rfl;infer_instance;apply rfl;apply rfl)|(apply T.store;apply rfl;apply rfl;infer_instance;(first|decide|(simp;omega)|simp);apply rfl)|(with_reducible first|refine Sr.nil ?_|refine S.seq ?_|refine S.reg ?_)|(apply S.condTV;apply rfl;(first|with_reducible rfl|decide))|(with_reducible apply T.ofRet)|(apply SA.qn;(iterate 4 apply rfl);kernel_rfl)|(apply SA.qz;(iterate 4 apply rfl);kernel_rfl)|(apply SA.qsn;(iterate 3 apply rfl);kernel_rfl;(first|exact fun _ h=>h|exact fun _ h=>St.psub h (by ((repeat (first|dsimp only [List.set_cons_zero]|dsimp only [List.set_cons_succ]));repeat' first|exact PSub.refl _|exact PSub.nil|(with_reducible apply PSub.app)|(apply PSub.take;(repeat' first|(with_reducible exact Z0)|(with_reducible apply Z1)))|(with_reducible apply PSub.drop)|((apply PSub.take);(repeat' first|exact Z0|(apply Z1)))))))|(apply SA.en;apply rfl;apply rfl;kernel_rfl)|(apply SA.done;apply rfl;kernel_rfl)|(apply SK.intro;(first|exact fun _ h=>h|exact fun _ h=>St.psub h (by ((repeat (first|dsimp only [List.set_cons_zero]|dsimp only [List.set_cons_succ]));repeat' first|exact PSub.refl _|exact PSub.nil|(with_reducible apply PSub.app)|(apply PSub.take;(repeat' first|(with_reducible exact Z0)|(with_reducible apply Z1)))|(with_reducible apply PSub.drop)|((apply PSub.take);(repeat' first|exact Z0|(apply Z1)))))))|fail)
    all_goals
     refine T.call rfl rfl (Z4E (t:=t) hT hJ) ?_
     rintro _ _ ⟨ra,rn,rc,b,rfl,rfl⟩
     by_cases hc:Z4p t=0
     ·rw [hc]
      repeat' (first|((first|apply T.mv|apply T.asn|apply T.nilCheck|apply T.fieldAddrZ);apply rfl;apply rfl)|((first|apply T.neq|apply T.extract);(iterate 3 apply rfl))|(apply T.store;apply rfl;apply rfl;infer_instance;(first|decide|(simp;omega)|simp);apply rfl)|(with_reducible first|refine Sr.nil ?_|refine S.seq ?_|refine S.reg ?_|refine S.skip ?_)|(apply S.condFV;apply rfl;(first|with_reducible rfl|decide))|(apply T.retW;apply rfl)|(with_reducible apply T.ofRet)|fail)
      exact ⟨_,PSub.take Z0 (PSub.take Z0 (PSub.take Z0 (PSub.drop (PSub.refl _)))),.inr ⟨rfl,gb,bb,mb,.slice va vn vc,.slice wa wn wc,.slice ra rn rc,.pointer (some ⟨rb,0,none⟩),rfl,rfl⟩⟩
     ·repeat' (first|((first|apply T.mv|apply T.asn);apply rfl;apply rfl)|((first|apply T.neq|apply T.extract);(iterate 3 apply rfl))|(with_reducible first|refine Sr.nil ?_|refine S.seq ?_|refine S.reg ?_)|(apply S.condQ;apply rfl;all_goals (intro _;try (exfalso;first|omega|with_reducible contradiction)))|(apply T.retW;apply rfl)|(with_reducible apply T.ofRet)|fail)
      exact ⟨_,PSub.drop (PSub.drop (PSub.drop (PSub.drop (PSub.refl _)))),.inl ⟨hc,rfl,rfl⟩⟩
theorem Z4t {q1 q2:Option Addr}:Meets Tryz.prog 8 [.agg ⟨poV P (.slice q1 n1 c1) (.slice q2 n2 c2)⟩,sV t] F M H (fun e H'=>H'=H∧((newC P.lee t≠0∧e=.returned (.tuple ⟨[.pointer none,.int .i64 (newC P.lee t)]⟩))∨(newC P.lee t=0∧∃ b:Nat,e=.returned (.tuple ⟨[.pointer (some ⟨b,0,none⟩),.int .i64 0]⟩)))):=by
 refine Meets.enter Tryz.func8 rfl rfl ?_
 unfold newC
 by_cases hl:P.lee < 0∨600 < P.lee
 ·rw [if_pos hl]
  by_cases hl0:P.lee < 0
  all_goals
   repeat' (first|((first|apply T.mv|apply T.asn|apply T.fieldAddrZ);apply rfl;apply rfl)|(apply T.load;apply rfl;apply rfl;infer_instance;apply rfl;apply rfl)|((first|apply T.lss|apply T.gtr);(iterate 3 apply rfl))|(apply T.pickT;(iterate 3 apply rfl))|(apply T.pickF;(iterate 3 apply rfl))|(apply T.box;apply rfl;apply rfl;intro nb)|(with_reducible first|refine Sr.nil ?_|refine S.seq ?_|refine S.reg ?_)|(apply T.ungV;apply rfl;(first|with_reducible rfl|decide))|(apply T.skip;apply rfl;(first|with_reducible rfl|decide);apply rfl)|(apply S.condTV;apply rfl;(first|with_reducible rfl|decide))|(apply S.condQ;apply rfl;all_goals (intro _;try (exfalso;first|omega|with_reducible contradiction)))|(apply T.gcase;apply rfl;apply rfl;all_goals (intro _;try (exfalso;first|omega|with_reducible contradiction)))|(apply T.retW;apply rfl)|fail)
   exact ⟨_,PSub.drop (PSub.refl _),rfl,.inl ⟨by decide,rfl⟩⟩
 ·rw [if_neg hl]
  have m1:=fun X=>Z3H (F:=F) (M:=M) (H:=X)
  repeat' (first|((first|apply T.mv|apply T.asn|apply T.fieldAddrZ);apply rfl;apply rfl)|(apply T.load;apply rfl;apply rfl;infer_instance;apply rfl;apply rfl)|((first|apply T.lss|apply T.gtr);(iterate 3 apply rfl))|(apply T.pickF;(iterate 3 apply rfl))|(apply T.box;apply rfl;apply rfl;intro nb)|(with_reducible first|refine Sr.nil ?_|refine S.seq ?_|refine S.reg ?_|refine S.skip ?_)|(apply T.ungV;apply rfl;(first|with_reducible rfl|decide))|(apply S.condQ;apply rfl;all_goals (intro _;try (exfalso;first|omega|with_reducible contradiction)))|(apply T.gcase;apply rfl;apply rfl;all_goals (intro _;try (exfalso;first|omega|with_reducible contradiction)))|fail)
  obtain ⟨pb,hpb⟩:∃ pb,pb=nb:=⟨_,rfl⟩
  subst hpb
  by_cases ht:t=[]
  ·rw [if_pos ht]
   (apply S.draw;(case Hs=>exact .blk pb (poV P (.slice q1 n1 c1) (.slice q2 n2 c2)) 24::H);(case es=>exact  [1,3]);(case n=>exact  5);(case hn=>rfl))
   repeat' (first|(apply T.call;apply rfl;apply rfl;with_reducible exact m1 _;rintro _ _ ⟨rb,rfl,rfl⟩)|(apply T.sneq;(iterate 3 apply rfl);rw [decide_eq_false (fun h=>h ht)])|((first|apply T.mv|apply T.asn);apply rfl;apply rfl)|(apply T.buildL;(iterate 3 apply rfl))|(apply T.loadW;apply rfl;apply rfl;infer_instance;(first|rfl|(simp only [List.length_append,List.length_map,List.length_set,List.length_replicate,List.length_cons,List.length_nil];first|done|omega));apply rfl)|(apply T.box;apply rfl;apply rfl;intro nb)|(with_reducible first|refine Sr.nil ?_|refine S.seq ?_|refine S.reg ?_|refine S.skip ?_)|(apply S.condFV;apply rfl;(first|with_reducible rfl|decide))|(apply T.retW;apply rfl)|(with_reducible apply T.ofRet)|(apply SA.qn;(iterate 4 apply rfl);kernel_rfl)|(apply SA.qsn;(iterate 3 apply rfl);kernel_rfl;(first|exact fun _ h=>h|exact fun _ h=>St.psub h (by ((repeat (first|dsimp only [List.set_cons_zero]|dsimp only [List.set_cons_succ]));repeat' first|exact PSub.refl _|exact PSub.nil|(with_reducible apply PSub.app)|(apply PSub.take;(repeat' first|(with_reducible exact Z0)|(with_reducible apply Z1)))|(with_reducible apply PSub.drop)|((apply PSub.take);(repeat' first|exact Z0|(apply Z1)))))))|(apply SA.en;apply rfl;apply rfl;kernel_rfl)|(apply SA.done;apply rfl;kernel_rfl)|(apply SK.intro;(first|exact fun _ h=>h|exact fun _ h=>St.psub h (by ((repeat (first|dsimp only [List.set_cons_zero]|dsimp only [List.set_cons_succ]));repeat' first|exact PSub.refl _|exact PSub.nil|(with_reducible apply PSub.app)|(apply PSub.take;(repeat' first|(with_reducible exact Z0)|(with_reducible apply Z1)))|(with_reducible apply PSub.drop)|((apply PSub.take);(repeat' first|exact Z0|(apply Z1)))))))|fail)
   exact ⟨_,PSub.drop (PSub.drop (PSub.refl _)),rfl,.inr ⟨rfl,_,rfl⟩⟩
  ·rw [if_neg ht]
   (apply S.draw;(case Hs=>exact .blk pb (poV P (.slice q1 n1 c1) (.slice q2 n2 c2)) 24::H);(case es=>exact  [1,3]);(case n=>exact  5);(case hn=>rfl))
   repeat' (first|(apply T.call;apply rfl;apply rfl;with_reducible exact m1 _;rintro _ _ ⟨rb,rfl,rfl⟩)|(apply T.sneq;(iterate 3 apply rfl);rw [decide_eq_true ht])|((first|apply T.mv|apply T.asn);apply rfl;apply rfl)|(apply T.buildL;(iterate 3 apply rfl))|(apply T.loadW;apply rfl;apply rfl;infer_instance;(first|rfl|(simp only [List.length_append,List.length_map,List.length_set,List.length_replicate,List.length_cons,List.length_nil];first|done|omega));apply rfl)|(apply T.box;apply rfl;apply rfl;intro nb)|(with_reducible first|refine Sr.nil ?_|refine S.seq ?_|refine S.reg ?_)|(apply S.condTV;apply rfl;(first|with_reducible rfl|decide))|(with_reducible apply T.ofRet)|(apply SA.qn;(iterate 4 apply rfl);kernel_rfl)|(apply SA.qsn;(iterate 3 apply rfl);kernel_rfl;(first|exact fun _ h=>h|exact fun _ h=>St.psub h (by ((repeat (first|dsimp only [List.set_cons_zero]|dsimp only [List.set_cons_succ]));repeat' first|exact PSub.refl _|exact PSub.nil|(with_reducible apply PSub.app)|(apply PSub.take;(repeat' first|(with_reducible exact Z0)|(with_reducible apply Z1)))|(with_reducible apply PSub.drop)|((apply PSub.take);(repeat' first|exact Z0|(apply Z1)))))))|(apply SA.en;apply rfl;apply rfl;kernel_rfl)|(apply SA.done;apply rfl;kernel_rfl)|(apply SK.intro;(first|exact fun _ h=>h|exact fun _ h=>St.psub h (by ((repeat (first|dsimp only [List.set_cons_zero]|dsimp only [List.set_cons_succ]));repeat' first|exact PSub.refl _|exact PSub.nil|(with_reducible apply PSub.app)|(apply PSub.take;(repeat' first|(with_reducible exact Z0)|(with_reducible apply Z1)))|(with_reducible apply PSub.drop)|((apply PSub.take);(repeat' first|exact Z0|(apply Z1)))))))|fail)
   refine T.call rfl rfl (Z3G (t:=t)) ?_
   rintro _ _ ⟨ra,rn,rc,b,rfl,rfl⟩
   by_cases hc:Z4p t=0
   ·rw [hc]
    repeat' (first|((first|apply T.mv|apply T.asn|apply T.nilCheck|apply T.fieldAddrZ);apply rfl;apply rfl)|((first|apply T.neq|apply T.extract);(iterate 3 apply rfl))|(apply T.store;apply rfl;apply rfl;infer_instance;(first|decide|(simp;omega)|simp);apply rfl)|(with_reducible first|refine Sr.nil ?_|refine S.seq ?_|refine S.reg ?_|refine S.skip ?_)|(apply S.condFV;apply rfl;(first|with_reducible rfl|decide))|(apply T.retW;apply rfl)|(with_reducible apply T.ofRet)|fail)
    exact ⟨_,PSub.drop (PSub.drop (PSub.refl _)),rfl,.inr ⟨rfl,_,rfl⟩⟩
   ·repeat' (first|((first|apply T.mv|apply T.asn);apply rfl;apply rfl)|((first|apply T.neq|apply T.extract);(iterate 3 apply rfl))|(with_reducible first|refine Sr.nil ?_|refine S.seq ?_|refine S.reg ?_)|(apply S.condQ;apply rfl;all_goals (intro _;try (exfalso;first|omega|with_reducible contradiction)))|(apply T.retW;apply rfl)|(with_reducible apply T.ofRet)|fail)
    exact ⟨_,PSub.drop (PSub.drop (PSub.refl _)),rfl,.inl ⟨hc,rfl⟩⟩
theorem Z3W {g b mb:Nat} {s1 s2 r ri:Value}:Meets Tryz.prog 5 [.pointer (some ⟨g,0,none⟩)] F M (gaR g P 0 s1 s2 r ri b mb H) (fun e H'=>e=.returned (.int .i64 0)):=by
 refine Meets.enter Tryz.func5 rfl rfl ?_
 repeat' (first|((first|apply T.mv|apply T.asn|apply T.nilCheck|apply T.fieldAddrZ);apply rfl;apply rfl)|(with_reducible first|refine Sr.nil ?_|refine S.seq ?_|refine S.reg ?_)|fail)
 refine T.call rfl rfl (Z6B rfl) ?_
 rintro _ _ ⟨rfl,rfl⟩
 dsimp only [List.set_cons_zero]
 repeat' (first|(apply S.defer4;(iterate 4 apply rfl))|((first|apply T.mv|apply T.nilCheck|apply T.fieldAddrZ);apply rfl;apply rfl)|(apply T.load;apply rfl;apply rfl;infer_instance;apply rfl;apply rfl)|(with_reducible first|refine Sr.nil ?_|refine S.seq ?_|refine S.reg ?_)|(with_reducible apply T.ofRet)|fail)
 refine Sr.front mb ?_
 refine Sr.front b ?_
 refine T.call rfl rfl Z48 ?_
 rintro _ _ ⟨rfl,rfl⟩
 repeat' (first|(apply T.asn;apply rfl;apply rfl)|with_reducible refine Sr.nil ?_|(with_reducible apply T.ofRet)|fail)
 refine S.front g ?_
 refine T.retDr (rs:=[.tmp 2]) rfl rfl rfl (Z4f rfl).r ?_
 rintro _ _ ⟨rfl,rfl⟩
 exact ⟨⟨_,rfl⟩,_,.tmp rfl .nil,_,fun _ h=>h,rfl⟩
end
end Go.Proofs.YthomgjihagigcaaGreatDoor
