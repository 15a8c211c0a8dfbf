/- Texts put together by a program: GtI GtJ GtK. -/
import Derived.Test.YthomgjihagigcaaGreatDoorMl
import Derived.Test.YthomgjihagigcaaGreatDoorMh
import Derived.Test.YthomgjihagigcaaGreatDoorMk
/- The walks of the document's reader of rules: parts of a path. -/
/- guards -/
namespace Sg
theorem Z8w {t:List UInt8} {p e j:Nat} (he:e≤t.length) (h:j < (sl t p e).length):(sl t p e).getD j 0=t.getD (p+j) 0:=by
 rw [ZO he] at h
 unfold sl
 simp only [List.getD_eq_getElem?_getD,List.getElem?_take,List.getElem?_drop]
 rw [if_pos h]
theorem Z7U {t:List UInt8} {p e j:Nat} (h:p+j≤e):(sl t p e).take j=sl t p (p+j):=by
 unfold sl
 rw [List.take_take]
 congr 1
 omega
theorem Z8c {t:List UInt8} {q:Nat} (h:t.length≤q∨wdB (t.getD q 0)=false):Z3 t q=q:=by
 by_cases h1:t.length≤q
 ·exact Z0r h1
 ·have h2:=h.resolve_left h1
  unfold wdB at h2
  simp only [Bool.or_eq_false_iff] at h2
  exact Z1k (by omega) h2.2
end Sg
namespace Go.Proofs.YthomgjihagigcaaGreatDoor
open Sg Go.IntWalk
set_option maxRecDepth 100000
set_option maxHeartbeats 4000000
section
variable {F:World} {M:List Nat} {H:List Res} {t s:List UInt8} {p oc n:Nat} {a:Nat} {o er bd:Int} {oa:Option Addr} {k:Nat} {c:UInt8}
def GrE (p:Nat) (t:List UInt8) (oa:Option Addr) (n oc:Nat) (o:Int) (H:List Res) (K:Value→Prop):Rz→Ending→List Res→Prop
 | .to r=>fun e H'=>∃ v,K v∧e=.returned v∧H'=rdR p t r oa n oc o 0 0 H
 | .no c=>fun e H'=>∃ (v:Value) (a b:Nat),K v∧a≤t.length∧e=.returned v∧H'=rdR p t a oa n oc o c b H
abbrev IsS (v:Value):Prop:=∃ s:List UInt8,v=sV s
abbrev IsL (v:Value):Prop:=∃ (a:Option Addr) (n c:Nat),v=.slice a n c
abbrev IsP (v:Value):Prop:=∃ (z:Int) (s:List UInt8),v=.tuple ⟨[.int .i64 z,sV s]⟩
theorem Z2F (hq:a < t.length) (hl:t.length≤1024) :
  Meets Tryz.prog 86 [.pointer (some ⟨p,0,none⟩)] F M (rdR p t a oa n oc o 0 0 H) (GrE p t oa n oc o H IsS (Z1M t a)):=by
 refine Meets.enter Tryz.func86 rfl rfl ?_
 unfold Z1M
 generalize hQ:strE t (a+1)=Q
 repeat' (first|((first|apply T.mv|apply T.asn|apply T.nilCheck|apply T.fieldAddrZ);apply rfl;apply rfl)|(apply T.load;apply rfl;apply rfl;infer_instance;apply rfl;apply rfl)|(apply T.addI;apply rfl;apply rfl;omega;apply rfl)|(with_reducible first|refine Sr.nil ?_|refine S.seq ?_|refine S.block ?_|refine S.reg ?_)|fail)
 refine S.loopE 1 [0] (fun R b' μ H' e=>∃ q:Nat,H'=rdR p t a oa n oc o 0 0 R∧e=(3,.int .i64 q)::b'∧(a < q∧q≤t.length+1∧strE t q=Q)∧μ=t.length+1 - q) rfl rfl ?_ _ _ ⟨a+1,rfl,rfl,⟨by omega,by omega,hQ⟩,rfl⟩ (by repeat' first|exact trivial|refine And.intro rfl ?_)
 rintro _ _ _ ⟨q,rfl,rfl,⟨h0,h1,h2⟩,rfl⟩ ih
 by_cases h3:q < t.length
 ·have hu:=(t.getD q 0).toNat_lt
  by_cases h4:(t.getD q 0).toNat=92
  ·have h5:strE t (q+1+1)=Q:=(Z4h h3 (u8_nat.2 h4)).symm.trans h2
   repeat' (first|((first|apply T.slen|apply T.mv|apply T.asn|apply T.nilCheck|apply T.fieldAddrZ);apply rfl;apply rfl)|(apply T.sidx;apply rfl;apply rfl;omega;apply rfl)|(apply T.load;apply rfl;apply rfl;infer_instance;apply rfl;apply rfl)|((first|apply T.lss|apply T.eql|apply T.neq);(iterate 3 apply rfl))|(apply T.addI;apply rfl;apply rfl;omega;apply rfl)|(apply T.pickT;(iterate 3 apply rfl))|(with_reducible first|refine Sr.nil ?_|refine S.seq ?_|refine S.block ?_|refine S.reg ?_|refine S.skip ?_|refine S.inBlock ?_)|(apply T.ungV;apply rfl;(first|with_reducible rfl|decide))|(apply S.condQ;apply rfl;all_goals (intro _;try (exfalso;first|omega|with_reducible contradiction)))|(apply T.gcase;apply rfl;apply rfl;all_goals (intro _;try (exfalso;first|omega|with_reducible contradiction)))|fail)
   exact ih _ _ _ _ ⟨q+1+1,rfl,rfl,⟨by omega,by omega,h5⟩,rfl⟩ (by omega) (by repeat' first|exact trivial|refine And.intro rfl ?_)
  ·by_cases h5:(t.getD q 0).toNat=34
   ·have h6:some q=Q:=(Z4g h3 (u8_nat.2 h5)).symm.trans h2
    subst h6
    clear ih
    have n1:=Z3d (F:=F) (M:=M) (H:=rdR p t a oa n oc o 0 0 H) (t:=sl t a (q+1))
    dsimp only
    cases hp:ZM Z9 (sl t a (q+1)) with
    | bad c b =>
     rw [hp] at n1
     have hc:=Z2N hp
     repeat' (first|((first|apply T.slen|apply T.mv|apply T.nilCheck|apply T.fieldAddrZ);apply rfl;apply rfl)|(apply T.sidx;apply rfl;apply rfl;omega;apply rfl)|(apply T.load;apply rfl;apply rfl;infer_instance;apply rfl;apply rfl)|((first|apply T.lss|apply T.geq|apply T.neq);(iterate 3 apply rfl))|(apply T.pickT;(iterate 3 apply rfl))|(with_reducible first|refine Sr.nil ?_|refine S.seq ?_|refine S.reg ?_|refine S.skip ?_)|(apply S.exit;apply rfl)|(apply T.ungV;apply rfl;(first|with_reducible rfl|decide))|(apply S.condQ;apply rfl;all_goals (intro _;try (exfalso;first|omega|with_reducible contradiction)))|(apply T.gcase;apply rfl;apply rfl;all_goals (intro _;try (exfalso;first|omega|with_reducible contradiction)))|fail)
     (apply S.draw;(case Hs=>exact rdR p t a oa n oc o 0 0 H);(case es=>exact  [11]);(case n=>exact  19);(case hn=>rfl))
     repeat' (first|(apply Sr.same;refine T.sslice (i:=a) (j:=q+1) rfl rfl rfl ⟨by omega,by omega⟩ rfl ?_)|(apply T.call;apply rfl;apply rfl;exact n1;rintro _ _ ⟨rfl,rfl⟩)|((first|apply T.mv|apply T.asn|apply T.nilCheck|apply T.fieldAddrZ);apply rfl;apply rfl)|(apply T.load;apply rfl;apply rfl;infer_instance;apply rfl;apply rfl)|((first|apply T.neq|apply T.extract);(iterate 3 apply rfl))|(apply T.addI;apply rfl;apply rfl;omega;apply rfl)|(with_reducible first|refine Sr.nil ?_|refine S.seq ?_|refine S.reg ?_)|(apply S.condQ;apply rfl;all_goals (intro _;try (exfalso;first|omega|with_reducible contradiction)))|(with_reducible apply T.ofRet)|(apply SA.qn;(iterate 4 apply rfl);kernel_rfl)|(apply SA.en;apply rfl;apply rfl;kernel_rfl)|(apply SA.done;apply rfl;kernel_rfl)|(apply SK.intro;(first|exact fun _ h=>h|exact fun _ h=>St.psub h (by ((repeat (first|dsimp only [List.set_cons_zero]|dsimp only [List.set_cons_succ]));repeat' first|exact PSub.refl _|exact PSub.nil|(with_reducible apply PSub.app)|(apply PSub.take;(repeat' first|(with_reducible exact Z0)|(with_reducible apply Z1)))|(with_reducible apply PSub.drop)|((apply PSub.take);(repeat' first|exact Z0|(apply Z1)))))))|fail)
     skip
     refine T.call rfl rfl Z8 ?_
     rintro _ _ ⟨rfl,rfl⟩
     repeat' (first|(apply T.asn;apply rfl;apply rfl)|(with_reducible first|refine Sr.nil ?_|refine S.seq ?_|refine S.reg ?_)|(apply T.retW;apply rfl)|(with_reducible apply T.ofRet)|fail)
     exact ⟨_,PSub.refl _,_,a,a,⟨[],rfl⟩,by omega,rfl,rfl⟩
    | ok b l =>
     rw [hp] at n1
     obtain ⟨x,r,rfl⟩:=Z3M hp
     have hlen:=(Z54 hp).1
     have hpos:0 < (x::r).length:=by simp
     repeat' (first|((first|apply T.slen|apply T.mv|apply T.nilCheck|apply T.fieldAddrZ);apply rfl;apply rfl)|(apply T.sidx;apply rfl;apply rfl;omega;apply rfl)|(apply T.load;apply rfl;apply rfl;infer_instance;apply rfl;apply rfl)|((first|apply T.lss|apply T.geq|apply T.neq);(iterate 3 apply rfl))|(apply T.pickT;(iterate 3 apply rfl))|(with_reducible first|refine Sr.nil ?_|refine S.seq ?_|refine S.reg ?_|refine S.skip ?_)|(apply S.exit;apply rfl)|(apply T.ungV;apply rfl;(first|with_reducible rfl|decide))|(apply S.condQ;apply rfl;all_goals (intro _;try (exfalso;first|omega|with_reducible contradiction)))|(apply T.gcase;apply rfl;apply rfl;all_goals (intro _;try (exfalso;first|omega|with_reducible contradiction)))|fail)
     (apply S.draw;(case Hs=>exact rdR p t a oa n oc o 0 0 H);(case es=>exact  [11]);(case n=>exact  19);(case hn=>rfl))
     repeat' (first|(apply Sr.same;refine T.sslice (i:=a) (j:=q+1) rfl rfl rfl ⟨by omega,by omega⟩ rfl ?_)|(apply T.call;apply rfl;apply rfl;exact n1;rintro _ _ ⟨va,vc,rfl,rfl⟩)|((first|apply T.mv|apply T.asn|apply T.nilCheck);apply rfl;apply rfl)|(apply T.fieldAddrZ;apply rfl;apply rfl)|(apply T.load;apply rfl;apply rfl;infer_instance;apply rfl;apply rfl)|((first|apply T.neq|apply T.extract);(iterate 3 apply rfl))|(apply T.addI;apply rfl;apply rfl;omega;apply rfl)|(apply T.ixF;apply rfl;apply rfl;infer_instance;exact (fun _=>rfl);apply rfl;omega;omega;apply rfl)|(apply T.fieldAddrF;apply rfl;infer_instance;exact (fun _=>rfl);apply rfl;omega;apply rfl)|(apply T.loadF;apply rfl;apply rfl;infer_instance;exact (fun _=>rfl);apply rfl;exact Zq (by omega);apply rfl;apply rfl)|(apply T.store;apply rfl;apply rfl;infer_instance;(first|decide|(simp;omega)|simp);apply rfl)|(with_reducible first|refine Sr.nil ?_|refine S.seq ?_|refine S.reg ?_|refine S.skip ?_)|(apply S.condFV;apply rfl;(first|with_reducible rfl|decide))|(apply T.retW;apply rfl)|(with_reducible apply T.ofRet)|(apply SA.qn;(iterate 4 apply rfl);kernel_rfl)|(apply SA.en;apply rfl;apply rfl;kernel_rfl)|(apply SA.done;apply rfl;kernel_rfl)|(apply SK.intro;(first|exact fun _ h=>h|exact fun _ h=>St.psub h (by ((repeat (first|dsimp only [List.set_cons_zero]|dsimp only [List.set_cons_succ]));repeat' first|exact PSub.refl _|exact PSub.nil|(with_reducible apply PSub.app)|(apply PSub.take;(repeat' first|(with_reducible exact Z0)|(with_reducible apply Z1)))|(with_reducible apply PSub.drop)|((apply PSub.take);(repeat' first|exact Z0|(apply Z1)))))))|fail)
     skip
     exact ⟨_,PSub.drop (PSub.refl _),_,⟨_,rfl⟩,rfl,rfl⟩
   ·have h6:strE t (q+1)=Q:=(Z68 h3 (fun h=>h4 (u8_nat.1 h)) (fun h=>h5 (u8_nat.1 h))).symm.trans h2
    repeat' (first|((first|apply T.slen|apply T.mv|apply T.asn|apply T.nilCheck|apply T.fieldAddrZ);apply rfl;apply rfl)|(apply T.sidx;apply rfl;apply rfl;omega;apply rfl)|(apply T.load;apply rfl;apply rfl;infer_instance;apply rfl;apply rfl)|((first|apply T.lss|apply T.eql|apply T.neq);(iterate 3 apply rfl))|(apply T.addI;apply rfl;apply rfl;omega;apply rfl)|(apply T.pickT;(iterate 3 apply rfl))|(with_reducible first|refine Sr.nil ?_|refine S.seq ?_|refine S.block ?_|refine S.reg ?_|refine S.skip ?_|refine S.inBlock ?_)|(apply T.ungV;apply rfl;(first|with_reducible rfl|decide))|(apply S.condQ;apply rfl;all_goals (intro _;try (exfalso;first|omega|with_reducible contradiction)))|(apply T.gcase;apply rfl;apply rfl;all_goals (intro _;try (exfalso;first|omega|with_reducible contradiction)))|fail)
    exact ih _ _ _ _ ⟨q+1,rfl,rfl,⟨by omega,by omega,h6⟩,rfl⟩ (by omega) (by repeat' first|exact trivial|refine And.intro rfl ?_)
 ·have h4:none=Q:=(Z36 (by omega)).symm.trans h2
  subst h4
  clear ih
  repeat' (first|((first|apply T.slen|apply T.mv|apply T.nilCheck|apply T.fieldAddrZ);apply rfl;apply rfl)|(apply T.load;apply rfl;apply rfl;infer_instance;apply rfl;apply rfl)|((first|apply T.lss|apply T.geq);(iterate 3 apply rfl))|(apply T.pickF;(iterate 3 apply rfl))|(with_reducible first|refine Sr.nil ?_|refine S.seq ?_|refine S.reg ?_)|(apply S.exit;apply rfl)|(apply T.skip;apply rfl;(first|with_reducible rfl|decide);apply rfl)|(apply S.condFV;apply rfl;(first|with_reducible rfl|decide))|(apply S.condQ;apply rfl;all_goals (intro _;try (exfalso;first|omega|with_reducible contradiction)))|(apply T.gcase;apply rfl;apply rfl;all_goals (intro _;try (exfalso;first|omega|with_reducible contradiction)))|fail)
  refine T.call rfl rfl Z8 ?_
  rintro _ _ ⟨rfl,rfl⟩
  repeat' (first|(apply T.asn;apply rfl;apply rfl)|(with_reducible first|refine Sr.nil ?_|refine S.seq ?_|refine S.reg ?_)|(apply T.retW;apply rfl)|(with_reducible apply T.ofRet)|fail)
  exact ⟨_,PSub.refl _,_,a,a,⟨[],rfl⟩,by omega,rfl,rfl⟩
theorem Z2s:Meets Tryz.prog 98 [sV s] F M H (fun e H'=>e=.returned (.bool (decide (s∈kwL)))∧H'=H):=by
 refine Meets.enter Tryz.func98 rfl rfl ?_
 by_cases h:s∈kwL
 ·rw [decide_eq_true h]
  simp only [kwL,List.mem_cons,List.not_mem_nil,or_false,kAnd,kOr,kNot,kHas,kCon,kTrue,kFalse,kNull] at h
  rcases h with rfl|rfl|rfl|rfl|rfl|rfl|rfl|rfl
  all_goals
   repeat' (first|(apply T.seql;(iterate 3 apply rfl))|((first|apply T.mv|apply T.asn);apply rfl;apply rfl)|(with_reducible first|refine Sr.nil ?_|refine S.seq ?_|refine S.block ?_|refine S.reg ?_|refine S.skip ?_)|(apply S.condTV;apply rfl;(first|with_reducible rfl|decide))|(apply S.condFV;apply rfl;(first|with_reducible rfl|decide))|(apply T.retW;apply rfl)|fail)
   exact ⟨_,PSub.refl _,rfl,rfl⟩
 ·rw [decide_eq_false h]
  simp only [kwL,List.mem_cons,List.not_mem_nil,or_false,kAnd,kOr,kNot,kHas,kCon,kTrue,kFalse,kNull,not_or] at h
  obtain ⟨h1,h2,h3,h4,h5,h6,h7,h8⟩:=h
  repeat' (first|(apply T.seql;(iterate 3 apply rfl))|((first|apply T.mv|apply T.asn);apply rfl;apply rfl)|(with_reducible first|refine Sr.nil ?_|refine S.seq ?_|refine S.block ?_|refine S.reg ?_|refine S.skip ?_|refine S.inBlock ?_)|(apply S.condQ;apply rfl;all_goals (intro _;try (exfalso;first|omega|with_reducible contradiction)))|(apply T.retW;apply rfl)|fail)
  exact ⟨_,PSub.refl _,rfl,rfl⟩
theorem Z4v (h0:s≠[]) (h1:letB (s.getD 0 0)=true) (h2:∀ j,j < s.length→wdB (s.getD j 0)=true) (hl:s.length≤1024) :
  Meets Tryz.prog 88 [sV s] F M H (fun e H'=>e=.returned (.bool (nmB s))∧H'=H):=by
 refine Meets.enter Tryz.func88 rfl rfl ?_
 have hp:0 < s.length:=List.length_pos_iff.2 h0
 repeat' (first|((first|apply T.slen|apply T.mv|apply T.asn);apply rfl;apply rfl)|(apply T.sidx;apply rfl;apply rfl;omega;apply rfl)|(apply T.eql;(iterate 3 apply rfl))|(with_reducible first|refine Sr.nil ?_|refine S.seq ?_|refine S.reg ?_)|(apply T.ungV;apply rfl;(first|with_reducible rfl|decide))|(apply T.gcase;apply rfl;apply rfl;all_goals (intro _;try (exfalso;first|omega|with_reducible contradiction)))|fail)
 refine T.call rfl rfl (Z0E (c:=s.getD 0 0)) ?_
 rintro _ _ ⟨rfl,rfl⟩
 rw [h1]
 repeat' (first|(apply T.mv;apply rfl;apply rfl)|(apply T.notB;apply rfl;apply rfl)|(apply T.pickF;(iterate 3 apply rfl))|(apply T.ungV;apply rfl;(first|with_reducible rfl|decide))|(with_reducible apply T.ofRet)|fail)
 refine T.call rfl rfl (Z2s (s:=s)) ?_
 rintro _ _ ⟨rfl,rfl⟩
 by_cases h3:s∈kwL
 ·rw [decide_eq_true h3,show nmB s=false from decide_eq_false (fun h=>h h3)]
  repeat' (first|(apply T.asn;apply rfl;apply rfl)|(apply T.pickF;(iterate 3 apply rfl))|(with_reducible first|refine Sr.nil ?_|refine S.seq ?_|refine S.reg ?_)|(apply S.condTV;apply rfl;(first|with_reducible rfl|decide))|(apply T.retW;apply rfl)|(with_reducible apply T.ofRet)|fail)
  exact ⟨_,PSub.refl _,rfl,rfl⟩
 ·rw [decide_eq_false h3,show nmB s=true from decide_eq_true h3]
  repeat' (first|(apply T.asn;apply rfl;apply rfl)|(apply T.pickF;(iterate 3 apply rfl))|(with_reducible first|refine Sr.nil ?_|refine S.seq ?_|refine S.block ?_|refine S.reg ?_|refine S.skip ?_)|(apply S.condFV;apply rfl;(first|with_reducible rfl|decide))|(with_reducible apply T.ofRet)|fail)
  refine S.loopE 0 [0] (fun R b' μ H' e=>∃ i:Nat,H'=R∧e=(3,.int .i64 i)::b'∧i≤s.length∧μ=s.length - i) rfl rfl ?_ _ _ ⟨0,rfl,rfl,Nat.zero_le _,rfl⟩ (by repeat' first|exact trivial|refine And.intro rfl ?_)
  rintro _ _ _ ⟨i,rfl,rfl,h4,rfl⟩ ih
  by_cases h5:i < s.length
  ·have h6:=h2 i h5
   unfold wdB at h6
   repeat' (first|((first|apply T.slen|apply T.mv);apply rfl;apply rfl)|(apply T.sidx;apply rfl;apply rfl;omega;apply rfl)|(apply T.lss;(iterate 3 apply rfl))|(with_reducible first|refine Sr.nil ?_|refine S.seq ?_|refine S.block ?_|refine S.reg ?_|refine S.skip ?_)|(apply S.condQ;apply rfl;all_goals (intro _;try (exfalso;first|omega|with_reducible contradiction)))|fail)
   refine T.call rfl rfl (Z0E (c:=s.getD i 0)) ?_
   rintro _ _ ⟨rfl,rfl⟩
   cases h7:letB (s.getD i 0) with
   | true =>
    repeat' (first|((first|apply T.mv|apply T.asn);apply rfl;apply rfl)|(apply T.addI;apply rfl;apply rfl;omega;apply rfl)|(apply T.notB;apply rfl;apply rfl)|(apply T.pickF;(iterate 3 apply rfl))|(with_reducible first|refine Sr.nil ?_|refine S.reg ?_|refine S.skip ?_|refine S.inBlock ?_)|(apply T.skip;apply rfl;(first|with_reducible rfl|decide);apply rfl)|(apply S.condFV;apply rfl;(first|with_reducible rfl|decide))|(with_reducible apply T.ofRet)|fail)
    exact ih _ _ _ _ ⟨i+1,rfl,rfl,h5,rfl⟩ (by omega) (by repeat' first|exact trivial|refine And.intro rfl ?_)
   | false =>
    rw [h7,Bool.false_or] at h6
    repeat' (first|(apply T.sidx;apply rfl;apply rfl;omega;apply rfl)|(apply T.mv;apply rfl;apply rfl)|(apply T.notB;apply rfl;apply rfl)|(apply T.ungV;apply rfl;(first|with_reducible rfl|decide))|(with_reducible apply T.ofRet)|fail)
    refine T.call rfl rfl (Zm (c:=s.getD i 0)) ?_
    rintro _ _ ⟨rfl,rfl⟩
    rw [h6]
    repeat' (first|((first|apply T.mv|apply T.asn);apply rfl;apply rfl)|(apply T.addI;apply rfl;apply rfl;omega;apply rfl)|(apply T.notB;apply rfl;apply rfl)|(apply T.pickT;(iterate 3 apply rfl))|(with_reducible first|refine Sr.nil ?_|refine S.reg ?_|refine S.skip ?_|refine S.inBlock ?_)|(apply T.ungV;apply rfl;(first|with_reducible rfl|decide))|(apply S.condFV;apply rfl;(first|with_reducible rfl|decide))|(with_reducible apply T.ofRet)|fail)
    exact ih _ _ _ _ ⟨i+1,rfl,rfl,h5,rfl⟩ (by omega) (by repeat' first|exact trivial|refine And.intro rfl ?_)
  ·clear ih
   repeat' (first|((first|apply T.slen|apply T.mv|apply T.asn);apply rfl;apply rfl)|(apply T.lss;(iterate 3 apply rfl))|(with_reducible first|refine Sr.nil ?_|refine S.seq ?_|refine S.reg ?_)|(apply S.exit;apply rfl)|(apply S.condQ;apply rfl;all_goals (intro _;try (exfalso;first|omega|with_reducible contradiction)))|(apply T.retW;apply rfl)|fail)
   exact ⟨_,PSub.refl _,rfl,rfl⟩
theorem Z3L:Meets Tryz.prog 88 [sV []] F M H (fun e H'=>e=.returned (.bool false)∧H'=H):=by
 refine Meets.enter Tryz.func88 rfl rfl ?_
 repeat' (first|((first|apply T.slen|apply T.mv|apply T.asn);apply rfl;apply rfl)|(apply T.eql;(iterate 3 apply rfl))|(apply T.pickT;(iterate 3 apply rfl))|(with_reducible first|refine Sr.nil ?_|refine S.seq ?_|refine S.reg ?_)|(apply T.skip;apply rfl;(first|with_reducible rfl|decide);apply rfl)|(apply S.condTV;apply rfl;(first|with_reducible rfl|decide))|(apply T.retW;apply rfl)|fail)
 exact ⟨_,PSub.refl _,rfl,rfl⟩
theorem Z4u (h2:∀ j,j < s.length→Za (s.getD j 0)=true) (hl:s.length≤1024) :
  Meets Tryz.prog 87 [sV s] F M H (fun e H'=>∃ z:Int,e=.returned (.tuple ⟨[.int .i64 z,.bool (plB s)]⟩)∧H'=H):=by
 refine Meets.enter Tryz.func87 rfl rfl ?_
 have h48:s.getD 0 0=48↔(s.getD 0 0).toNat=48:=u8_nat
 have hls:s=[]↔s.length=0:=List.length_eq_zero_iff.symm
 have hone:s=[48]↔s.length=1∧(s.getD 0 0).toNat=48:=by
  rw [←h48]
  constructor
  ·rintro rfl;exact ⟨rfl,rfl⟩
  ·rintro ⟨h,h'⟩
   obtain ⟨x,rfl⟩:=List.length_eq_one_iff.1 h
   simpa using h'
 by_cases hbad:s.length=0∨1 < s.length∧(s.getD 0 0).toNat=48
 ·have hz:plB s=false:=decide_eq_false (fun h=>by rw [hone,ne_eq,hls,ne_eq,h48] at h;omega)
  rw [hz]
  by_cases h0:s.length=0
  ·repeat' (first|((first|apply T.slen|apply T.mv|apply T.asn);apply rfl;apply rfl)|(apply T.eql;(iterate 3 apply rfl))|(apply T.pickT;(iterate 3 apply rfl))|(with_reducible first|refine Sr.nil ?_|refine S.seq ?_|refine S.reg ?_)|(apply T.skip;apply rfl;(first|with_reducible rfl|decide);apply rfl)|(apply T.skipU;apply rfl;apply rfl)|(apply S.condTV;apply rfl;(first|with_reducible rfl|decide))|(apply T.gcase;apply rfl;apply rfl;all_goals (intro _;try (exfalso;first|omega|with_reducible contradiction)))|(apply T.retW;apply rfl)|fail)
   exact ⟨_,PSub.refl _,0,rfl,rfl⟩
  ·have hp:0 < s.length:=by omega
   have hb:=hbad.resolve_left h0
   clear hbad hone hls h48 hz
   repeat' (first|(apply Sr.same;refine T.sidx (i:=0) rfl rfl (by omega) rfl ?_)|((first|apply T.slen|apply T.mv|apply T.asn);apply rfl;apply rfl)|((first|apply T.gtr|apply T.eql);(iterate 3 apply rfl))|(apply T.pickT;(iterate 3 apply rfl))|(apply T.pickF;(iterate 3 apply rfl))|(with_reducible first|refine Sr.nil ?_|refine S.seq ?_|refine S.reg ?_)|(apply T.ungV;apply rfl;(first|with_reducible rfl|decide))|(apply S.condQ;apply rfl;all_goals (intro _;try (exfalso;first|omega|with_reducible contradiction)))|(apply T.gcase;apply rfl;apply rfl;all_goals (intro _;try (exfalso;first|omega|with_reducible contradiction)))|(apply T.retW;apply rfl)|fail)
   exact ⟨_,PSub.refl _,0,rfl,rfl⟩
 ·have hz:plB s=true:=decide_eq_true (by
   rw [hone,ne_eq,hls,ne_eq,h48]
   omega)
  rw [hz]
  have hp:0 < s.length:=by omega
  have hb:1 < s.length→¬(s.getD 0 0).toNat=48:=fun h1 h2=>hbad (.inr ⟨h1,h2⟩)
  clear hbad hone hls h48 hz
  have hl1:¬1 < s.length∨1 < s.length∧¬(s.getD 0 0).toNat=48:=(Decidable.em (1 < s.length)).elim (fun h=>.inr ⟨h,hb h⟩) .inl
  clear hb
  rcases hl1 with hl1|hl1
  all_goals
   repeat' (first|(apply Sr.same;refine T.sidx (i:=0) rfl rfl (by omega) rfl ?_)|((first|apply T.slen|apply T.mv|apply T.asn);apply rfl;apply rfl)|((first|apply T.gtr|apply T.eql);(iterate 3 apply rfl))|(apply T.pickT;(iterate 3 apply rfl))|(apply T.pickF;(iterate 3 apply rfl))|(with_reducible first|refine Sr.nil ?_|refine S.seq ?_|refine S.block ?_|refine S.reg ?_|refine S.skip ?_)|(apply T.ungV;apply rfl;(first|with_reducible rfl|decide))|(apply T.skip;apply rfl;(first|with_reducible rfl|decide);apply rfl)|(apply S.condFV;apply rfl;(first|with_reducible rfl|decide))|(apply S.condQ;apply rfl;all_goals (intro _;try (exfalso;first|omega|with_reducible contradiction)))|(apply T.gcase;apply rfl;apply rfl;all_goals (intro _;try (exfalso;first|omega|with_reducible contradiction)))|fail)
   refine S.loopE 0 [0] (fun R b' μ H' e=>∃ (i:Nat) (z:Int),H'=R∧e=(5,.int .i64 i)::(4,.int .i64 z)::b'∧(i≤s.length∧0≤z∧z≤1099511627776)∧μ=s.length - i) rfl rfl ?_ _ _ ⟨0,0,rfl,rfl,⟨Nat.zero_le _,by omega,by omega⟩,rfl⟩ (by repeat' first|exact trivial|refine And.intro rfl ?_)
   rintro _ _ _ ⟨i,z,rfl,rfl,⟨h4,h5,h5'⟩,rfl⟩ ih
   by_cases h6:i < s.length
   ·have h7:=h2 i h6
    have h8:=h7
    rw [Z1t] at h8
    have h9:=of_decide_eq_true h8
    repeat' (first|((first|apply T.slen|apply T.mv);apply rfl;apply rfl)|(apply T.sidx;apply rfl;apply rfl;omega;apply rfl)|(apply T.lss;(iterate 3 apply rfl))|(with_reducible first|refine Sr.nil ?_|refine S.seq ?_|refine S.block ?_|refine S.reg ?_|refine S.skip ?_)|(apply S.condQ;apply rfl;all_goals (intro _;try (exfalso;first|omega|with_reducible contradiction)))|fail)
    refine T.call rfl rfl (Zm (c:=s.getD i 0)) ?_
    rintro _ _ ⟨rfl,rfl⟩
    rw [h7]
    repeat' (first|(apply T.subU8G;apply rfl;apply rfl;omega;apply rfl)|(apply T.sidx;apply rfl;apply rfl;omega;apply rfl)|((first|apply T.mv|apply T.asn);apply rfl;apply rfl)|(apply T.addI;apply rfl;apply rfl;omega;apply rfl)|(apply T.mulI;apply rfl;apply rfl;omega;apply rfl)|(apply T.notB;apply rfl;apply rfl)|(apply T.convI64;apply rfl;omega;apply rfl)|(apply T.min;(iterate 3 apply rfl))|(with_reducible first|refine Sr.nil ?_|refine S.reg ?_|refine S.skip ?_|refine S.inBlock ?_)|(apply S.condFV;apply rfl;(first|with_reducible rfl|decide))|(with_reducible apply T.ofRet)|fail)
    exact ih _ _ _ _ ⟨i+1,if (1099511627776:Int) < 10*z+(((s.getD i 0).toNat:Nat) - 48) then 1099511627776 else 10*z+(((s.getD i 0).toNat:Nat) - 48),rfl,rfl,⟨h6,by split<;>omega,by split<;>omega⟩,rfl⟩ (by omega) (by repeat' first|exact trivial|refine And.intro rfl ?_)
   ·clear ih
    repeat' (first|((first|apply T.slen|apply T.mv|apply T.asn);apply rfl;apply rfl)|(apply T.lss;(iterate 3 apply rfl))|(with_reducible first|refine Sr.nil ?_|refine S.seq ?_|refine S.reg ?_)|(apply S.exit;apply rfl)|(apply S.condQ;apply rfl;all_goals (intro _;try (exfalso;first|omega|with_reducible contradiction)))|(apply T.retW;apply rfl)|fail)
    exact ⟨_,PSub.refl _,_,rfl,rfl⟩
theorem Z2H {first:Bool} (ha:a≤t.length) (hl:t.length≤1024) :
  Meets Tryz.prog 78 [.pointer (some ⟨p,0,none⟩),.bool first] F M (rdR p t a oa n oc o 0 0 H) (GrE p t oa n oc o H IsS (Z1C t first a)):=by
 refine Meets.enter Tryz.func78 rfl rfl ?_
 unfold Z1C
 have hle:=Zj (t:=t) ha
 repeat' (first|((first|apply T.mv|apply T.asn|apply T.nilCheck|apply T.fieldAddrZ);apply rfl;apply rfl)|(apply T.load;apply rfl;apply rfl;infer_instance;apply rfl;apply rfl)|(apply T.neq;(iterate 3 apply rfl))|(with_reducible first|refine Sr.nil ?_|refine S.seq ?_|refine S.reg ?_|refine S.skip ?_)|(apply S.condFV;apply rfl;(first|with_reducible rfl|decide))|fail)
 refine T.call rfl rfl (Zk ha hl) ?_
 rintro _ _ ⟨rfl,rfl⟩
 generalize Z2 t a=q at *
 by_cases h1:q < t.length
 ·rw [if_pos h1,decide_eq_true h1]
  have hu:=(t.getD q 0).toNat_lt
  by_cases h2:t.getD q 0=34
  ·rw [if_pos h2]
   have h34:=u8_nat.1 h2
   have h34':(34:UInt8).toNat=34:=rfl
   rw [h34'] at h34
   have hc:=Z2F (F:=F) (M:=M) (H:=H) (p:=p) (o:=o) (oa:=oa) (n:=n) (oc:=oc) h1 hl
   cases hz:Z1M t q with
   | no c =>
    rw [hz] at hc
    repeat' (first|(apply T.sidx;apply rfl;apply rfl;omega;apply rfl)|((first|apply T.mv|apply T.asn|apply T.nilCheck|apply T.fieldAddrZ);apply rfl;apply rfl)|(apply T.load;apply rfl;apply rfl;infer_instance;apply rfl;apply rfl)|(apply T.eql;(iterate 3 apply rfl))|(apply T.notB;apply rfl;apply rfl)|(with_reducible first|refine Sr.nil ?_|refine S.seq ?_|refine S.reg ?_|refine S.skip ?_)|(apply S.quiet;apply rfl;kernel_rfl)|(apply S.condFV;apply rfl;(first|with_reducible rfl|decide))|(apply S.condQ;apply rfl;all_goals (intro _;try (exfalso;first|omega|with_reducible contradiction)))|(with_reducible apply T.ofRet)|fail)
    refine T.call rfl rfl hc ?_
    rintro _ _ ⟨_,a',b,⟨s,rfl⟩,k1,rfl,rfl⟩
    repeat' (first|(apply T.asn;apply rfl;apply rfl)|with_reducible refine Sr.nil ?_|(apply T.retW;apply rfl)|(with_reducible apply T.ofRet)|fail)
    exact ⟨_,PSub.refl _,_,a',b,⟨_,rfl⟩,k1,rfl,rfl⟩
   | to r =>
    rw [hz] at hc
    repeat' (first|(apply T.sidx;apply rfl;apply rfl;omega;apply rfl)|((first|apply T.mv|apply T.asn|apply T.nilCheck|apply T.fieldAddrZ);apply rfl;apply rfl)|(apply T.load;apply rfl;apply rfl;infer_instance;apply rfl;apply rfl)|(apply T.eql;(iterate 3 apply rfl))|(apply T.notB;apply rfl;apply rfl)|(with_reducible first|refine Sr.nil ?_|refine S.seq ?_|refine S.reg ?_|refine S.skip ?_)|(apply S.quiet;apply rfl;kernel_rfl)|(apply S.condFV;apply rfl;(first|with_reducible rfl|decide))|(apply S.condQ;apply rfl;all_goals (intro _;try (exfalso;first|omega|with_reducible contradiction)))|(with_reducible apply T.ofRet)|fail)
    refine T.call rfl rfl hc ?_
    rintro _ _ ⟨_,⟨s,rfl⟩,rfl,rfl⟩
    repeat' (first|(apply T.asn;apply rfl;apply rfl)|with_reducible refine Sr.nil ?_|(apply T.retW;apply rfl)|(with_reducible apply T.ofRet)|fail)
    exact ⟨_,PSub.refl _,_,⟨_,rfl⟩,rfl,rfl⟩
  ·rw [if_neg h2]
   have h34:¬(t.getD q 0).toNat=34:=fun h=>h2 (u8_nat.2 h)
   have hwl:=Z32 (t:=t) (p:=q) (by omega)
   have hwe:=Z1v (t:=t) (p:=q) (by omega)
   have hwg:=Z4c (t:=t) (p:=q)
   repeat' (first|(apply T.sidx;apply rfl;apply rfl;omega;apply rfl)|((first|apply T.mv|apply T.asn|apply T.nilCheck|apply T.fieldAddrZ);apply rfl;apply rfl)|(apply T.load;apply rfl;apply rfl;infer_instance;apply rfl;apply rfl)|(apply T.eql;(iterate 3 apply rfl))|(apply T.notB;apply rfl;apply rfl)|(with_reducible first|refine Sr.nil ?_|refine S.seq ?_|refine S.reg ?_|refine S.skip ?_)|(apply S.quiet;apply rfl;kernel_rfl)|(apply S.condFV;apply rfl;(first|with_reducible rfl|decide))|(apply S.condQ;apply rfl;all_goals (intro _;try (exfalso;first|omega|with_reducible contradiction)))|(with_reducible apply T.ofRet)|fail)
   refine T.call rfl rfl (ZA hle hl) ?_
   rintro _ _ ⟨rfl,rfl⟩
   repeat' (first|((first|apply T.mv|apply T.asn);apply rfl;apply rfl)|(with_reducible first|refine Sr.nil ?_|refine S.seq ?_|refine S.reg ?_)|(with_reducible apply T.ofRet)|fail)
   refine T.call rfl rfl (Zm (c:=t.getD q 0)) ?_
   rintro _ _ ⟨rfl,rfl⟩
   cases h4:Za (t.getD q 0) with
   | true =>
    have h3:=(Z4N h4).1
    rw [h3,if_neg (by simp),if_pos rfl]
    have hde:=Z3p (t:=t) (p:=q) (by omega)
    have hdg:=Z2W h1 h4
    repeat' (first|(apply T.asn;apply rfl;apply rfl)|(with_reducible first|refine Sr.nil ?_|refine S.seq ?_|refine S.block ?_|refine S.reg ?_)|(apply S.condTV;apply rfl;(first|with_reducible rfl|decide))|(with_reducible apply T.ofRet)|fail)
    refine S.loopE 0 [0,1,7] (fun R b' μ H' e=>∃ i:Nat,H'=R∧e=(8,.int .i64 i)::b'∧(i≤(wdX t q).length∧Z3 t (q+i)=Z3 t q)∧μ=(wdX t q).length - i) rfl rfl ?_ _ _ ⟨0,rfl,rfl,⟨Nat.zero_le _,rfl⟩,rfl⟩ (by repeat' first|exact trivial|refine And.intro rfl ?_)
    rintro _ _ _ ⟨i,rfl,rfl,⟨g1,g2⟩,rfl⟩ ih
    have hwi:i < (wdX t q).length→(wdX t q).getD i 0=t.getD (q+i) 0:=fun h=>Z8w hwe h
    have hfin:Z3 t (q+i)=q+i→∀ z,z=(wdX t q).take i→z=sl t q (Z3 t q):=fun h z hz=>by
     rw [hz,←g2,h]
     exact Z7U (by omega)
    have hdl:(sl t q (Z3 t q)).length=Z3 t q - q:=ZO hde
    have hpl:=Z4u (F:=F) (M:=M) (H:=rdR p t q oa n oc o 0 0 H) (s:=sl t q (Z3 t q)) Z39 (by omega)
    by_cases g3:i < (wdX t q).length
    ·cases g4:Za (t.getD (q+i) 0) with
     | true =>
      have g5:Z3 t (q+(i+1))=Z3 t q:=(Z1l (by omega) g4).symm.trans g2
      repeat' (first|((first|apply T.slen|apply T.mv);apply rfl;apply rfl)|(apply T.sidx;apply rfl;apply rfl;omega;apply rfl)|(apply T.lss;(iterate 3 apply rfl))|(with_reducible first|refine S.seq ?_|refine S.reg ?_)|(apply T.ungV;apply rfl;(first|with_reducible rfl|decide))|(apply T.gcase;apply rfl;apply rfl;all_goals (intro _;try (exfalso;first|omega|with_reducible contradiction)))|fail)
      refine T.call rfl rfl (Zm (c:=(wdX t q).getD i 0)) ?_
      rintro _ _ ⟨rfl,rfl⟩
      rw [hwi g3,g4]
      repeat' (first|((first|apply T.mv|apply T.asn);apply rfl;apply rfl)|(apply T.addI;apply rfl;apply rfl;omega;apply rfl)|(apply T.pickT;(iterate 3 apply rfl))|(with_reducible first|refine Sr.nil ?_|refine S.block ?_|refine S.reg ?_|refine S.skip ?_|refine S.inBlock ?_)|(apply S.condTV;apply rfl;(first|with_reducible rfl|decide))|(with_reducible apply T.ofRet)|fail)
      exact ih _ _ _ _ ⟨i+1,rfl,rfl,⟨g3,g5⟩,rfl⟩ (by omega) (by repeat' first|exact trivial|refine And.intro rfl ?_)
     | false =>
      clear ih
      have g6:=hfin (Z1k (by omega) g4)
      repeat' (first|((first|apply T.slen|apply T.mv);apply rfl;apply rfl)|(apply T.sidx;apply rfl;apply rfl;omega;apply rfl)|(apply T.lss;(iterate 3 apply rfl))|(with_reducible first|refine S.seq ?_|refine S.reg ?_)|(apply T.ungV;apply rfl;(first|with_reducible rfl|decide))|(apply T.gcase;apply rfl;apply rfl;all_goals (intro _;try (exfalso;first|omega|with_reducible contradiction)))|fail)
      refine T.call rfl rfl (Zm (c:=(wdX t q).getD i 0)) ?_
      rintro _ _ ⟨rfl,rfl⟩
      rw [hwi g3,g4]
      repeat' (first|(apply T.ssliceH;apply rfl;apply rfl;omega;apply rfl;rw [g6 _ rfl])|((first|apply T.mv|apply T.asn);apply rfl;apply rfl)|(apply T.pickT;(iterate 3 apply rfl))|(with_reducible first|refine Sr.nil ?_|refine S.seq ?_|refine S.reg ?_)|(apply S.exit;apply rfl)|(apply S.condFV;apply rfl;(first|with_reducible rfl|decide))|(with_reducible apply T.ofRet)|fail)
      refine T.call rfl rfl hpl ?_
      rintro _ _ ⟨z,rfl,rfl⟩
      cases first with
      | true =>
       rw [if_pos (show (true || !plB (sl t q (Z3 t q)))=true from rfl)]
       repeat' (first|((first|apply T.mv|apply T.asn|apply T.nilCheck|apply T.fieldAddrZ);apply rfl;apply rfl)|(apply T.load;apply rfl;apply rfl;infer_instance;apply rfl;apply rfl)|(apply T.extract;(iterate 3 apply rfl))|(apply T.pickT;(iterate 3 apply rfl))|(with_reducible first|refine Sr.nil ?_|refine S.seq ?_|refine S.reg ?_)|(apply T.skip;apply rfl;(first|with_reducible rfl|decide);apply rfl)|(apply S.condTV;apply rfl;(first|with_reducible rfl|decide))|(with_reducible apply T.ofRet)|fail)
       refine T.call rfl rfl Z8 ?_
       rintro _ _ ⟨rfl,rfl⟩
       repeat' (first|(apply T.asn;apply rfl;apply rfl)|(with_reducible first|refine Sr.nil ?_|refine S.seq ?_|refine S.reg ?_)|(apply T.retW;apply rfl)|(with_reducible apply T.ofRet)|fail)
       exact ⟨_,PSub.refl _,_,q,q,⟨[],rfl⟩,by omega,rfl,rfl⟩
      | false =>
       cases h5:plB (sl t q (Z3 t q)) with
       | true =>
        rw [if_neg (show ¬(false || !true)=true from (by decide))]
        have he:q+(sl t q (Z3 t q)).length=Z3 t q:=by omega
        repeat' (first|((first|apply T.slen|apply T.mv|apply T.asn|apply T.nilCheck|apply T.fieldAddrZ);apply rfl;apply rfl)|(apply T.load;apply rfl;apply rfl;infer_instance;apply rfl;apply rfl)|(apply T.addI;apply rfl;apply rfl;omega;apply rfl)|(apply T.extract;(iterate 3 apply rfl))|(apply T.notB;apply rfl;apply rfl)|(apply T.pickF;(iterate 3 apply rfl))|(apply T.store;apply rfl;apply rfl;infer_instance;(first|decide|(simp;omega)|simp);apply rfl)|(with_reducible first|refine Sr.nil ?_|refine S.seq ?_|refine S.reg ?_|refine S.skip ?_)|(apply T.ungV;apply rfl;(first|with_reducible rfl|decide))|(apply S.condFV;apply rfl;(first|with_reducible rfl|decide))|(apply T.retW;apply rfl)|(with_reducible apply T.ofRet)|fail)
        rw [show Rz.to (Z3 t q)=Rz.to (q+(sl t q (Z3 t q)).length) by rw [he]]
        exact ⟨_,PSub.refl _,_,⟨_,rfl⟩,rfl,rfl⟩
       | false =>
        rw [if_pos (show (false || !false)=true from rfl)]
        repeat' (first|((first|apply T.mv|apply T.asn|apply T.nilCheck|apply T.fieldAddrZ);apply rfl;apply rfl)|(apply T.load;apply rfl;apply rfl;infer_instance;apply rfl;apply rfl)|(apply T.extract;(iterate 3 apply rfl))|(apply T.notB;apply rfl;apply rfl)|(apply T.pickF;(iterate 3 apply rfl))|(with_reducible first|refine Sr.nil ?_|refine S.seq ?_|refine S.reg ?_)|(apply T.ungV;apply rfl;(first|with_reducible rfl|decide))|(apply S.condTV;apply rfl;(first|with_reducible rfl|decide))|(with_reducible apply T.ofRet)|fail)
        refine T.call rfl rfl Z8 ?_
        rintro _ _ ⟨rfl,rfl⟩
        repeat' (first|(apply T.asn;apply rfl;apply rfl)|(with_reducible first|refine Sr.nil ?_|refine S.seq ?_|refine S.reg ?_)|(apply T.retW;apply rfl)|(with_reducible apply T.ofRet)|fail)
        exact ⟨_,PSub.refl _,_,q,q,⟨[],rfl⟩,by omega,rfl,rfl⟩
    ·have g7:q+i=wdE t q:=by omega
     have g8:Z3 t (q+i)=q+i:=Z8c (by
      rw [g7]
      by_cases hx:wdE t q < t.length
      ·exact .inr (Z6g (Nat.le_refl _) hx)
      ·exact .inl (by omega))
     clear ih
     have g6:=hfin g8
     repeat' (first|(apply T.ssliceH;apply rfl;apply rfl;omega;apply rfl;rw [g6 _ rfl])|((first|apply T.slen|apply T.mv|apply T.asn);apply rfl;apply rfl)|(apply T.lss;(iterate 3 apply rfl))|(apply T.pickF;(iterate 3 apply rfl))|(with_reducible first|refine Sr.nil ?_|refine S.seq ?_|refine S.reg ?_)|(apply S.exit;apply rfl)|(apply T.skip;apply rfl;(first|with_reducible rfl|decide);apply rfl)|(apply S.condFV;apply rfl;(first|with_reducible rfl|decide))|(apply T.gcase;apply rfl;apply rfl;all_goals (intro _;try (exfalso;first|omega|with_reducible contradiction)))|fail)
     refine T.call rfl rfl hpl ?_
     rintro _ _ ⟨z,rfl,rfl⟩
     cases first with
     | true =>
      rw [if_pos (show (true || !plB (sl t q (Z3 t q)))=true from rfl)]
      repeat' (first|((first|apply T.mv|apply T.asn|apply T.nilCheck|apply T.fieldAddrZ);apply rfl;apply rfl)|(apply T.load;apply rfl;apply rfl;infer_instance;apply rfl;apply rfl)|(apply T.extract;(iterate 3 apply rfl))|(apply T.pickT;(iterate 3 apply rfl))|(with_reducible first|refine Sr.nil ?_|refine S.seq ?_|refine S.reg ?_)|(apply T.skip;apply rfl;(first|with_reducible rfl|decide);apply rfl)|(apply S.condTV;apply rfl;(first|with_reducible rfl|decide))|(with_reducible apply T.ofRet)|fail)
      refine T.call rfl rfl Z8 ?_
      rintro _ _ ⟨rfl,rfl⟩
      repeat' (first|(apply T.asn;apply rfl;apply rfl)|(with_reducible first|refine Sr.nil ?_|refine S.seq ?_|refine S.reg ?_)|(apply T.retW;apply rfl)|(with_reducible apply T.ofRet)|fail)
      exact ⟨_,PSub.refl _,_,q,q,⟨[],rfl⟩,by omega,rfl,rfl⟩
     | false =>
      cases h5:plB (sl t q (Z3 t q)) with
      | true =>
       rw [if_neg (show ¬(false || !true)=true from (by decide))]
       have he:q+(sl t q (Z3 t q)).length=Z3 t q:=by omega
       repeat' (first|((first|apply T.slen|apply T.mv|apply T.asn|apply T.nilCheck|apply T.fieldAddrZ);apply rfl;apply rfl)|(apply T.load;apply rfl;apply rfl;infer_instance;apply rfl;apply rfl)|(apply T.addI;apply rfl;apply rfl;omega;apply rfl)|(apply T.extract;(iterate 3 apply rfl))|(apply T.notB;apply rfl;apply rfl)|(apply T.pickF;(iterate 3 apply rfl))|(apply T.store;apply rfl;apply rfl;infer_instance;(first|decide|(simp;omega)|simp);apply rfl)|(with_reducible first|refine Sr.nil ?_|refine S.seq ?_|refine S.reg ?_|refine S.skip ?_)|(apply T.ungV;apply rfl;(first|with_reducible rfl|decide))|(apply S.condFV;apply rfl;(first|with_reducible rfl|decide))|(apply T.retW;apply rfl)|(with_reducible apply T.ofRet)|fail)
       rw [show Rz.to (Z3 t q)=Rz.to (q+(sl t q (Z3 t q)).length) by rw [he]]
       exact ⟨_,PSub.refl _,_,⟨_,rfl⟩,rfl,rfl⟩
      | false =>
       rw [if_pos (show (false || !false)=true from rfl)]
       repeat' (first|((first|apply T.mv|apply T.asn|apply T.nilCheck|apply T.fieldAddrZ);apply rfl;apply rfl)|(apply T.load;apply rfl;apply rfl;infer_instance;apply rfl;apply rfl)|(apply T.extract;(iterate 3 apply rfl))|(apply T.notB;apply rfl;apply rfl)|(apply T.pickF;(iterate 3 apply rfl))|(with_reducible first|refine Sr.nil ?_|refine S.seq ?_|refine S.reg ?_)|(apply T.ungV;apply rfl;(first|with_reducible rfl|decide))|(apply S.condTV;apply rfl;(first|with_reducible rfl|decide))|(with_reducible apply T.ofRet)|fail)
       refine T.call rfl rfl Z8 ?_
       rintro _ _ ⟨rfl,rfl⟩
       repeat' (first|(apply T.asn;apply rfl;apply rfl)|(with_reducible first|refine Sr.nil ?_|refine S.seq ?_|refine S.reg ?_)|(apply T.retW;apply rfl)|(with_reducible apply T.ofRet)|fail)
       exact ⟨_,PSub.refl _,_,q,q,⟨[],rfl⟩,by omega,rfl,rfl⟩
   | false =>
    rw [if_neg (by simp:¬false=true)]
    cases h3:letB (t.getD q 0) with
    | true =>
     rw [if_pos rfl]
     have hwg:=Z16 h1 h3
     have hne:wdX t q≠[]:=fun h=>by rw [h] at hwl;simp at hwl;omega
     have hhd:=Z1S hne rfl
     repeat' (first|(apply T.mv;apply rfl;apply rfl)|(with_reducible first|refine Sr.nil ?_|refine S.seq ?_|refine S.reg ?_)|(apply S.condFV;apply rfl;(first|with_reducible rfl|decide))|(with_reducible apply T.ofRet)|fail)
     refine T.call rfl rfl (Z4v (s:=wdX t q) hne (by rw [←hhd];exact h3) Z39 (by omega)) ?_
     rintro _ _ ⟨rfl,rfl⟩
     by_cases h5:wdX t q∈kwL
     ·rw [if_pos h5,show nmB (wdX t q)=false from decide_eq_false (fun h=>h h5)]
      repeat' (first|((first|apply T.mv|apply T.nilCheck|apply T.fieldAddrZ);apply rfl;apply rfl)|(apply T.load;apply rfl;apply rfl;infer_instance;apply rfl;apply rfl)|(apply T.notB;apply rfl;apply rfl)|(with_reducible first|refine Sr.nil ?_|refine S.seq ?_|refine S.reg ?_)|(apply S.condTV;apply rfl;(first|with_reducible rfl|decide))|(with_reducible apply T.ofRet)|fail)
      refine T.call rfl rfl Z8 ?_
      rintro _ _ ⟨rfl,rfl⟩
      repeat' (first|(apply T.asn;apply rfl;apply rfl)|(with_reducible first|refine Sr.nil ?_|refine S.seq ?_|refine S.reg ?_)|(apply T.retW;apply rfl)|(with_reducible apply T.ofRet)|fail)
      exact ⟨_,PSub.refl _,_,q,q,⟨[],rfl⟩,by omega,rfl,rfl⟩
     ·rw [if_neg h5,show nmB (wdX t q)=true from decide_eq_true h5]
      have he:q+(wdX t q).length=wdE t q:=by omega
      repeat' (first|((first|apply T.slen|apply T.mv|apply T.asn|apply T.nilCheck|apply T.fieldAddrZ);apply rfl;apply rfl)|(apply T.load;apply rfl;apply rfl;infer_instance;apply rfl;apply rfl)|(apply T.addI;apply rfl;apply rfl;omega;apply rfl)|(apply T.notB;apply rfl;apply rfl)|(apply T.store;apply rfl;apply rfl;infer_instance;(first|decide|(simp;omega)|simp);apply rfl)|(with_reducible first|refine Sr.nil ?_|refine S.seq ?_|refine S.reg ?_|refine S.skip ?_)|(apply S.condFV;apply rfl;(first|with_reducible rfl|decide))|(apply T.retW;apply rfl)|(with_reducible apply T.ofRet)|fail)
      rw [←he]
      exact ⟨_,PSub.refl _,_,⟨_,rfl⟩,rfl,rfl⟩
    | false =>
     rw [if_neg (by simp)]
     have hwd:wdB (t.getD q 0)=false:=by unfold wdB;rw [h3,h4];rfl
     have hem:wdX t q=[]:=List.length_eq_zero_iff.1 (by rw [hwl];unfold wdE;rw [Z1k h1 hwd];omega)
     rw [hem]
     repeat' (first|(apply T.mv;apply rfl;apply rfl)|(with_reducible first|refine Sr.nil ?_|refine S.seq ?_|refine S.reg ?_)|(apply S.condFV;apply rfl;(first|with_reducible rfl|decide))|(with_reducible apply T.ofRet)|fail)
     refine T.call rfl rfl Z3L ?_
     rintro _ _ ⟨rfl,rfl⟩
     repeat' (first|((first|apply T.mv|apply T.nilCheck|apply T.fieldAddrZ);apply rfl;apply rfl)|(apply T.load;apply rfl;apply rfl;infer_instance;apply rfl;apply rfl)|(apply T.notB;apply rfl;apply rfl)|(with_reducible first|refine Sr.nil ?_|refine S.seq ?_|refine S.reg ?_)|(apply S.condTV;apply rfl;(first|with_reducible rfl|decide))|(with_reducible apply T.ofRet)|fail)
     refine T.call rfl rfl Z8 ?_
     rintro _ _ ⟨rfl,rfl⟩
     repeat' (first|(apply T.asn;apply rfl;apply rfl)|(with_reducible first|refine Sr.nil ?_|refine S.seq ?_|refine S.reg ?_)|(apply T.retW;apply rfl)|(with_reducible apply T.ofRet)|fail)
     exact ⟨_,PSub.refl _,_,q,q,⟨[],rfl⟩,by omega,rfl,rfl⟩
 ·rw [if_neg h1,decide_eq_false h1]
  repeat' (first|((first|apply T.mv|apply T.asn|apply T.nilCheck|apply T.fieldAddrZ);apply rfl;apply rfl)|(apply T.load;apply rfl;apply rfl;infer_instance;apply rfl;apply rfl)|(apply T.notB;apply rfl;apply rfl)|(with_reducible first|refine Sr.nil ?_|refine S.seq ?_|refine S.reg ?_)|(apply S.condTV;apply rfl;(first|with_reducible rfl|decide))|(with_reducible apply T.ofRet)|fail)
  refine T.call rfl rfl Z8 ?_
  rintro _ _ ⟨rfl,rfl⟩
  repeat' (first|(apply T.asn;apply rfl;apply rfl)|(with_reducible first|refine Sr.nil ?_|refine S.seq ?_|refine S.reg ?_)|(apply T.retW;apply rfl)|(with_reducible apply T.ofRet)|fail)
  exact ⟨_,PSub.refl _,_,q,q,⟨[],rfl⟩,by omega,rfl,rfl⟩
end
end Go.Proofs.YthomgjihagigcaaGreatDoor
/- The walks of the document's reader of rules: paths, numbers, values, signs, nodes. -/
/- guards -/
namespace Go.Proofs.YthomgjihagigcaaGreatDoor
open Sg Go.IntWalk
set_option maxRecDepth 100000
set_option maxHeartbeats 4000000
section
variable {F:World} {M:List Nat} {H:List Res} {t s:List UInt8} {p oc n:Nat} {a:Nat} {o er bd:Int} {oa:Option Addr} {k:Nat} {c:UInt8}
theorem GrE.any {K:Value→Prop} {Z:Rz} {lo:Nat} (hz:RzO t lo Z) {e:Ending} {H':List Res} (h:GrE p t oa n oc o H K Z e H') :
  ∃ (v:Value) (a':Nat) (z b:Int),K v∧e=.returned v∧H'=rdR p t a' oa n oc o z b H∧a'≤t.length∧((z=0∧b=0∧Z=.to a'∧lo≤a')∨(Z=.no z∧z≠0∧∃ b':Nat,b=b')):=by
 cases Z with
 | no c =>
  obtain ⟨v,a',b,h1,h2,h3,h4⟩:=h
  exact ⟨v,a',c,b,h1,h3,h4,h2,.inr ⟨rfl,(by rcases hz with h|h<;>omega),b,rfl⟩⟩
 | to r =>
  obtain ⟨v,h1,h2,h3⟩:=h
  exact ⟨v,r,0,0,h1,h2,h3,hz.2,.inl ⟨rfl,rfl,rfl,hz.1⟩⟩
theorem Z2G (ha:a≤t.length) (hl:t.length≤1024) :
  Meets Tryz.prog 69 [.pointer (some ⟨p,0,none⟩)] F M (rdR p t a oa n oc o 0 0 H) (GrE p t oa n oc o H IsL (Z17 t a)):=by
 refine Meets.enter Tryz.func69 rfl rfl ?_
 generalize hG:Z17 t a=G
 unfold Z17 at hG
 repeat' (first|((first|apply T.mv|apply T.asn);apply rfl;apply rfl)|(with_reducible first|refine Sr.nil ?_|refine S.seq ?_|refine S.reg ?_)|fail)
 refine T.call rfl rfl (Z2H (first:=true) ha hl) ?_
 intro _ _ hh
 obtain ⟨_,a',z,b,⟨s,rfl⟩,rfl,rfl,g1,g2⟩:=hh.any Z0S
 clear hh
 have g3:z=0∧b=0∧1≤a'∧t.length < a'+(t.length+1)∧Z0J t (t.length+1) a'=G∨G=.no z∧z≠0∧∃ b':Nat,b=b':=by
  rcases g2 with ⟨h1,h2,h3,h4⟩|⟨h1,h2,h3⟩
  ·rw [h3] at hG
   exact .inl ⟨h1,h2,by omega,by omega,hG⟩
  ·rw [h1] at hG
   exact .inr ⟨hG.symm,h2,h3⟩
 repeat' (first|(apply T.asn;apply rfl;apply rfl)|(apply T.bs;(iterate 6 apply rfl);intro nb)|(with_reducible first|refine Sr.nil ?_|refine S.seq ?_|refine S.block ?_)|(with_reducible apply T.ofRet)|fail)
 refine S.rowOf (n:=1) rfl (by decide) ?_
 refine S.front p ?_
 refine S.loopE 2 [0] (fun R b' μ H' e=>∃ (q k m cp:Nat) (ad:Option Addr) (xs:List Value) (z b:Int),H'=rdR p t q oa n oc o z b (.row ad cp 9 1 m xs::R)∧e=(3,.slice ad m cp)::b'∧(q≤t.length∧m≤t.length+1∧xs.length=m∧(z=0∧b=0∧m≤q∧t.length < q+k∧Z0J t k q=G∨G=.no z∧z≠0∧∃ b':Nat,b=b'))∧μ=k+1) rfl rfl ?_ _ _
  ⟨a',t.length+1,1,1,_,_,z,b,rfl,rfl,⟨g1,by omega,rfl,g3⟩,rfl⟩ (by repeat' first|exact trivial|refine And.intro rfl ?_)
 clear g1 g2 g3 hG
 rintro _ _ _ ⟨q,k,m,cp,ad,xs,z,b,rfl,rfl,⟨h1,hm,h5,hor⟩,rfl⟩ ih
 rcases hor with ⟨rfl,rfl,h2,h3,h4⟩|⟨h2,h3,b',rfl⟩
 ·obtain ⟨j,rfl⟩:∃ j,k=j+1:=⟨k - 1,by omega⟩
  rw [Z0J] at h4
  have h6:=Zi (t:=t) (p:=q)
  have n1:=Zk (F:=F) (M:=M) (H:=.row ad cp 9 1 m xs::H) (p:=p) (oa:=oa) (n:=n) (oc:=oc) (o:=o) (er:=0) (bd:=0) h1 hl
  generalize Z2 t q=u at *
  have h7:(u < t.length∧t.getD u 0=46)↔(u < t.length∧(t.getD u 0).toNat=46):=by rw [u8_nat];exact Iff.rfl
  by_cases h8:u < t.length∧(t.getD u 0).toNat=46
  ·rw [if_pos (h7.2 h8)] at h4
   rw [decide_eq_true h8.1] at n1
   repeat' (first|with_reducible refine S.seq ?_|fail)
   (apply S.draw;(case Hs=>exact H);(case es=>exact  [7]);(case n=>exact  21);(case hn=>rfl))
   repeat' (first|(apply T.call;apply rfl;apply rfl;with_reducible exact n1;rintro _ _ ⟨rfl,rfl⟩)|(apply T.sidx;apply rfl;apply rfl;omega;apply rfl)|((first|apply T.mv|apply T.nilCheck|apply T.fieldAddrZ);apply rfl;apply rfl)|(apply T.load;apply rfl;apply rfl;infer_instance;apply rfl;apply rfl)|(apply T.eql;(iterate 3 apply rfl))|(apply T.addI;apply rfl;apply rfl;omega;apply rfl)|(apply T.pickT;(iterate 3 apply rfl))|(apply T.store;apply rfl;apply rfl;infer_instance;(first|decide|(simp;omega)|simp);apply rfl)|(with_reducible first|refine Sr.nil ?_|refine S.seq ?_|refine S.block ?_|refine S.reg ?_|refine S.skip ?_)|(apply T.ungV;apply rfl;(first|with_reducible rfl|decide))|(apply S.condQ;apply rfl;all_goals (intro _;try (exfalso;first|omega|with_reducible contradiction)))|(with_reducible apply T.ofRet)|(apply SA.gz;(iterate 4 apply rfl);(first|with_reducible rfl|decide);apply rfl;kernel_rfl)|(apply SA.gn;(iterate 4 apply rfl);(first|with_reducible rfl|decide);apply rfl;kernel_rfl)|(apply SA.qn;(iterate 4 apply rfl);kernel_rfl)|(apply SA.en;apply rfl;apply rfl;kernel_rfl)|(apply SA.done;apply rfl;kernel_rfl)|(apply SK.intro;(first|exact fun _ h=>h|exact fun _ h=>St.psub h (by ((repeat (first|dsimp only [List.set_cons_zero]|dsimp only [List.set_cons_succ]));repeat' first|exact PSub.refl _|exact PSub.nil|(with_reducible apply PSub.app)|(apply PSub.take;(repeat' first|(with_reducible exact Z0)|(with_reducible apply Z1)))|(with_reducible apply PSub.drop)|((apply PSub.take);(repeat' first|exact Z0|(apply Z1)))))))|fail)
   skip
   refine T.call rfl rfl (Z2H (first:=false) (a:=u+1) (by omega) hl) ?_
   intro _ _ hh
   obtain ⟨_,a',z,b,⟨s',rfl⟩,rfl,rfl,g1,g2⟩:=hh.any Z0S
   clear hh
   have g3:z=0∧b=0∧m+1≤a'∧t.length < a'+j∧Z0J t j a'=G∨G=.no z∧z≠0∧∃ b':Nat,b=b':=by
    rcases g2 with ⟨k1,k2,k3,k4⟩|⟨k1,k2,k3⟩
    ·rw [k3] at h4
     exact .inl ⟨k1,k2,by omega,by omega,h4⟩
    ·rw [k1] at h4
     exact .inr ⟨h4.symm,k2,k3⟩
   clear g2 h4
   repeat' (first|((first|apply T.mv|apply T.asn);apply rfl;apply rfl)|(apply T.bs;(iterate 6 apply rfl);intro nb)|(apply T.append;apply rfl;apply rfl;infer_instance;(first|rfl|(simp;done));(first|rfl|(simp;done));apply rfl;apply rfl;(constructor<;>omega);apply rfl;intro na nc)|(with_reducible first|refine Sr.nil ?_|refine S.reg ?_|refine S.inBlock ?_)|(with_reducible apply T.ofRet)|fail)
   have h9:(xs++[sV s']).length=m+1:=by rw [List.length_append,h5];rfl
   exact ih _ _ _ _ ⟨a',j,m+1,nc,na,xs++[sV s'],z,b,rfl,rfl,⟨g1,by omega,h9,g3⟩,rfl⟩ (by omega) (by repeat' first|exact trivial|refine And.intro rfl ?_)
  ·rw [if_neg (fun h=>h8 (h7.1 h))] at h4
   subst h4
   clear ih
   by_cases h9:u < t.length
   ·have h10:¬(t.getD u 0).toNat=46:=fun h=>h8 ⟨h9,h⟩
    rw [decide_eq_true h9] at n1
    repeat' (first|with_reducible refine S.seq ?_|fail)
    (apply S.draw;(case Hs=>exact H);(case es=>exact  [7]);(case n=>exact  21);(case hn=>rfl))
    repeat' (first|(apply T.call;apply rfl;apply rfl;with_reducible exact n1;rintro _ _ ⟨rfl,rfl⟩)|(apply T.sidx;apply rfl;apply rfl;omega;apply rfl)|((first|apply T.mv|apply T.asn|apply T.nilCheck|apply T.fieldAddrZ);apply rfl;apply rfl)|(apply T.load;apply rfl;apply rfl;infer_instance;apply rfl;apply rfl)|(apply T.eql;(iterate 3 apply rfl))|(apply T.pickT;(iterate 3 apply rfl))|(with_reducible first|refine Sr.nil ?_|refine S.seq ?_|refine S.reg ?_)|(apply S.exit;apply rfl)|(apply T.ungV;apply rfl;(first|with_reducible rfl|decide))|(apply S.condQ;apply rfl;all_goals (intro _;try (exfalso;first|omega|with_reducible contradiction)))|(apply T.retW;apply rfl)|(with_reducible apply T.ofRet)|(apply SA.gz;(iterate 4 apply rfl);(first|with_reducible rfl|decide);apply rfl;kernel_rfl)|(apply SA.gn;(iterate 4 apply rfl);(first|with_reducible rfl|decide);apply rfl;kernel_rfl)|(apply SA.qn;(iterate 4 apply rfl);kernel_rfl)|(apply SA.en;apply rfl;apply rfl;kernel_rfl)|(apply SA.done;apply rfl;kernel_rfl)|(apply SK.intro;(first|exact fun _ h=>h|exact fun _ h=>St.psub h (by ((repeat (first|dsimp only [List.set_cons_zero]|dsimp only [List.set_cons_succ]));repeat' first|exact PSub.refl _|exact PSub.nil|(with_reducible apply PSub.app)|(apply PSub.take;(repeat' first|(with_reducible exact Z0)|(with_reducible apply Z1)))|(with_reducible apply PSub.drop)|((apply PSub.take);(repeat' first|exact Z0|(apply Z1)))))))|fail)
    skip
    exact ⟨_,PSub.take Z0 (PSub.drop (PSub.refl _)),_,⟨_,_,_,rfl⟩,rfl,rfl⟩
   ·rw [decide_eq_false h9] at n1
    repeat' (first|with_reducible refine S.seq ?_|fail)
    (apply S.draw;(case Hs=>exact H);(case es=>exact  [7]);(case n=>exact  21);(case hn=>rfl))
    repeat' (first|(apply T.call;apply rfl;apply rfl;with_reducible exact n1;rintro _ _ ⟨rfl,rfl⟩)|((first|apply T.mv|apply T.asn|apply T.nilCheck|apply T.fieldAddrZ);apply rfl;apply rfl)|(apply T.load;apply rfl;apply rfl;infer_instance;apply rfl;apply rfl)|(apply T.eql;(iterate 3 apply rfl))|(apply T.pickT;(iterate 3 apply rfl))|(apply T.pickF;(iterate 3 apply rfl))|(with_reducible first|refine Sr.nil ?_|refine S.seq ?_|refine S.reg ?_)|(apply S.exit;apply rfl)|(apply T.ungV;apply rfl;(first|with_reducible rfl|decide))|(apply S.condFV;apply rfl;(first|with_reducible rfl|decide))|(apply T.retW;apply rfl)|(with_reducible apply T.ofRet)|(apply SA.gxv;(iterate 5 apply rfl);kernel_rfl;apply rfl)|(apply SA.gz;(iterate 4 apply rfl);(first|with_reducible rfl|decide);apply rfl;kernel_rfl)|(apply SA.qn;(iterate 4 apply rfl);kernel_rfl)|(apply SA.en;apply rfl;apply rfl;kernel_rfl)|(apply SA.done;apply rfl;kernel_rfl)|(apply SK.intro;(first|exact fun _ h=>h|exact fun _ h=>St.psub h (by ((repeat (first|dsimp only [List.set_cons_zero]|dsimp only [List.set_cons_succ]));repeat' first|exact PSub.refl _|exact PSub.nil|(with_reducible apply PSub.app)|(apply PSub.take;(repeat' first|(with_reducible exact Z0)|(with_reducible apply Z1)))|(with_reducible apply PSub.drop)|((apply PSub.take);(repeat' first|exact Z0|(apply Z1)))))))|fail)
    skip
    exact ⟨_,PSub.take Z0 (PSub.drop (PSub.refl _)),_,⟨_,_,_,rfl⟩,rfl,rfl⟩
 ·subst h2
  clear ih
  repeat' (first|with_reducible refine S.seq ?_|fail)
  (apply S.draw;(case Hs=>exact H);(case es=>exact  [7]);(case n=>exact  21);(case hn=>rfl))
  repeat' (first|(apply T.eql;(iterate 3 apply rfl);rw [decide_eq_false h3])|((first|apply T.mv|apply T.asn|apply T.nilCheck|apply T.fieldAddrZ);apply rfl;apply rfl)|(apply T.load;apply rfl;apply rfl;infer_instance;apply rfl;apply rfl)|(apply T.pickF;(iterate 3 apply rfl))|(with_reducible first|refine Sr.nil ?_|refine S.seq ?_|refine S.reg ?_)|(apply S.exit;apply rfl)|(apply T.skip;apply rfl;(first|with_reducible rfl|decide);apply rfl)|(apply S.condFV;apply rfl;(first|with_reducible rfl|decide))|(apply T.retW;apply rfl)|(apply SA.gxv;(iterate 5 apply rfl);kernel_rfl;apply rfl)|(apply SA.qn;(iterate 4 apply rfl);kernel_rfl)|(apply SA.en;apply rfl;apply rfl;kernel_rfl)|(apply SA.done;apply rfl;kernel_rfl)|(apply SK.intro;(first|exact fun _ h=>h|exact fun _ h=>St.psub h (by ((repeat (first|dsimp only [List.set_cons_zero]|dsimp only [List.set_cons_succ]));repeat' first|exact PSub.refl _|exact PSub.nil|(with_reducible apply PSub.app)|(apply PSub.take;(repeat' first|(with_reducible exact Z0)|(with_reducible apply Z1)))|(with_reducible apply PSub.drop)|((apply PSub.take);(repeat' first|exact Z0|(apply Z1)))))))|fail)
  skip
  exact ⟨_,PSub.take Z0 (PSub.drop (PSub.refl _)),_,q,b',⟨_,_,_,rfl⟩,h1,rfl,rfl⟩
theorem Z3c (hl:t.length≤2200000):Meets Tryz.prog 99 [sV t] F M H (fun e H'=>e=.returned (.bool (numP t).isSome)∧H'=H):=by
 refine Meets.enter Tryz.func99 rfl rfl ?_
 repeat' (first|((first|apply T.mv|apply T.asn);apply rfl;apply rfl)|(with_reducible first|refine Sr.nil ?_|refine S.seq ?_|refine S.reg ?_)|fail)
 refine T.call rfl rfl (Z1H hl) ?_
 rintro _ _ ⟨mi,pl,dn,w,da,ea,dm,dc,em,ec,off,rfl,rfl,hr⟩
 repeat' (first|((first|apply T.mv|apply T.asn);apply rfl;apply rfl)|(apply T.extract;(iterate 3 apply rfl))|(apply T.storeW;apply rfl;apply rfl;infer_instance;(first|rfl|(simp only [List.length_append,List.length_map,List.length_set,List.length_replicate,List.length_cons,List.length_nil];first|done|omega));(first|rfl|(simp only [List.length_append,List.length_map,List.length_set,List.length_replicate,List.length_cons,List.length_nil];first|done|omega));(first|rfl|(repeat' first|apply all_nV|apply all_bV|apply all_iV|rfl|apply all_app)))|(apply T.alloc;apply rfl;intro nb)|(with_reducible first|refine Sr.nil ?_|refine S.seq ?_|refine S.reg ?_)|(apply T.retW;apply rfl)|(with_reducible apply T.ofRet)|fail)
 exact ⟨_,PSub.drop (PSub.refl _),rfl,rfl⟩
theorem Z3D (ha:a≤t.length) (hl:t.length≤1024) :
  Meets Tryz.prog 89 [.pointer (some ⟨p,0,none⟩)] F M (rdR p t a oa n oc o 0 0 H) (GrE p t oa n oc o H IsS (if (numP (sl t a (runE numC t a))).isSome=true then .to (runE numC t a) else .no 180)):=by
 refine Meets.enter Tryz.func89 rfl rfl ?_
 have hle:=Z1Z (f:=numC) (t:=t) ha
 have hge:=Z1m (f:=numC) (t:=t) (p:=a)
 generalize hQ:runE numC t a=Q at *
 have hsl:(sl t a Q).length=Q - a:=ZO hle
 have n1:=Z3c (F:=F) (M:=M) (H:=rdR p t a oa n oc o 0 0 H) (t:=sl t a Q) (by omega)
 repeat' (first|((first|apply T.mv|apply T.asn|apply T.nilCheck|apply T.fieldAddrZ);apply rfl;apply rfl)|(apply T.load;apply rfl;apply rfl;infer_instance;apply rfl;apply rfl)|(with_reducible first|refine Sr.nil ?_|refine S.seq ?_|refine S.block ?_|refine S.reg ?_)|fail)
 refine S.loopE 1 [0] (fun R b' μ H' e=>∃ q:Nat,H'=rdR p t a oa n oc o 0 0 R∧e=(3,.int .i64 q)::b'∧(q≤t.length∧runE numC t q=Q)∧μ=t.length - q) rfl rfl ?_ _ _ ⟨a,rfl,rfl,⟨ha,hQ⟩,rfl⟩ (by repeat' first|exact trivial|refine And.intro rfl ?_)
 rintro _ _ _ ⟨q,rfl,rfl,⟨h1,h2⟩,rfl⟩ ih
 by_cases h3:q < t.length
 ·have hu:=(t.getD q 0).toNat_lt
  by_cases h4:numC (t.getD q 0)=true
  ·have h6:runE numC t (q+1)=Q:=(Z1l h3 h4).symm.trans h2
   cases hd:Za (t.getD q 0) with
   | true =>
    repeat' (first|((first|apply T.slen|apply T.mv|apply T.nilCheck|apply T.fieldAddrZ);apply rfl;apply rfl)|(apply T.sidx;apply rfl;apply rfl;omega;apply rfl)|(apply T.load;apply rfl;apply rfl;infer_instance;apply rfl;apply rfl)|(apply T.lss;(iterate 3 apply rfl))|(with_reducible first|refine S.seq ?_|refine S.reg ?_)|(apply T.ungV;apply rfl;(first|with_reducible rfl|decide))|(apply T.gcase;apply rfl;apply rfl;all_goals (intro _;try (exfalso;first|omega|with_reducible contradiction)))|fail)
    refine T.call rfl rfl (Zm (c:=t.getD q 0)) ?_
    rintro _ _ ⟨rfl,rfl⟩
    rw [hd]
    repeat' (first|((first|apply T.mv|apply T.asn);apply rfl;apply rfl)|(apply T.addI;apply rfl;apply rfl;omega;apply rfl)|(apply T.pickT;(iterate 3 apply rfl))|(with_reducible first|refine Sr.nil ?_|refine S.block ?_|refine S.reg ?_|refine S.skip ?_|refine S.inBlock ?_)|(apply T.ungV;apply rfl;(first|with_reducible rfl|decide))|(apply T.skip;apply rfl;(first|with_reducible rfl|decide);apply rfl)|(apply S.condTV;apply rfl;(first|with_reducible rfl|decide))|(with_reducible apply T.ofRet)|fail)
    exact ih _ _ _ _ ⟨q+1,rfl,rfl,⟨h3,h6⟩,rfl⟩ (by omega) (by repeat' first|exact trivial|refine And.intro rfl ?_)
   | false =>
    unfold numC at h4
    rw [hd,Bool.false_or] at h4
    rcases of_decide_eq_true h4 with h5|h5|h5|h5|h5
    all_goals
     repeat' (first|((first|apply T.slen|apply T.mv|apply T.nilCheck|apply T.fieldAddrZ);apply rfl;apply rfl)|(apply T.sidx;apply rfl;apply rfl;omega;apply rfl)|(apply T.load;apply rfl;apply rfl;infer_instance;apply rfl;apply rfl)|(apply T.lss;(iterate 3 apply rfl))|(with_reducible first|refine S.seq ?_|refine S.reg ?_)|(apply T.ungV;apply rfl;(first|with_reducible rfl|decide))|(apply T.gcase;apply rfl;apply rfl;all_goals (intro _;try (exfalso;first|omega|with_reducible contradiction)))|fail)
     refine T.call rfl rfl (Zm (c:=t.getD q 0)) ?_
     rintro _ _ ⟨rfl,rfl⟩
     rw [hd]
     repeat' (first|(apply T.sidx;apply rfl;apply rfl;omega;apply rfl)|((first|apply T.mv|apply T.asn|apply T.nilCheck|apply T.fieldAddrZ);apply rfl;apply rfl)|(apply T.load;apply rfl;apply rfl;infer_instance;apply rfl;apply rfl)|(apply T.eql;(iterate 3 apply rfl))|(apply T.addI;apply rfl;apply rfl;omega;apply rfl)|(apply T.pickT;(iterate 3 apply rfl))|(apply T.pickF;(iterate 3 apply rfl))|(with_reducible first|refine Sr.nil ?_|refine S.block ?_|refine S.reg ?_|refine S.skip ?_|refine S.inBlock ?_)|(apply T.ungV;apply rfl;(first|with_reducible rfl|decide))|(apply T.skip;apply rfl;(first|with_reducible rfl|decide);apply rfl)|(apply S.condTV;apply rfl;(first|with_reducible rfl|decide))|(apply S.condQ;apply rfl;all_goals (intro _;try (exfalso;first|omega|with_reducible contradiction)))|(apply T.gcase;apply rfl;apply rfl;all_goals (intro _;try (exfalso;first|omega|with_reducible contradiction)))|(with_reducible apply T.ofRet)|fail)
     exact ih _ _ _ _ ⟨q+1,rfl,rfl,⟨h3,h6⟩,rfl⟩ (by omega) (by repeat' first|exact trivial|refine And.intro rfl ?_)
  ·have h4':numC (t.getD q 0)=false:=by simpa using h4
   have h5:q=Q:=(Z1k h3 h4').symm.trans h2
   subst h5
   clear ih
   unfold numC at h4'
   simp only [Bool.or_eq_false_iff,decide_eq_false_iff_not] at h4'
   obtain ⟨hd,hx⟩:=h4'
   repeat' (first|((first|apply T.slen|apply T.mv|apply T.nilCheck|apply T.fieldAddrZ);apply rfl;apply rfl)|(apply T.sidx;apply rfl;apply rfl;omega;apply rfl)|(apply T.load;apply rfl;apply rfl;infer_instance;apply rfl;apply rfl)|(apply T.lss;(iterate 3 apply rfl))|(with_reducible first|refine S.seq ?_|refine S.reg ?_)|(apply T.ungV;apply rfl;(first|with_reducible rfl|decide))|(apply T.gcase;apply rfl;apply rfl;all_goals (intro _;try (exfalso;first|omega|with_reducible contradiction)))|fail)
   refine T.call rfl rfl (Zm (c:=t.getD q 0)) ?_
   rintro _ _ ⟨rfl,rfl⟩
   rw [hd]
   repeat' (first|(apply T.sslice;(iterate 3 apply rfl);omega;apply rfl)|(apply T.sidx;apply rfl;apply rfl;omega;apply rfl)|((first|apply T.mv|apply T.asn|apply T.nilCheck|apply T.fieldAddrZ);apply rfl;apply rfl)|(apply T.load;apply rfl;apply rfl;infer_instance;apply rfl;apply rfl)|(apply T.eql;(iterate 3 apply rfl))|(apply T.pickT;(iterate 3 apply rfl))|(apply T.pickF;(iterate 3 apply rfl))|(with_reducible first|refine Sr.nil ?_|refine S.seq ?_|refine S.reg ?_)|(apply S.exit;apply rfl)|(apply S.quiet;apply rfl;kernel_rfl)|(apply T.ungV;apply rfl;(first|with_reducible rfl|decide))|(apply S.condQ;apply rfl;all_goals (intro _;try (exfalso;first|omega|with_reducible contradiction)))|(apply T.gcase;apply rfl;apply rfl;all_goals (intro _;try (exfalso;first|omega|with_reducible contradiction)))|(with_reducible apply T.ofRet)|fail)
   refine T.call rfl rfl n1 ?_
   rintro _ _ ⟨rfl,rfl⟩
   cases hv:(numP (sl t a q)).isSome with
   | true =>
    rw [if_pos rfl]
    repeat' (first|((first|apply T.mv|apply T.asn|apply T.nilCheck|apply T.fieldAddrZ);apply rfl;apply rfl)|(apply T.notB;apply rfl;apply rfl)|(apply T.store;apply rfl;apply rfl;infer_instance;(first|decide|(simp;omega)|simp);apply rfl)|(with_reducible first|refine Sr.nil ?_|refine S.seq ?_|refine S.reg ?_|refine S.skip ?_)|(apply S.condFV;apply rfl;(first|with_reducible rfl|decide))|(apply T.retW;apply rfl)|(with_reducible apply T.ofRet)|fail)
    exact ⟨_,PSub.refl _,_,⟨_,rfl⟩,rfl,rfl⟩
   | false =>
    rw [if_neg (by simp)]
    repeat' (first|((first|apply T.mv|apply T.asn|apply T.nilCheck|apply T.fieldAddrZ);apply rfl;apply rfl)|(apply T.load;apply rfl;apply rfl;infer_instance;apply rfl;apply rfl)|(apply T.notB;apply rfl;apply rfl)|(with_reducible first|refine Sr.nil ?_|refine S.seq ?_|refine S.reg ?_)|(apply S.condTV;apply rfl;(first|with_reducible rfl|decide))|(with_reducible apply T.ofRet)|fail)
    refine T.call rfl rfl Z8 ?_
    rintro _ _ ⟨rfl,rfl⟩
    repeat' (first|(apply T.asn;apply rfl;apply rfl)|(with_reducible first|refine Sr.nil ?_|refine S.seq ?_|refine S.reg ?_)|(apply T.retW;apply rfl)|(with_reducible apply T.ofRet)|fail)
    exact ⟨_,PSub.refl _,_,a,a,⟨[],rfl⟩,by omega,rfl,rfl⟩
 ·have h5:q=Q:=(Z0r (by omega)).symm.trans h2
  subst h5
  clear ih
  repeat' (first|(apply T.sslice;(iterate 3 apply rfl);omega;apply rfl)|((first|apply T.slen|apply T.mv|apply T.asn|apply T.nilCheck|apply T.fieldAddrZ);apply rfl;apply rfl)|(apply T.load;apply rfl;apply rfl;infer_instance;apply rfl;apply rfl)|(apply T.lss;(iterate 3 apply rfl))|(apply T.pickF;(iterate 3 apply rfl))|(with_reducible first|refine Sr.nil ?_|refine S.seq ?_|refine S.reg ?_)|(apply S.exit;apply rfl)|(apply S.quiet;apply rfl;kernel_rfl)|(apply T.skip;apply rfl;(first|with_reducible rfl|decide);apply rfl)|(apply T.skipU;apply rfl;apply rfl)|(apply S.condFV;apply rfl;(first|with_reducible rfl|decide))|(apply T.gcase;apply rfl;apply rfl;all_goals (intro _;try (exfalso;first|omega|with_reducible contradiction)))|fail)
  refine T.call rfl rfl n1 ?_
  rintro _ _ ⟨rfl,rfl⟩
  cases hv:(numP (sl t a q)).isSome with
  | true =>
   rw [if_pos rfl]
   repeat' (first|((first|apply T.mv|apply T.asn|apply T.nilCheck|apply T.fieldAddrZ);apply rfl;apply rfl)|(apply T.notB;apply rfl;apply rfl)|(apply T.store;apply rfl;apply rfl;infer_instance;(first|decide|(simp;omega)|simp);apply rfl)|(with_reducible first|refine Sr.nil ?_|refine S.seq ?_|refine S.reg ?_|refine S.skip ?_)|(apply S.condFV;apply rfl;(first|with_reducible rfl|decide))|(apply T.retW;apply rfl)|(with_reducible apply T.ofRet)|fail)
   exact ⟨_,PSub.refl _,_,⟨_,rfl⟩,rfl,rfl⟩
  | false =>
   rw [if_neg (by simp)]
   repeat' (first|((first|apply T.mv|apply T.asn|apply T.nilCheck|apply T.fieldAddrZ);apply rfl;apply rfl)|(apply T.load;apply rfl;apply rfl;infer_instance;apply rfl;apply rfl)|(apply T.notB;apply rfl;apply rfl)|(with_reducible first|refine Sr.nil ?_|refine S.seq ?_|refine S.reg ?_)|(apply S.condTV;apply rfl;(first|with_reducible rfl|decide))|(with_reducible apply T.ofRet)|fail)
   refine T.call rfl rfl Z8 ?_
   rintro _ _ ⟨rfl,rfl⟩
   repeat' (first|(apply T.asn;apply rfl;apply rfl)|(with_reducible first|refine Sr.nil ?_|refine S.seq ?_|refine S.reg ?_)|(apply T.retW;apply rfl)|(with_reducible apply T.ofRet)|fail)
   exact ⟨_,PSub.refl _,_,a,a,⟨[],rfl⟩,by omega,rfl,rfl⟩
end
end Go.Proofs.YthomgjihagigcaaGreatDoor
/- The walks of the document's reader of rules: values, signs, nodes, tests. -/
/- guards -/
namespace Sg
theorem Z5p {t:List UInt8} {q:Nat}:(t.drop q).getD 0 0=t.getD q 0:=by
 simp only [List.getD_eq_getElem?_getD,List.getElem?_drop,Nat.add_zero]
theorem Z67 {t:List UInt8} {q:Nat} (h:q+1 < t.length) (c d:UInt8):((t.drop q).take 2=[c,d])↔((t.getD q 0).toNat=c.toNat∧(t.getD (q+1) 0).toNat=d.toNat):=by
 rw [ZE (by omega),ZE h,←u8_nat,←u8_nat]
 generalize t.getD q 0=x
 generalize t.getD (q+1) 0=y
 simp
end Sg
namespace Go.Proofs.YthomgjihagigcaaGreatDoor
open Sg Go.IntWalk
set_option maxRecDepth 100000
set_option maxHeartbeats 4000000
section
variable {F:World} {M:List Nat} {H:List Res} {t s:List UInt8} {p oc n:Nat} {a:Nat} {o er bd:Int} {oa:Option Addr} {k:Nat} {c:UInt8}
theorem Z5D (hq:a < t.length) (hs:Z2 t a=a) (hl:t.length≤1024) :
  Meets Tryz.prog 79 [.pointer (some ⟨p,0,none⟩)] F M (rdR p t a oa n oc o 0 0 H) (fun e H'=>∃ (z:Int) (m:Nat),e=.returned (.tuple ⟨[.int .i64 z,.int .i64 m]⟩)∧H'=rdR p t a oa n oc o 0 0 H∧match gOp t a with
   | none=>z=0
   | some (b,r)=>z≠0∧b=decide (z=11)∧r=a+m):=by
 refine Meets.enter Tryz.func79 rfl rfl ?_
 have hdl:(t.drop a).length=t.length - a:=List.length_drop
 have hg:gOp t a=gOp t a:=rfl
 conv at hg=>rhs;unfold gOp
 rw [hs,if_pos hq] at hg
 by_cases e1:wdX t a=kCon
 ·rw [if_pos e1] at hg
  rw [hg]
  by_cases hone:a+1 < t.length
  all_goals
   repeat' (first|(apply T.ssliceL;apply rfl;apply rfl;omega;apply rfl)|(apply Sr.same;refine T.ssliceH (j:=2) rfl rfl (by omega) rfl ?_)|((first|apply T.slen|apply T.mv|apply T.asn|apply T.nilCheck|apply T.fieldAddrZ);apply rfl;apply rfl)|(apply T.load;apply rfl;apply rfl;infer_instance;apply rfl;apply rfl)|(apply T.gtr;(iterate 3 apply rfl))|(with_reducible first|refine Sr.nil ?_|refine S.seq ?_|refine S.block ?_|refine S.reg ?_|refine S.skip ?_)|(apply S.quiet;apply rfl;kernel_rfl)|(apply S.condQ;apply rfl;all_goals (intro _;try (exfalso;first|omega|with_reducible contradiction)))|fail)
   refine T.call rfl rfl (ZA (by omega) hl) ?_
   rintro _ _ ⟨rfl,rfl⟩
   rw [e1]
   repeat' (first|(apply T.seql;(iterate 3 apply rfl))|(apply T.asn;apply rfl;apply rfl)|(with_reducible first|refine Sr.nil ?_|refine S.seq ?_|refine S.reg ?_)|(apply S.condTV;apply rfl;(first|with_reducible rfl|decide))|(apply T.retW;apply rfl)|(with_reducible apply T.ofRet)|fail)
   exact ⟨_,PSub.refl _,11,8,rfl,rfl,(by decide),rfl,rfl⟩
 ·rw [if_neg e1] at hg
  have he1:¬wdX t a=[99,111,110,116,97,105,110,115]:=e1
  by_cases hone:a+1 < t.length
  ·have a1:=Z67 hone 33 61
   have a2:=Z67 hone 60 61
   have a3:=Z67 hone 62 61
   have n1:(33:UInt8).toNat=33:=rfl
   have n2:(60:UInt8).toNat=60:=rfl
   have n3:(61:UInt8).toNat=61:=rfl
   have n4:(62:UInt8).toNat=62:=rfl
   rw [n1,n3] at a1
   rw [n2,n3] at a2
   rw [n4,n3] at a3
   have hx:(t.drop a).getD 0 0=t.getD a 0:=Z5p
   repeat' (first|(apply T.ssliceL;apply rfl;apply rfl;omega;apply rfl)|(apply Sr.same;refine T.ssliceH (j:=2) rfl rfl (by omega) rfl ?_)|((first|apply T.slen|apply T.mv|apply T.asn|apply T.nilCheck|apply T.fieldAddrZ);apply rfl;apply rfl)|(apply T.load;apply rfl;apply rfl;infer_instance;apply rfl;apply rfl)|(apply T.gtr;(iterate 3 apply rfl))|(with_reducible first|refine Sr.nil ?_|refine S.seq ?_|refine S.block ?_|refine S.reg ?_)|(apply S.quiet;apply rfl;kernel_rfl)|(apply S.condQ;apply rfl;all_goals (intro _;try (exfalso;first|omega|with_reducible contradiction)))|fail)
   refine T.call rfl rfl (ZA (by omega) hl) ?_
   rintro _ _ ⟨rfl,rfl⟩
   generalize (t.drop a).take 2=tw at *
   repeat' (first|(apply Sr.same;refine T.sidx (i:=0) rfl rfl (by omega) rfl ?_;rw [hx])|(apply T.seql;(iterate 3 apply rfl))|((first|apply T.mv|apply T.asn);apply rfl;apply rfl)|(apply T.eql;(iterate 3 apply rfl))|(with_reducible first|refine Sr.nil ?_|refine S.seq ?_|refine S.reg ?_|refine S.skip ?_|refine S.inBlock ?_)|(apply S.condQ;apply rfl;all_goals (intro _;try (exfalso;first|omega|with_reducible contradiction)))|(apply T.retW;apply rfl)|(with_reducible apply T.ofRet)|fail)
   all_goals
    refine ⟨_,PSub.refl _,_,_,rfl,rfl,?_⟩
    simp only [a1,a2,a3] at *
    repeat' split at hg
    all_goals first
     | (exfalso;omega)
     | (rw [hg];exact ⟨by decide,rfl,rfl⟩)
     | (rw [hg];done)
     | (rw [hg];trivial)
  ·have hx:(t.drop a).getD 0 0=t.getD a 0:=Z5p
   repeat' (first|(apply T.ssliceL;apply rfl;apply rfl;omega;apply rfl)|((first|apply T.slen|apply T.mv|apply T.asn|apply T.nilCheck|apply T.fieldAddrZ);apply rfl;apply rfl)|(apply T.load;apply rfl;apply rfl;infer_instance;apply rfl;apply rfl)|(apply T.gtr;(iterate 3 apply rfl))|(with_reducible first|refine Sr.nil ?_|refine S.seq ?_|refine S.block ?_|refine S.reg ?_|refine S.skip ?_)|(apply S.quiet;apply rfl;kernel_rfl)|(apply S.condQ;apply rfl;all_goals (intro _;try (exfalso;first|omega|with_reducible contradiction)))|fail)
   refine T.call rfl rfl (ZA (by omega) hl) ?_
   rintro _ _ ⟨rfl,rfl⟩
   repeat' (first|(apply Sr.same;refine T.sidx (i:=0) rfl rfl (by omega) rfl ?_;rw [hx])|(apply T.seql;(iterate 3 apply rfl))|((first|apply T.mv|apply T.asn);apply rfl;apply rfl)|(apply T.eql;(iterate 3 apply rfl))|(with_reducible first|refine Sr.nil ?_|refine S.seq ?_|refine S.reg ?_|refine S.skip ?_|refine S.inBlock ?_)|(apply S.condFV;apply rfl;(first|with_reducible rfl|decide))|(apply S.condQ;apply rfl;all_goals (intro _;try (exfalso;first|omega|with_reducible contradiction)))|(apply T.retW;apply rfl)|(with_reducible apply T.ofRet)|fail)
   all_goals
    refine ⟨_,PSub.refl _,_,_,rfl,rfl,?_⟩
    repeat' split at hg
    all_goals first
     | (exfalso;omega)
     | (rw [hg];exact ⟨by decide,rfl,rfl⟩)
     | (rw [hg];done)
     | (rw [hg];trivial)
theorem Z4l {only:Bool} (ha:a≤t.length) (hl:t.length≤1024) :
  Meets Tryz.prog 80 [.pointer (some ⟨p,0,none⟩),.bool only] F M (rdR p t a oa n oc o 0 0 H) (GrE p t oa n oc o H IsP (gVal t only a)):=by
 refine Meets.enter Tryz.func80 rfl rfl ?_
 unfold gVal
 have hle:=Zj (t:=t) ha
 repeat' (first|((first|apply T.mv|apply T.asn);apply rfl;apply rfl)|(with_reducible first|refine Sr.nil ?_|refine S.seq ?_|refine S.reg ?_)|fail)
 refine T.call rfl rfl (Zk ha hl) ?_
 rintro _ _ ⟨rfl,rfl⟩
 generalize Z2 t a=q at *
 by_cases h1:q < t.length
 ·rw [if_pos h1,decide_eq_true h1]
  have hu:=(t.getD q 0).toNat_lt
  by_cases h2:t.getD q 0=34
  ·rw [if_pos h2]
   have h34:=u8_nat.1 h2
   have h34':(34:UInt8).toNat=34:=rfl
   rw [h34'] at h34
   have hc:=Z2F (F:=F) (M:=M) (H:=H) (p:=p) (o:=o) (oa:=oa) (n:=n) (oc:=oc) h1 hl
   repeat' (first|(apply T.sidx;apply rfl;apply rfl;omega;apply rfl)|((first|apply T.mv|apply T.asn|apply T.nilCheck|apply T.fieldAddrZ);apply rfl;apply rfl)|(apply T.load;apply rfl;apply rfl;infer_instance;apply rfl;apply rfl)|(apply T.notB;apply rfl;apply rfl)|(with_reducible first|refine Sr.nil ?_|refine S.seq ?_|refine S.reg ?_|refine S.skip ?_)|(apply S.quiet;apply rfl;kernel_rfl)|(apply S.condFV;apply rfl;(first|with_reducible rfl|decide))|(with_reducible apply T.ofRet)|fail)
   refine T.call rfl rfl (ZA hle hl) ?_
   rintro _ _ ⟨rfl,rfl⟩
   repeat' (first|((first|apply T.mv|apply T.asn);apply rfl;apply rfl)|(apply T.eql;(iterate 3 apply rfl))|(with_reducible first|refine Sr.nil ?_|refine S.seq ?_|refine S.block ?_|refine S.reg ?_)|(apply S.condQ;apply rfl;all_goals (intro _;try (exfalso;first|omega|with_reducible contradiction)))|(with_reducible apply T.ofRet)|fail)
   refine T.call rfl rfl hc ?_
   cases hz:Z1M t q with
   | no c =>
    rintro _ _ ⟨_,a',b,⟨s,rfl⟩,k1,rfl,rfl⟩
    repeat' (first|((first|apply T.mv|apply T.asn);apply rfl;apply rfl)|(with_reducible first|refine Sr.nil ?_|refine S.seq ?_|refine S.reg ?_)|(apply T.retW;apply rfl)|(with_reducible apply T.ofRet)|fail)
    exact ⟨_,PSub.refl _,_,a',b,⟨_,_,rfl⟩,k1,rfl,rfl⟩
   | to r =>
    rintro _ _ ⟨_,⟨s,rfl⟩,rfl,rfl⟩
    repeat' (first|((first|apply T.mv|apply T.asn);apply rfl;apply rfl)|(with_reducible first|refine Sr.nil ?_|refine S.seq ?_|refine S.reg ?_)|(apply T.retW;apply rfl)|(with_reducible apply T.ofRet)|fail)
    exact ⟨_,PSub.refl _,_,⟨_,_,rfl⟩,rfl,rfl⟩
  ·rw [if_neg h2]
   have h34:¬(t.getD q 0).toNat=34:=fun h=>h2 (u8_nat.2 h)
   repeat' (first|(apply T.sidx;apply rfl;apply rfl;omega;apply rfl)|((first|apply T.mv|apply T.asn|apply T.nilCheck|apply T.fieldAddrZ);apply rfl;apply rfl)|(apply T.load;apply rfl;apply rfl;infer_instance;apply rfl;apply rfl)|(apply T.notB;apply rfl;apply rfl)|(with_reducible first|refine Sr.nil ?_|refine S.seq ?_|refine S.reg ?_|refine S.skip ?_)|(apply S.quiet;apply rfl;kernel_rfl)|(apply S.condFV;apply rfl;(first|with_reducible rfl|decide))|(with_reducible apply T.ofRet)|fail)
   refine T.call rfl rfl (ZA hle hl) ?_
   rintro _ _ ⟨rfl,rfl⟩
   cases only with
   | true =>
    rw [if_pos rfl]
    repeat' (first|((first|apply T.mv|apply T.asn|apply T.nilCheck|apply T.fieldAddrZ);apply rfl;apply rfl)|(apply T.load;apply rfl;apply rfl;infer_instance;apply rfl;apply rfl)|(apply T.eql;(iterate 3 apply rfl))|(with_reducible first|refine Sr.nil ?_|refine S.seq ?_|refine S.block ?_|refine S.reg ?_|refine S.skip ?_|refine S.inBlock ?_)|(apply S.condTV;apply rfl;(first|with_reducible rfl|decide))|(apply S.condQ;apply rfl;all_goals (intro _;try (exfalso;first|omega|with_reducible contradiction)))|(with_reducible apply T.ofRet)|fail)
    refine T.call rfl rfl Z8 ?_
    rintro _ _ ⟨rfl,rfl⟩
    repeat' (first|(apply T.asn;apply rfl;apply rfl)|(with_reducible first|refine Sr.nil ?_|refine S.seq ?_|refine S.reg ?_)|(apply T.retW;apply rfl)|(with_reducible apply T.ofRet)|fail)
    exact ⟨_,PSub.refl _,_,q,q,⟨_,[],rfl⟩,by omega,rfl,rfl⟩
   | false =>
    rw [if_neg (show ¬false=true from (by decide))]
    repeat' (first|((first|apply T.mv|apply T.asn);apply rfl;apply rfl)|(apply T.eql;(iterate 3 apply rfl))|(with_reducible first|refine Sr.nil ?_|refine S.seq ?_|refine S.block ?_|refine S.reg ?_)|(apply S.condFV;apply rfl;(first|with_reducible rfl|decide))|(apply S.condQ;apply rfl;all_goals (intro _;try (exfalso;first|omega|with_reducible contradiction)))|(with_reducible apply T.ofRet)|fail)
    refine T.call rfl rfl (Zm (c:=t.getD q 0)) ?_
    rintro _ _ ⟨rfl,rfl⟩
    by_cases h3:Za (t.getD q 0)=true∨(t.getD q 0).toNat=45
    ·rw [if_pos h3]
     have hc:=Z3D (F:=F) (M:=M) (H:=H) (p:=p) (o:=o) (oa:=oa) (n:=n) (oc:=oc) hle hl
     generalize hZ:(if (numP (sl t q (runE numC t q))).isSome=true then Rz.to (runE numC t q) else Rz.no 180)=Z at *
     cases hd:Za (t.getD q 0) with
     | true =>
      repeat' (first|((first|apply T.mv|apply T.asn);apply rfl;apply rfl)|(apply T.pickT;(iterate 3 apply rfl))|(with_reducible first|refine Sr.nil ?_|refine S.seq ?_|refine S.reg ?_)|(apply T.skip;apply rfl;(first|with_reducible rfl|decide);apply rfl)|(apply S.condTV;apply rfl;(first|with_reducible rfl|decide))|(with_reducible apply T.ofRet)|fail)
      refine T.call rfl rfl hc ?_
      cases Z with
      | no c =>
       rintro _ _ ⟨_,a',b,⟨s,rfl⟩,k1,rfl,rfl⟩
       repeat' (first|((first|apply T.mv|apply T.asn);apply rfl;apply rfl)|(with_reducible first|refine Sr.nil ?_|refine S.seq ?_|refine S.reg ?_)|(apply T.retW;apply rfl)|(with_reducible apply T.ofRet)|fail)
       exact ⟨_,PSub.refl _,_,a',b,⟨_,_,rfl⟩,k1,rfl,rfl⟩
      | to r =>
       rintro _ _ ⟨_,⟨s,rfl⟩,rfl,rfl⟩
       repeat' (first|((first|apply T.mv|apply T.asn);apply rfl;apply rfl)|(with_reducible first|refine Sr.nil ?_|refine S.seq ?_|refine S.reg ?_)|(apply T.retW;apply rfl)|(with_reducible apply T.ofRet)|fail)
       exact ⟨_,PSub.refl _,_,⟨_,_,rfl⟩,rfl,rfl⟩
     | false =>
      have h45:=h3.resolve_left (by rw [hd];simp)
      repeat' (first|((first|apply T.mv|apply T.asn);apply rfl;apply rfl)|(apply T.eql;(iterate 3 apply rfl))|(apply T.pickF;(iterate 3 apply rfl))|(with_reducible first|refine Sr.nil ?_|refine S.seq ?_|refine S.reg ?_)|(apply T.ungV;apply rfl;(first|with_reducible rfl|decide))|(apply S.condQ;apply rfl;all_goals (intro _;try (exfalso;first|omega|with_reducible contradiction)))|(with_reducible apply T.ofRet)|fail)
      refine T.call rfl rfl hc ?_
      cases Z with
      | no c =>
       rintro _ _ ⟨_,a',b,⟨s,rfl⟩,k1,rfl,rfl⟩
       repeat' (first|((first|apply T.mv|apply T.asn);apply rfl;apply rfl)|(with_reducible first|refine Sr.nil ?_|refine S.seq ?_|refine S.reg ?_)|(apply T.retW;apply rfl)|(with_reducible apply T.ofRet)|fail)
       exact ⟨_,PSub.refl _,_,a',b,⟨_,_,rfl⟩,k1,rfl,rfl⟩
      | to r =>
       rintro _ _ ⟨_,⟨s,rfl⟩,rfl,rfl⟩
       repeat' (first|((first|apply T.mv|apply T.asn);apply rfl;apply rfl)|(with_reducible first|refine Sr.nil ?_|refine S.seq ?_|refine S.reg ?_)|(apply T.retW;apply rfl)|(with_reducible apply T.ofRet)|fail)
       exact ⟨_,PSub.refl _,_,⟨_,_,rfl⟩,rfl,rfl⟩
    ·rw [if_neg h3]
     have hd:Za (t.getD q 0)=false:=by simpa using fun h=>h3 (.inl h)
     have h45:¬(t.getD q 0).toNat=45:=fun h=>h3 (.inr h)
     have hw:=@Zu t q
     rw [hd]
     by_cases e1:wdX t q=kTrue
     ·rw [if_pos e1,e1]
      have hb:=hw (by decide) e1
      have hkl:kTrue.length=4:=rfl
      repeat' (first|(apply T.seql;(iterate 3 apply rfl))|((first|apply T.mv|apply T.asn|apply T.nilCheck|apply T.fieldAddrZ);apply rfl;apply rfl)|(apply T.load;apply rfl;apply rfl;infer_instance;apply rfl;apply rfl)|(apply T.eql;(iterate 3 apply rfl))|(apply T.addI;apply rfl;apply rfl;omega;apply rfl)|(apply T.pickF;(iterate 3 apply rfl))|(apply T.store;apply rfl;apply rfl;infer_instance;(first|decide|(simp;omega)|simp);apply rfl)|(with_reducible first|refine Sr.nil ?_|refine S.seq ?_|refine S.reg ?_)|(apply T.ungV;apply rfl;(first|with_reducible rfl|decide))|(apply S.condTV;apply rfl;(first|with_reducible rfl|decide))|(apply S.condQ;apply rfl;all_goals (intro _;try (exfalso;first|omega|with_reducible contradiction)))|(apply T.retW;apply rfl)|(with_reducible apply T.ofRet)|fail)
      exact ⟨_,PSub.refl _,_,⟨_,[],rfl⟩,rfl,rfl⟩
     ·rw [if_neg e1]
      by_cases e2:wdX t q=kFalse
      ·rw [if_pos e2,e2]
       have hb:=hw (by decide) e2
       have hkl:kFalse.length=5:=rfl
       repeat' (first|(apply T.seql;(iterate 3 apply rfl))|((first|apply T.mv|apply T.asn|apply T.nilCheck|apply T.fieldAddrZ);apply rfl;apply rfl)|(apply T.load;apply rfl;apply rfl;infer_instance;apply rfl;apply rfl)|(apply T.eql;(iterate 3 apply rfl))|(apply T.addI;apply rfl;apply rfl;omega;apply rfl)|(apply T.pickF;(iterate 3 apply rfl))|(apply T.store;apply rfl;apply rfl;infer_instance;(first|decide|(simp;omega)|simp);apply rfl)|(with_reducible first|refine Sr.nil ?_|refine S.seq ?_|refine S.reg ?_)|(apply T.ungV;apply rfl;(first|with_reducible rfl|decide))|(apply S.condTV;apply rfl;(first|with_reducible rfl|decide))|(apply S.condFV;apply rfl;(first|with_reducible rfl|decide))|(apply S.condQ;apply rfl;all_goals (intro _;try (exfalso;first|omega|with_reducible contradiction)))|(apply T.retW;apply rfl)|(with_reducible apply T.ofRet)|fail)
       exact ⟨_,PSub.refl _,_,⟨_,[],rfl⟩,rfl,rfl⟩
      ·rw [if_neg e2]
       by_cases e3:wdX t q=kNull
       ·rw [if_pos e3,e3]
        have hb:=hw (by decide) e3
        have hkl:kNull.length=4:=rfl
        repeat' (first|(apply T.seql;(iterate 3 apply rfl))|((first|apply T.mv|apply T.asn|apply T.nilCheck|apply T.fieldAddrZ);apply rfl;apply rfl)|(apply T.load;apply rfl;apply rfl;infer_instance;apply rfl;apply rfl)|(apply T.eql;(iterate 3 apply rfl))|(apply T.addI;apply rfl;apply rfl;omega;apply rfl)|(apply T.pickF;(iterate 3 apply rfl))|(apply T.store;apply rfl;apply rfl;infer_instance;(first|decide|(simp;omega)|simp);apply rfl)|(with_reducible first|refine Sr.nil ?_|refine S.seq ?_|refine S.reg ?_)|(apply T.ungV;apply rfl;(first|with_reducible rfl|decide))|(apply S.condTV;apply rfl;(first|with_reducible rfl|decide))|(apply S.condFV;apply rfl;(first|with_reducible rfl|decide))|(apply S.condQ;apply rfl;all_goals (intro _;try (exfalso;first|omega|with_reducible contradiction)))|(apply T.retW;apply rfl)|(with_reducible apply T.ofRet)|fail)
        exact ⟨_,PSub.refl _,_,⟨_,[],rfl⟩,rfl,rfl⟩
       ·rw [if_neg e3]
        have f1:¬wdX t q=[116,114,117,101]:=e1
        have f2:¬wdX t q=[102,97,108,115,101]:=e2
        have f3:¬wdX t q=[110,117,108,108]:=e3
        repeat' (first|(apply T.seql;(iterate 3 apply rfl))|((first|apply T.mv|apply T.asn|apply T.nilCheck|apply T.fieldAddrZ);apply rfl;apply rfl)|(apply T.load;apply rfl;apply rfl;infer_instance;apply rfl;apply rfl)|(apply T.eql;(iterate 3 apply rfl))|(apply T.pickF;(iterate 3 apply rfl))|(with_reducible first|refine Sr.nil ?_|refine S.seq ?_|refine S.reg ?_|refine S.skip ?_|refine S.inBlock ?_)|(apply T.ungV;apply rfl;(first|with_reducible rfl|decide))|(apply S.condQ;apply rfl;all_goals (intro _;try (exfalso;first|omega|with_reducible contradiction)))|(with_reducible apply T.ofRet)|fail)
        refine T.call rfl rfl Z8 ?_
        rintro _ _ ⟨rfl,rfl⟩
        repeat' (first|(apply T.asn;apply rfl;apply rfl)|(with_reducible first|refine Sr.nil ?_|refine S.seq ?_|refine S.reg ?_)|(apply T.retW;apply rfl)|(with_reducible apply T.ofRet)|fail)
        exact ⟨_,PSub.refl _,_,q,q,⟨_,[],rfl⟩,by omega,rfl,rfl⟩
 ·rw [if_neg h1,decide_eq_false h1]
  repeat' (first|((first|apply T.mv|apply T.asn|apply T.nilCheck|apply T.fieldAddrZ);apply rfl;apply rfl)|(apply T.load;apply rfl;apply rfl;infer_instance;apply rfl;apply rfl)|(apply T.notB;apply rfl;apply rfl)|(with_reducible first|refine Sr.nil ?_|refine S.seq ?_|refine S.reg ?_)|(apply S.condTV;apply rfl;(first|with_reducible rfl|decide))|(with_reducible apply T.ofRet)|fail)
  refine T.call rfl rfl Z8 ?_
  rintro _ _ ⟨rfl,rfl⟩
  repeat' (first|(apply T.asn;apply rfl;apply rfl)|(with_reducible first|refine Sr.nil ?_|refine S.seq ?_|refine S.reg ?_)|(apply T.retW;apply rfl)|(with_reducible apply T.ofRet)|fail)
  exact ⟨_,PSub.refl _,_,q,q,⟨_,[],rfl⟩,by omega,rfl,rfl⟩
abbrev rdT (p:Nat) (t:List UInt8) (a:Nat) (oa:Option Addr) (oc:Nat) (ns:List Rnd) (o er bd:Int) (H:List Res):List Res:=rdR p t a oa ns.length oc o er bd (.row oa oc 95 6 ns.length (ns.flatMap Sg.rnV)::H)
theorem Z0i {ns:List Rnd} {nd:Rnd} (hn:ns.length≤100000) :
  Meets Tryz.prog 59 [.pointer (some ⟨p,0,none⟩),.agg ⟨Sg.rnV nd⟩] F M (rdT p t a oa oc ns o er bd H) (fun e H'=>∃ oa' oc',e=.returned (.int .i64 (ns.length:Nat))∧H'=rdT p t a oa' oc' (ns++[nd]) o er bd H):=by
 refine Meets.enter Tryz.func59 rfl rfl ?_
 have hL:(ns++[nd]).length=ns.length+1:=by rw [List.length_append];rfl
 unfold rdT
 rw [hL]
 repeat' (first|(apply T.asn;apply rfl;apply rfl)|(apply T.box;apply rfl;apply rfl;intro nb)|(with_reducible first|refine Sr.nil ?_|refine S.seq ?_|refine S.reg ?_)|fail)
 (apply S.drawL;(case Hs=>exact [.blk nb (Sg.rnV nd) 95,.blk p (rdV t a oa ns.length oc o er bd) 79]);(case es=>exact  [6,7,10]);(case lt=>exact  [10]);(case n=>exact  11);(case hn=>rfl))
 repeat' (first|(refine T.appendF (g:=Sg.rnV) nd rfl rfl rfl inferInstance (fun _=>rfl) rfl rfl rfl (by constructor<;>omega) rfl ?_;intro oa' oc')|((first|apply T.mv|apply T.asn|apply T.len|apply T.nilCheck|apply T.fieldAddrZ);apply rfl;apply rfl)|(apply T.load;apply rfl;apply rfl;infer_instance;apply rfl;apply rfl)|(apply T.subI;apply rfl;apply rfl;omega;apply rfl)|(apply T.loadW;apply rfl;apply rfl;infer_instance;(first|rfl|(simp only [List.length_append,List.length_map,List.length_set,List.length_replicate,List.length_cons,List.length_nil];first|done|omega));apply rfl)|(apply T.store;apply rfl;apply rfl;infer_instance;(first|decide|(simp;omega)|simp);apply rfl)|(apply T.bsL;(iterate 5 apply rfl);intro nb)|(with_reducible first|refine Sr.nil ?_|refine S.seq ?_|refine S.reg ?_)|(apply T.retW;apply rfl)|(apply SA.qn;(iterate 4 apply rfl);kernel_rfl)|(apply SA.qz;(iterate 4 apply rfl);kernel_rfl)|(apply SA.qsn;(iterate 3 apply rfl);kernel_rfl;(first|exact fun _ h=>h|exact fun _ h=>St.psub h (by ((repeat (first|dsimp only [List.set_cons_zero]|dsimp only [List.set_cons_succ]));repeat' first|exact PSub.refl _|exact PSub.nil|(with_reducible apply PSub.app)|(apply PSub.take;(repeat' first|(with_reducible exact Z0)|(with_reducible apply Z1)))|(with_reducible apply PSub.drop)|((apply PSub.take);(repeat' first|exact Z0|(apply Z1)))))))|(apply SA.en;apply rfl;apply rfl;kernel_rfl)|(apply SA.done;apply rfl;kernel_rfl)|(apply SK.late;decide)|(apply SK.intro;(first|exact fun _ h=>h|exact fun _ h=>St.psub h (by ((repeat (first|dsimp only [List.set_cons_zero]|dsimp only [List.set_cons_succ]));repeat' first|exact PSub.refl _|exact PSub.nil|(with_reducible apply PSub.app)|(apply PSub.take;(repeat' first|(with_reducible exact Z0)|(with_reducible apply Z1)))|(with_reducible apply PSub.drop)|((apply PSub.take);(repeat' first|exact Z0|(apply Z1)))))))|fail)
 have h1:(((ns.length+1:Nat):Int)) - 1=(ns.length:Nat):=by omega
 skip
 exact ⟨_,PSub.drop (PSub.refl _),oa',oc',by rw [h1],rfl⟩
theorem Z22 {b:Nat} (hd:o=32 - (k:Int)) (hk:k≤32) (ha:a+b≤100000) :
  Meets Tryz.prog 68 [.pointer (some ⟨p,0,none⟩),.int .i64 b] F M (rdR p t a oa n oc o 0 0 H) (fun e H'=>match k with
   | 0=>e=.returned (.bool false)∧H'=rdR p t a oa n oc o 11 a H
   | j+1=>e=.returned (.bool true)∧H'=rdR p t (a+b) oa n oc (32 - (j:Int)) 0 0 H):=by
 refine Meets.enter Tryz.func68 rfl rfl ?_
 subst hd
 cases k with
 | zero =>
  repeat' (first|((first|apply T.mv|apply T.asn|apply T.nilCheck|apply T.fieldAddrZ);apply rfl;apply rfl)|(apply T.load;apply rfl;apply rfl;infer_instance;apply rfl;apply rfl)|(apply T.eql;(iterate 3 apply rfl))|(with_reducible first|refine Sr.nil ?_|refine S.seq ?_|refine S.reg ?_)|(apply S.condTV;apply rfl;(first|with_reducible rfl|decide))|fail)
  refine T.call rfl rfl Z8 ?_
  rintro _ _ ⟨rfl,rfl⟩
  repeat' (first|(apply T.asn;apply rfl;apply rfl)|(with_reducible first|refine Sr.nil ?_|refine S.seq ?_|refine S.reg ?_)|(apply T.retW;apply rfl)|(with_reducible apply T.ofRet)|fail)
  exact ⟨_,PSub.refl _,rfl,rfl⟩
 | succ j =>
  have h1:(32:Int) - ((j+1:Nat):Int)+1=32 - (j:Int):=by omega
  repeat' (first|(apply T.addI;apply rfl;apply rfl;omega;apply rfl;rw [h1])|((first|apply T.mv|apply T.asn|apply T.nilCheck|apply T.fieldAddrZ);apply rfl;apply rfl)|(apply T.load;apply rfl;apply rfl;infer_instance;apply rfl;apply rfl)|(apply T.eql;(iterate 3 apply rfl))|(apply T.addI;apply rfl;apply rfl;omega;apply rfl)|(apply T.store;apply rfl;apply rfl;infer_instance;(first|decide|(simp;omega)|simp);apply rfl)|(with_reducible first|refine Sr.nil ?_|refine S.seq ?_|refine S.reg ?_|refine S.skip ?_)|(apply S.condQ;apply rfl;all_goals (intro _;try (exfalso;first|omega|with_reducible contradiction)))|(apply T.retW;apply rfl)|fail)
  exact ⟨_,PSub.refl _,rfl,rfl⟩
end
end Go.Proofs.YthomgjihagigcaaGreatDoor
