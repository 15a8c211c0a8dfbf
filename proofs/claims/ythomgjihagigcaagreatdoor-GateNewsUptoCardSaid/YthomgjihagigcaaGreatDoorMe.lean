/- Texts put together by a program: DecC JsnG Row JsnH JsnI JsnJ JsnL MapE JsnN. -/
import Derived.Test.YthomgjihagigcaaGreatDoorMd
import Derived.Test.YthomgjihagigcaaGreatDoorMore
import Derived.Test.YthomgjihagigcaaGreatDoorMa
/- The walks of the program's numbers: whole ones, valid ones. -/
namespace Go.Proofs.YthomgjihagigcaaGreatDoor
open Sg Go.IntWalk
set_option maxRecDepth 100000
set_option maxHeartbeats 2000000
section
variable {F:World} {M:List Nat} {H:List Res}
theorem Z26 {t:List UInt8} {mi pl:Bool} {w:List UInt8} (h:numP t=some (mi,w,pl)):(∀ j,j < w.length→48≤bAt w j∧bAt w j≤57)∧w.length≤t.length:=by
 have h1:w=(cutP 45 t).1.take (runD (cutP 45 t).1):=by
  unfold numP at h
  split at h
  ·cases h
  ·split at h
   ·cases h
   ·split at h
    ·cases h
    ·split at h
     ·simp only [Option.some.injEq,Prod.mk.injEq] at h
      exact h.2.1.symm
     ·cases h
 have h2:=Z1y (cutP 45 t).1
 have h3:=Z3r 45 t
 subst h1
 refine ⟨fun j hj=>?_,by rw [List.length_take];omega⟩
 rw [List.length_take] at hj
 have h4:bAt ((cutP 45 t).1.take (runD (cutP 45 t).1)) j=bAt (cutP 45 t).1 j:=by
  unfold bAt
  simp only [List.getD]
  rw [List.getElem?_take_of_lt (by omega)]
 rw [h4]
 exact Z2E (by omega)
theorem Z5x {t:List UInt8} (hl:t.length≤2200000):Meets Tryz.prog 77 [sV t] F M H (fun e H'=>e=.returned (.bool (numP t).isSome)∧H'=H):=by
 refine Meets.enter Tryz.func77 rfl rfl ?_
 repeat' (first|((first|apply T.mv|apply T.asn);apply rfl;apply rfl)|(with_reducible first|refine Sr.nil ?_|refine S.seq ?_|refine S.reg ?_)|fail)
 refine T.call rfl rfl (Z3K hl) ?_
 rintro _ _ ⟨mi,w,d,pt,pl,dn,ex,rfl,hH,hx⟩
 have hH2:=hH.symm
 subst hH2
 repeat' (first|((first|apply T.mv|apply T.asn);apply rfl;apply rfl)|(apply T.extract;(iterate 3 apply rfl))|(apply T.storeW;apply rfl;apply rfl;infer_instance;(first|rfl|(simp only [List.length_append,List.length_map,List.length_set,List.length_replicate,List.length_cons,List.length_nil];first|done|omega));(first|rfl|(simp only [List.length_append,List.length_map,List.length_set,List.length_replicate,List.length_cons,List.length_nil];first|done|omega));(first|rfl|(repeat' first|apply all_nV|apply all_bV|apply all_iV|rfl|apply all_app)))|(apply T.alloc;apply rfl;intro nb)|(with_reducible first|refine Sr.nil ?_|refine S.seq ?_|refine S.reg ?_)|(apply T.retW;apply rfl)|(with_reducible apply T.ofRet)|fail)
 exact ⟨_,PSub.drop (PSub.refl _),rfl,rfl⟩
theorem Z5v {t:List UInt8} (hl:t.length≤2200000):Meets Tryz.prog 140 [sV t] F M H (fun e H'=>e=.returned (.tuple ⟨[.int .i64 (Z9 t).1,.bool (Z9 t).2]⟩)∧H'=H):=by
 refine Meets.enter Tryz.func140 rfl rfl ?_
 repeat' (first|((first|apply T.mv|apply T.asn);apply rfl;apply rfl)|(with_reducible first|refine Sr.nil ?_|refine S.seq ?_|refine S.reg ?_)|fail)
 refine T.call rfl rfl (Z3K hl) ?_
 rintro _ _ ⟨mi,w,d,pt,pl,dn,ex,rfl,hH,hx⟩
 have hH2:=hH.symm
 subst hH2
 unfold Z9
 cases hn:numP t with
 | none =>
  repeat' (first|((first|apply T.mv|apply T.asn);apply rfl;apply rfl)|(apply T.extract;(iterate 3 apply rfl))|(apply T.notB;apply rfl;apply rfl)|(apply T.pickT;(iterate 3 apply rfl))|(apply T.storeW;apply rfl;apply rfl;infer_instance;(first|rfl|(simp only [List.length_append,List.length_map,List.length_set,List.length_replicate,List.length_cons,List.length_nil];first|done|omega));(first|rfl|(simp only [List.length_append,List.length_map,List.length_set,List.length_replicate,List.length_cons,List.length_nil];first|done|omega));(first|rfl|(repeat' first|apply all_nV|apply all_bV|apply all_iV|rfl|apply all_app)))|(apply T.alloc;apply rfl;intro nb)|(with_reducible first|refine Sr.nil ?_|refine S.seq ?_|refine S.reg ?_)|(apply T.skip;apply rfl;(first|with_reducible rfl|decide);apply rfl)|(apply S.condTV;apply rfl;(first|with_reducible rfl|decide))|(apply T.retW;apply rfl)|(with_reducible apply T.ofRet)|fail)
  exact ⟨_,PSub.drop (PSub.refl _),rfl,rfl⟩
 | some x =>
  obtain rfl:=hx x hn
  obtain ⟨hd,hw⟩:=Z26 hn
  cases pl with
  | false =>
   repeat' (first|((first|apply T.mv|apply T.asn|apply T.fieldAddrZ);apply rfl;apply rfl)|(apply T.load;apply rfl;apply rfl;infer_instance;apply rfl;apply rfl)|(apply T.extract;(iterate 3 apply rfl))|(apply T.notB;apply rfl;apply rfl)|(apply T.pickF;(iterate 3 apply rfl))|(apply T.storeW;apply rfl;apply rfl;infer_instance;(first|rfl|(simp only [List.length_append,List.length_map,List.length_set,List.length_replicate,List.length_cons,List.length_nil];first|done|omega));(first|rfl|(simp only [List.length_append,List.length_map,List.length_set,List.length_replicate,List.length_cons,List.length_nil];first|done|omega));(first|rfl|(repeat' first|apply all_nV|apply all_bV|apply all_iV|rfl|apply all_app)))|(apply T.alloc;apply rfl;intro nb)|(with_reducible first|refine Sr.nil ?_|refine S.seq ?_|refine S.reg ?_)|(apply S.condTV;apply rfl;(first|with_reducible rfl|decide))|(apply T.retW;apply rfl)|(with_reducible apply T.ofRet)|(apply T.ung;apply rfl)|fail)
   exact ⟨_,PSub.drop (PSub.refl _),rfl,rfl⟩
  | true =>
   simp only
   repeat' (first|((first|apply T.slen|apply T.mv|apply T.asn|apply T.fieldAddrZ);apply rfl;apply rfl)|(apply T.load;apply rfl;apply rfl;infer_instance;apply rfl;apply rfl)|(apply T.extract;(iterate 3 apply rfl))|(apply T.notB;apply rfl;apply rfl)|(apply T.pickF;(iterate 3 apply rfl))|(apply T.storeW;apply rfl;apply rfl;infer_instance;(first|rfl|(simp only [List.length_append,List.length_map,List.length_set,List.length_replicate,List.length_cons,List.length_nil];first|done|omega));(first|rfl|(simp only [List.length_append,List.length_map,List.length_set,List.length_replicate,List.length_cons,List.length_nil];first|done|omega));(first|rfl|(repeat' first|apply all_nV|apply all_bV|apply all_iV|rfl|apply all_app)))|(apply T.alloc;apply rfl;intro nb)|(with_reducible first|refine Sr.nil ?_|refine S.seq ?_|refine S.block ?_|refine S.reg ?_|refine S.skip ?_)|(apply S.condFV;apply rfl;(first|with_reducible rfl|decide))|(with_reducible apply T.ofRet)|(apply T.ung;apply rfl)|fail)
   refine S.loopE 1 [0,4,5,23] (fun R b' μ H' e=>∃ i:Nat,H'=.blk nb (numV mi w d pt true dn ex) 126::R∧e=(6,.int .u64 (decV (w.take i):Nat))::(24,.int .i64 i)::b'∧(i≤w.length∧decV (w.take i)≤9223372036854775808)∧μ=w.length - i) rfl rfl ?_ _ _ ⟨0,rfl,rfl,⟨Nat.zero_le _,by simp [decV]⟩,rfl⟩ (by repeat' first|exact trivial|refine And.intro rfl ?_)
   rintro _ _ _ ⟨i,rfl,rfl,⟨h1,h2⟩,rfl⟩ ih
   by_cases h3:i < w.length
   ·have hdi:=hd i h3
    have hb:(w.getD i 0).toNat=bAt w i:=rfl
    have hstep:decV (w.take (i+1))=10*decV (w.take i)+(bAt w i - 48):=by
     have hg:w[i]=w.getD i 0:=by simp [List.getD,h3]
     rw [List.take_succ_eq_append_getElem h3,Z2n,hg,hb]
    have hmono:=Z46 (l:=w) (i:=i+1) (by omega)
    by_cases h4:decV (w.take (i+1))≤9223372036854775808
    ·have e9:(10*decV (w.take i)+((w.getD i 0).toNat - 48):Nat)=decV (w.take (i+1)):=by rw [hstep,hb]
     repeat' (first|((with_reducible apply T.subU8N (n:=48));apply rfl;apply rfl;omega;apply rfl)|(refine T.subU64N (m:=9223372036854775808) rfl rfl (by omega) rfl ?_)|(refine T.quoU64 10 rfl rfl (by omega) rfl ?_)|(refine T.mulU64N (m:=10) rfl rfl (by omega) rfl ?_)|(refine T.addU64N rfl rfl (by omega) rfl ?_;rw [e9])|(apply T.sidx;apply rfl;apply rfl;omega;apply rfl)|((first|apply T.mv|apply T.asn|apply T.fieldAddrZ);apply rfl;apply rfl)|(apply T.load;apply rfl;apply rfl;infer_instance;apply rfl;apply rfl)|((first|apply T.lss|apply T.gtr);(iterate 3 apply rfl))|(apply T.addI;apply rfl;apply rfl;omega;apply rfl)|(apply T.convU64;apply rfl;omega;apply rfl)|(with_reducible first|refine Sr.nil ?_|refine S.seq ?_|refine S.block ?_|refine S.reg ?_|refine S.skip ?_|refine S.inBlock ?_)|(apply S.condQ;apply rfl;all_goals (intro _;try (exfalso;first|omega|with_reducible contradiction)))|fail)
     exact ih _ _ _ _ ⟨i+1,rfl,rfl,⟨by omega,h4⟩,rfl⟩ (by omega) (by repeat' first|exact trivial|refine And.intro rfl ?_)
    ·have hv:whole64 mi (decV w)=(0,false):=by
      unfold whole64
      cases mi
      ·rw [if_neg (by simp),if_neg (by omega)]
      ·rw [if_pos rfl,if_neg (by omega)]
     rw [hv]
     repeat' (first|((with_reducible apply T.subU8N (n:=48));apply rfl;apply rfl;omega;apply rfl)|(refine T.subU64N (m:=9223372036854775808) rfl rfl (by omega) rfl ?_)|(refine T.quoU64 10 rfl rfl (by omega) rfl ?_)|(apply T.sidx;apply rfl;apply rfl;omega;apply rfl)|((first|apply T.mv|apply T.asn|apply T.fieldAddrZ);apply rfl;apply rfl)|(apply T.load;apply rfl;apply rfl;infer_instance;apply rfl;apply rfl)|((first|apply T.lss|apply T.gtr);(iterate 3 apply rfl))|(apply T.convU64;apply rfl;omega;apply rfl)|(with_reducible first|refine Sr.nil ?_|refine S.seq ?_|refine S.block ?_|refine S.reg ?_|refine S.skip ?_)|(apply S.condQ;apply rfl;all_goals (intro _;try (exfalso;first|omega|with_reducible contradiction)))|(apply T.retW;apply rfl)|fail)
     exact ⟨_,PSub.drop (PSub.refl _),rfl,rfl⟩
   ·obtain rfl:i=w.length:=by omega
    rw [List.take_length] at h2 ⊢
    unfold whole64
    cases mi with
    | true =>
     rw [if_pos rfl,if_pos h2]
     repeat' (first|(apply T.negU64;apply rfl;apply rfl)|(refine T.convNeg rfl h2 rfl ?_)|((first|apply T.mv|apply T.asn|apply T.fieldAddrZ);apply rfl;apply rfl)|(apply T.load;apply rfl;apply rfl;infer_instance;apply rfl;apply rfl)|(apply T.lss;(iterate 3 apply rfl))|(apply T.notB;apply rfl;apply rfl)|(apply T.pickF;(iterate 3 apply rfl))|(with_reducible first|refine Sr.nil ?_|refine S.seq ?_|refine S.reg ?_|refine S.skip ?_)|(apply S.exit;apply rfl)|(apply T.skip;apply rfl;(first|with_reducible rfl|decide);apply rfl)|(apply S.condTV;apply rfl;(first|with_reducible rfl|decide))|(apply S.condFV;apply rfl;(first|with_reducible rfl|decide))|(apply S.condQ;apply rfl;all_goals (intro _;try (exfalso;first|omega|with_reducible contradiction)))|(apply T.retW;apply rfl)|fail)
     exact ⟨_,PSub.drop (PSub.refl _),rfl,rfl⟩
    | false =>
     rw [if_neg (by simp)]
     by_cases h5:decV w < 9223372036854775808
     ·rw [if_pos h5]
      repeat' (first|((first|apply T.mv|apply T.asn|apply T.fieldAddrZ);apply rfl;apply rfl)|(apply T.load;apply rfl;apply rfl;infer_instance;apply rfl;apply rfl)|((first|apply T.lss|apply T.eql);(iterate 3 apply rfl))|(apply T.notB;apply rfl;apply rfl)|(apply T.pickT;(iterate 3 apply rfl))|(apply T.convI64;apply rfl;omega;apply rfl)|(with_reducible first|refine Sr.nil ?_|refine S.seq ?_|refine S.reg ?_|refine S.skip ?_)|(apply S.exit;apply rfl)|(apply T.ungV;apply rfl;(first|with_reducible rfl|decide))|(apply S.condFV;apply rfl;(first|with_reducible rfl|decide))|(apply S.condQ;apply rfl;all_goals (intro _;try (exfalso;first|omega|with_reducible contradiction)))|(apply T.retW;apply rfl)|fail)
      exact ⟨_,PSub.drop (PSub.refl _),rfl,rfl⟩
     ·rw [if_neg h5]
      repeat' (first|((first|apply T.mv|apply T.asn|apply T.fieldAddrZ);apply rfl;apply rfl)|(apply T.load;apply rfl;apply rfl;infer_instance;apply rfl;apply rfl)|((first|apply T.lss|apply T.eql);(iterate 3 apply rfl))|(apply T.notB;apply rfl;apply rfl)|(apply T.pickT;(iterate 3 apply rfl))|(with_reducible first|refine Sr.nil ?_|refine S.seq ?_|refine S.reg ?_)|(apply S.exit;apply rfl)|(apply T.ungV;apply rfl;(first|with_reducible rfl|decide))|(apply S.condQ;apply rfl;all_goals (intro _;try (exfalso;first|omega|with_reducible contradiction)))|(apply T.retW;apply rfl)|fail)
      exact ⟨_,PSub.drop (PSub.refl _),rfl,rfl⟩
end
end Go.Proofs.YthomgjihagigcaaGreatDoor
/- The walks of the program's reader of JSON: nodes put down, lists and objects opened and closed. -/
namespace Go.Proofs.YthomgjihagigcaaGreatDoor
open Sg Go.IntWalk
set_option maxRecDepth 100000
set_option maxHeartbeats 4000000
instance:Inhabited Nd:=⟨nd 0⟩
abbrev ndV (n:Nd):List Value:=[.int .i64 n.kind,sV n.key,sV n.text,.bool n.whole,.int .i64 n.int,.int .i64 n.kids]
def ZC (out:List Nd):List Nat→List Nd
 | []=>out
 | i::_=>out.modify i Nd.more
theorem Z6W (out:List Nd) (stk:List (Nat × Option (List (List UInt8)))):bump out stk=ZC out (stk.map (·.1)):=by
 cases stk<;>rfl
def upL {α:Type} (f:α→Value) (l:List α):List Value:=(l.map f).reverse
theorem Z4e {α:Type} (f:α→Value) (l:List α):(upL f l).length=l.length:=by simp [upL]
theorem Z4d {α:Type} (f:α→Value) (x:α) (r:List α):(upL f (x::r))[r.length]?=some (f x):=by simp [upL]
theorem Z1e {α:Type} (f:α→Value) (x:α) (r:List α):upL f (x::r)=upL f r++[f x]:=by simp [upL]
abbrev inV (n:Nat):Value:=.int .i64 (n:Int)
theorem Z2O {α:Type} [Inhabited α] (l:List α) (i:Nat) (f:α→α) (h:i < l.length):l.modify i f=l.set i (f (l.getD i default)):=by
 induction l generalizing i with
 | nil=>simp at h
 | cons a l ih =>
  cases i with
  | zero=>rfl
  | succ i =>
   simp only [List.modify_succ_cons,List.set_cons_succ,List.getD_cons_succ]
   rw [ih i (by simpa using h)]
section
variable {F:World} {M:List Nat} {H:List Res} {p:Nat} {t:List UInt8} {m:Value} {a s:Nat} {k:List UInt8} {c b:Int}
abbrev ouR (oa:Option Addr) (oc:Nat) (out:List Nd):Res:=.row oa oc 124 6 out.length (out.flatMap ndV)
abbrev opR (na:Option Addr) (nc:Nat) (is:List Nat):Res:=.row na nc 3 1 is.length (upL inV is)
theorem Z0w {o:Value} {na:Option Addr} {nc l:Nat}:Meets Tryz.prog 118 [.pointer (some ⟨p,0,none⟩)] F M (.blk p (jrV t o (.slice na l nc) m a s k c b) 136::H) (fun e H'=>e=.returned (.tuple ⟨[]⟩)∧H'=.blk p (jrV t o (.slice na l nc) m a (if l=0 then 6 else 5) k c b) 136::H):=by
 refine Meets.enter Tryz.func118 rfl rfl ?_
 by_cases h:l=0
 ·rw [if_pos h]
  repeat' (first|((first|apply T.mv|apply T.len|apply T.nilCheck|apply T.fieldAddrZ);apply rfl;apply rfl)|(apply T.load;apply rfl;apply rfl;infer_instance;apply rfl;apply rfl)|(apply T.eql;(iterate 3 apply rfl))|(apply T.store;apply rfl;apply rfl;infer_instance;(first|decide|(simp;omega)|simp);apply rfl)|(with_reducible first|refine Sr.nil ?_|refine S.seq ?_|refine S.reg ?_)|(apply S.condQ;apply rfl;all_goals (intro _;try (exfalso;first|omega|with_reducible contradiction)))|(apply T.doneW;apply rfl)|fail)
  exact ⟨_,PSub.refl _,rfl,rfl⟩
 ·rw [if_neg h]
  repeat' (first|((first|apply T.mv|apply T.len|apply T.nilCheck|apply T.fieldAddrZ);apply rfl;apply rfl)|(apply T.load;apply rfl;apply rfl;infer_instance;apply rfl;apply rfl)|(apply T.eql;(iterate 3 apply rfl))|(apply T.store;apply rfl;apply rfl;infer_instance;(first|decide|(simp;omega)|simp);apply rfl)|(with_reducible first|refine Sr.nil ?_|refine S.seq ?_|refine S.reg ?_|refine S.skip ?_)|(apply S.condQ;apply rfl;all_goals (intro _;try (exfalso;first|omega|with_reducible contradiction)))|(apply T.doneW;apply rfl)|fail)
  exact ⟨_,PSub.refl _,rfl,rfl⟩
theorem Z3k {oa na:Option Addr} {oc nc:Nat} {out:List Nd} {is:List Nat} {n:Nd} (hi:∀ i r,is=i::r→i < out.length) (hl:out.length≤1000000) (hs:is.length≤1000000) (hkid:∀ x∈out,0≤x.kids∧x.kids≤1000000) :
  Meets Tryz.prog 121 [.pointer (some ⟨p,0,none⟩),.agg ⟨ndV n⟩] F M (.blk p (jrV t (.slice oa out.length oc) (.slice na is.length nc) m a s k c b) 136::ouR oa oc out::opR na nc is::H)
   (fun e H'=>∃ oa' oc',e=.returned (.tuple ⟨[]⟩)∧H'=.blk p (jrV t (.slice oa' (ZC out is++[n.named k]).length oc') (.slice na is.length nc) m a s [] c b) 136::ouR oa' oc' (ZC out is++[n.named k])::opR na nc is::H):=by
 refine Meets.enter Tryz.func121 rfl rfl ?_
 cases is with
 | nil =>
  repeat' (first|((first|apply T.mv|apply T.len|apply T.nilCheck|apply T.fieldAddrZ);apply rfl;apply rfl)|(apply T.load;apply rfl;apply rfl;infer_instance;apply rfl;apply rfl)|(apply T.gtr;(iterate 3 apply rfl))|(apply T.store;apply rfl;apply rfl;infer_instance;(first|decide|(simp;omega)|simp);apply rfl)|(apply T.box;apply rfl;apply rfl;intro nb)|(with_reducible first|refine Sr.nil ?_|refine S.seq ?_|refine S.reg ?_|refine S.skip ?_)|(apply S.condFV;apply rfl;(first|with_reducible rfl|decide))|fail)
  (apply S.drawL;(case Hs=>exact [.blk nb ((ndV n).set 1 (sV k)) 124,.blk p ((jrV t (.slice oa out.length oc) (.slice na ([]:List Nat).length nc) m a s k c b).set 6 (.string ⟨#[]⟩)) 136]);(case es=>exact  [6,7,10]);(case lt=>exact  [10]);(case n=>exact  11);(case hn=>rfl))
  repeat' (first|(refine T.appendF (g:=ndV) (n.named k) rfl rfl rfl inferInstance (fun _=>rfl) rfl rfl rfl (by constructor<;>omega) rfl ?_;intro oa' oc')|((first|apply T.mv|apply T.nilCheck|apply T.fieldAddrZ);apply rfl;apply rfl)|(apply T.load;apply rfl;apply rfl;infer_instance;apply rfl;apply rfl)|(apply T.loadW;apply rfl;apply rfl;infer_instance;(first|rfl|(simp only [List.length_append,List.length_map,List.length_set,List.length_replicate,List.length_cons,List.length_nil];first|done|omega));apply rfl)|(apply T.store;apply rfl;apply rfl;infer_instance;(first|decide|(simp;omega)|simp);apply rfl)|(apply T.bsL;(iterate 5 apply rfl);intro nb)|with_reducible refine Sr.nil ?_|(apply T.doneW;apply rfl)|(apply SA.qn;(iterate 4 apply rfl);kernel_rfl)|(apply SA.qz;(iterate 4 apply rfl);kernel_rfl)|(apply SA.qsn;(iterate 3 apply rfl);kernel_rfl;(first|exact fun _ h=>h|exact fun _ h=>St.psub h (by ((repeat (first|dsimp only [List.set_cons_zero]|dsimp only [List.set_cons_succ]));repeat' first|exact PSub.refl _|exact PSub.nil|(apply PSub.take;(repeat' first|(with_reducible exact Z0)|(with_reducible apply Z1)))|(with_reducible apply PSub.drop)|((apply PSub.take);(repeat' first|exact Z0|(apply Z1)))))))|(apply SA.en;apply rfl;apply rfl;kernel_rfl)|(apply SA.done;apply rfl;kernel_rfl)|(apply SK.late;decide)|(apply SK.intro;(first|exact fun _ h=>h|exact fun _ h=>St.psub h (by ((repeat (first|dsimp only [List.set_cons_zero]|dsimp only [List.set_cons_succ]));repeat' first|exact PSub.refl _|exact PSub.nil|(apply PSub.take;(repeat' first|(with_reducible exact Z0)|(with_reducible apply Z1)))|(with_reducible apply PSub.drop)|((apply PSub.take);(repeat' first|exact Z0|(apply Z1)))))))|fail)
  have hL:(ZC out []++[n.named k]).length=out.length+1:=by simp [ZC]
  dsimp only [ouR]
  rw [hL]
  exact ⟨_,PSub.drop (PSub.refl _),oa',oc',rfl,rfl⟩
 | cons i r =>
  have h1:=hi i r rfl
  have hlen:(i::r).length=r.length+1:=rfl
  have e1:(((i::r).length:Nat):Int) - 1=((r.length:Nat):Int):=by rw [hlen];omega
  have hbl:(out.modify i Nd.more).length=out.length:=List.length_modify ..
  have hkd:=hkid (out.getD i default) (by rw [List.getD_eq_getElem?_getD,List.getElem?_eq_getElem h1,Option.getD_some];exact List.getElem_mem h1)
  have hget:out[i]?=some (out.getD i default):=Zq h1
  have hset:out.set i (out.getD i default).more=out.modify i Nd.more:=(Z2O out i Nd.more h1).symm
  have htop:=Z4d inV i r
  have hupl:(upL inV (i::r)).length=r.length+1:=by rw [Z4e];rfl
  repeat' (first|((first|apply T.mv|apply T.len|apply T.nilCheck|apply T.fieldAddrZ);apply rfl;apply rfl)|(apply T.load;apply rfl;apply rfl;infer_instance;apply rfl;apply rfl)|(apply T.gtr;(iterate 3 apply rfl))|(apply T.store;apply rfl;apply rfl;infer_instance;(first|decide|(simp;omega)|simp);apply rfl)|(apply T.box;apply rfl;apply rfl;intro nb)|(with_reducible first|refine Sr.nil ?_|refine S.seq ?_|refine S.reg ?_)|(apply S.condQ;apply rfl;all_goals (intro _;try (exfalso;first|omega|with_reducible contradiction)))|fail)
  (apply S.draw;(case Hs=>exact .blk nb ((ndV n).set 1 (sV k)) 124::opR na nc (i::r)::H);(case es=>exact  [22]);(case n=>exact  23);(case hn=>rfl))
  repeat' (first|(apply T.subI;apply rfl;apply rfl;omega;apply rfl;rw [e1])|(apply T.loadE;apply rfl;apply rfl;infer_instance;exact htop;apply rfl)|(refine T.storeF (g:=ndV) (out.getD i default).more rfl rfl inferInstance (fun _=>rfl) rfl hget rfl rfl ?_)|((first|apply T.mv|apply T.len|apply T.nilCheck);apply rfl;apply rfl)|(apply T.fieldAddrZ;apply rfl;apply rfl)|(apply T.load;apply rfl;apply rfl;infer_instance;apply rfl;apply rfl)|(apply T.addI;apply rfl;apply rfl;omega;apply rfl)|(apply T.ixN;apply rfl;apply rfl;infer_instance;omega;(first|omega|(simp only [List.length_map];omega)|(simp;omega));apply rfl)|(apply T.ixF;apply rfl;apply rfl;infer_instance;exact (fun _=>rfl);apply rfl;omega;omega;apply rfl)|(apply T.fieldAddrF;apply rfl;infer_instance;exact (fun _=>rfl);apply rfl;omega;apply rfl)|(apply T.loadF;apply rfl;apply rfl;infer_instance;exact (fun _=>rfl);apply rfl;exact Zq (by omega);apply rfl;apply rfl)|with_reducible refine Sr.nil ?_|(apply SA.qn;(iterate 4 apply rfl);kernel_rfl)|(apply SA.en;apply rfl;apply rfl;kernel_rfl)|(apply SA.done;apply rfl;kernel_rfl)|(apply SK.intro;(first|exact fun _ h=>h|exact fun _ h=>St.psub h (by ((repeat (first|dsimp only [List.set_cons_zero]|dsimp only [List.set_cons_succ]));repeat' first|exact PSub.refl _|exact PSub.nil|(apply PSub.take;(repeat' first|(with_reducible exact Z0)|(with_reducible apply Z1)))|(with_reducible apply PSub.drop)|((apply PSub.take);(repeat' first|exact Z0|(apply Z1)))))))|fail)
  rw [hset]
  have hb:ZC out (i::r)=out.modify i Nd.more:=rfl
  have hL:(ZC out (i::r)++[n.named k]).length=out.length+1:=by rw [List.length_append,hb,hbl];rfl
  dsimp only [ouR]
  rw [hL,hb]
  (apply S.drawL;(case Hs=>exact [.blk nb ((ndV n).set 1 (sV k)) 124,.blk p ((jrV t (.slice oa out.length oc) (.slice na (i::r).length nc) m a s k c b).set 6 (.string ⟨#[]⟩)) 136]);(case es=>exact  [6,7,10]);(case lt=>exact  [10]);(case n=>exact  11);(case hn=>rfl))
  repeat' (first|(refine T.appendF (g:=ndV) (n.named k) rfl rfl rfl inferInstance (fun _=>rfl) rfl rfl rfl (by constructor<;>omega) rfl ?_;intro oa' oc')|((first|apply T.mv|apply T.nilCheck|apply T.fieldAddrZ);apply rfl;apply rfl)|(apply T.load;apply rfl;apply rfl;infer_instance;apply rfl;apply rfl)|(apply T.loadW;apply rfl;apply rfl;infer_instance;(first|rfl|(simp only [List.length_append,List.length_map,List.length_set,List.length_replicate,List.length_cons,List.length_nil];first|done|omega));apply rfl)|(apply T.store;apply rfl;apply rfl;infer_instance;(first|decide|(simp;omega)|simp);apply rfl)|(apply T.bsL;(iterate 5 apply rfl);intro nb)|with_reducible refine Sr.nil ?_|(apply T.doneW;apply rfl)|(apply SA.qn;(iterate 4 apply rfl);kernel_rfl)|(apply SA.qz;(iterate 4 apply rfl);kernel_rfl)|(apply SA.qsn;(iterate 3 apply rfl);kernel_rfl;(first|exact fun _ h=>h|exact fun _ h=>St.psub h (by ((repeat (first|dsimp only [List.set_cons_zero]|dsimp only [List.set_cons_succ]));repeat' first|exact PSub.refl _|exact PSub.nil|(apply PSub.take;(repeat' first|(with_reducible exact Z0)|(with_reducible apply Z1)))|(with_reducible apply PSub.drop)|((apply PSub.take);(repeat' first|exact Z0|(apply Z1)))))))|(apply SA.en;apply rfl;apply rfl;kernel_rfl)|(apply SA.done;apply rfl;kernel_rfl)|(apply SK.late;decide)|(apply SK.intro;(first|exact fun _ h=>h|exact fun _ h=>St.psub h (by ((repeat (first|dsimp only [List.set_cons_zero]|dsimp only [List.set_cons_succ]));repeat' first|exact PSub.refl _|exact PSub.nil|(apply PSub.take;(repeat' first|(with_reducible exact Z0)|(with_reducible apply Z1)))|(with_reducible apply PSub.drop)|((apply PSub.take);(repeat' first|exact Z0|(apply Z1)))))))|fail)
  exact ⟨_,PSub.drop (PSub.refl _),oa',oc',rfl,rfl⟩
end
end Go.Proofs.YthomgjihagigcaaGreatDoor
/- A row of the call's own, made shorter. -/
namespace Sg
open Go Go.RowKit
theorem Z4j {w:World} {E:TypeId} {n cp:Nat} {a:Option Addr} {xs:List Value} {v:Value} (h:w.ownsRow 0 E 1 (.slice a (n+1) cp) (n+1) (xs++[v])):w.ownsRow 0 E 1 (.slice a n cp) n xs:=by
 obtain ⟨h1,h2⟩:=h
 have h3:xs.length=n:=by simpa using h1
 refine ⟨by omega,?_⟩
 rcases h2 with ⟨_,h0⟩|⟨g,cap,cur,hv,hg,hh,hn,hm,hs,ht⟩
 ·omega
 ·simp only [Value.slice.injEq] at hv
  obtain ⟨rfl,_,rfl⟩:=hv
  refine .inr ⟨g,cp,cur,rfl,hg,hh,by omega,hm,hs,?_⟩
  rw [Nat.mul_one] at ht ⊢
  have:=congrArg (List.take n) ht
  rw [List.take_take,Nat.min_eq_left (Nat.le_succ n)] at this
  rw [this,List.take_append_of_le_length (by omega),List.take_of_length_le (by omega)]
theorem St.shrink {F:World} {M:List Nat} {w:World} {H:List Res} {a:Option Addr} {cp n:Nat} {E:TypeId} {xs:List Value} {v:Value} (h:St F M w (.row a cp E 1 (n+1) (xs++[v])::H)):St F M w (.row a cp E 1 n xs::H) :=
 h.turn rfl rfl rfl (Nat.le_refl _) (fun _ _ _=>rfl) (Z4j (h.res _ (List.mem_cons_self ..))) (fun b hb=>.inl hb) (by cases a<;>simp [Res.foot])
theorem St.mid {F:World} {M:List Nat} {w:World} {A C:List Res} {q q':Res} (f:∀ X,St F M w (q::X)→St F M w (q'::X)) (h:St F M w (A++q::C)):St F M w (A++q'::C):=(f _ (h.perm List.perm_middle)).perm List.perm_middle.symm
theorem St.midDrop {F:World} {M:List Nat} {w:World} {A C:List Res} {q:Res} (h:St F M w (A++q::C)):St F M w (A++C):=(h.perm List.perm_middle).tail
section
variable {c:Ctx} {dr:Bool} {ds:List Deferred} {H:List Res} {k:List Item} {e:Env} {ops:Array Oper} {l:List Oper} {κ:List Res→Env→Prop}
theorem S.shrink {a:Option Addr} {cp n:Nat} {E:TypeId} {xs:List Value} {v:Value} (h:S c ds (.row a cp E 1 n xs::H) k e):S c ds (.row a cp E 1 (n+1) (xs++[v])::H) k e:=h.weaken fun _ hw=>hw.shrink
theorem T.appendQ {d:Tmp} {x y:Operand} {ad:Option Addr} {n cp m b t E Eb sz:Nat} [HU c.P t (.slice E)] {z:Value} {by_:Nat} [HI c.P E z sz by_] {xs us:List Value} {f:Res→List Res} {H':List Res} {ty:TypeId} {pos:String} {aft:Array Edge} (hx:ev e x=some (.slice ad n cp)) (hy:ev e y=some (.slice (some ⟨b,0,none⟩) m m))
  (hf:Fr H b (.blk b us Eb::H')) (hr:AtR H' ad cp E sz n xs f) (hus:us.length=m*sz) (hone:us.all (·.oneCell')=true) (hzs:z.cells.size=sz) (hsz:Nat.blt 0 sz=true) (hroom:(n+m)*by_≤140737488355328∧n+m≤140737488355328) (hlt:Nat.blt d c.fn.ntmps=true)
  (hk:∀ ad' cp',Sr (.eff dr) c ds (f (.row ad' cp' E sz (n+m) (xs++us))) ops l κ ((d,.slice ad' (n+m) cp')::e)) :
  Sr (.eff dr) c ds H ops (⟨some d,.call ⟨.builtin .append,#[x,y],#[t,t]⟩,ty,pos,aft,none⟩::l) κ e :=
 Sr.front b (T.append (z:=z) (by_:=by_) hx hy hr hus hone hzs hsz hroom hlt hk)
end
end Sg
/- The walks of the program's reader of JSON: its whole state; lists and objects opened and closed. -/
namespace Go.Proofs.YthomgjihagigcaaGreatDoor
open Sg Go.IntWalk
set_option maxRecDepth 100000
set_option maxHeartbeats 4000000
abbrev Stk:=List (Nat × Option (Nat × Ents))
def mpV (x:Nat × Option (Nat × Ents)):Value:=match x.2 with
 | none=>.map none
 | some y=>.map (some y.1)
abbrev mpR (mb:Nat) (m:Ents):Res:=.ex mb (mapQ Tryz.prog 9 3 m.length (mapD m))
def ZS:Stk→List Res→List Res
 | [],H=>H
 | (_,none)::r,H=>ZS r H
 | (_,some y)::r,H=>mpR y.1 y.2::ZS r H
abbrev nmR (ma:Option Addr) (mc:Nat) (st:Stk):Res:=.row ma mc 161 1 st.length (upL mpV st)
structure Jc where
 oa:Option Addr
 oc:Nat
 na:Option Addr
 nc:Nat
 ma:Option Addr
 mc:Nat
 out:List Nd
 st:Stk
 a:Nat
 s:Nat
 k:List UInt8
def Jc.cells (C:Jc) (t:List UInt8) (c b:Int):List Value:=jrV t (.slice C.oa C.out.length C.oc) (.slice C.na C.st.length C.nc) (.slice C.ma C.st.length C.mc) C.a C.s C.k c b
abbrev opS (na:Option Addr) (nc:Nat) (st:Stk):Res:=.row na nc 3 1 st.length (upL inV (st.map (·.1)))
def Jc.res (C:Jc) (p:Nat) (t:List UInt8) (H:List Res):List Res:=.blk p (C.cells t 0 0) 136::ouR C.oa C.oc C.out::opS C.na C.nc C.st::nmR C.ma C.mc C.st::ZS C.st H
section
variable {F:World} {M:List Nat} {H:List Res} {p:Nat} {t:List UInt8} {o:Value} {a s:Nat} {k:List UInt8} {c b:Int}
theorem Z8n {w:World} {A:List Res} {na ma:Option Addr} {nc mc:Nat} {x:Nat × Option (Nat × Ents)} {r:Stk} (h:St F M w (A++opS na nc (x::r)::nmR ma mc (x::r)::ZS (x::r) H)):St F M w (A++opS na nc r::nmR ma mc r::ZS r H):=by
 have e1:opS na nc (x::r)=.row na nc 3 1 (r.length+1) (upL inV (r.map (·.1))++[inV x.1]):=by rw [←Z1e];rfl
 have e2:nmR ma mc (x::r)=.row ma mc 161 1 (r.length+1) (upL mpV r++[mpV x]):=by rw [←Z1e];rfl
 rw [e1,e2] at h
 have h1:St F M w (A++opS na nc r::.row ma mc 161 1 (r.length+1) (upL mpV r++[mpV x])::ZS (x::r) H):=h.mid fun X h=>h.shrink
 have h2:St F M w ((A++[opS na nc r])++nmR ma mc r::ZS (x::r) H):=by
  refine St.mid (q:=.row ma mc 161 1 (r.length+1) (upL mpV r++[mpV x])) (fun X h=>h.shrink) (A:=A++[opS na nc r]) ?_
  rw [List.append_assoc]
  exact h1
 obtain ⟨i,x2⟩:=x
 cases x2 with
 | none =>
  rw [List.append_assoc] at h2
  exact h2
 | some y =>
  have h3:St F M w ((A++[opS na nc r,nmR ma mc r])++mpR y.1 y.2::ZS r H):=by
   rw [List.append_assoc] at h2 ⊢
   exact h2
  have h4:=h3.midDrop
  rw [List.append_assoc] at h4
  exact h4
theorem Z7x {na ma:Option Addr} {nc mc:Nat} {x:Nat × Option (Nat × Ents)} {r:Stk} {Ho:Res} (ha:a≤1000000) (hr:r.length≤1000000) :
  Meets Tryz.prog 102 [.pointer (some ⟨p,0,none⟩)] F M (.blk p (jrV t o (.slice na (x::r).length nc) (.slice ma (x::r).length mc) a s k c b) 136::Ho::opS na nc (x::r)::nmR ma mc (x::r)::ZS (x::r) H)
   (fun e H'=>e=.returned (.bool true)∧H'=.blk p (jrV t o (.slice na r.length nc) (.slice ma r.length mc) (a+1) (if r.length=0 then 6 else 5) k c b) 136::Ho::opS na nc r::nmR ma mc r::ZS r H):=by
 refine Meets.enter Tryz.func102 rfl rfl ?_
 have hlen:(x::r).length=r.length+1:=rfl
 have e1:(((x::r).length:Nat):Int) - 1=((r.length:Nat):Int):=by rw [hlen];omega
 refine S.capR (ad:=na) inferInstance fun hcap1=>?_
 refine S.capR (ad:=ma) inferInstance fun hcap2=>?_
 repeat' (first|((first|apply T.mv|apply T.asn|apply T.nilCheck|apply T.fieldAddrZ);apply rfl;apply rfl)|(apply T.load;apply rfl;apply rfl;infer_instance;apply rfl;apply rfl)|(apply T.addI;apply rfl;apply rfl;omega;apply rfl)|(apply T.store;apply rfl;apply rfl;infer_instance;(first|decide|(simp;omega)|simp);apply rfl)|(with_reducible first|refine Sr.nil ?_|refine S.seq ?_|refine S.reg ?_)|fail)
 (apply S.draw;(case Hs=>exact []);(case es=>exact  [26,29]);(case n=>exact  30);(case hn=>rfl))
 repeat' (first|(apply T.subI;apply rfl;apply rfl;omega;apply rfl;rw [e1])|(apply T.sliceHK;apply rfl;apply rfl;omega;apply rfl)|((first|apply T.mv|apply T.len|apply T.nilCheck|apply T.fieldAddrZ);apply rfl;apply rfl)|(apply T.load;apply rfl;apply rfl;infer_instance;apply rfl;apply rfl)|(apply T.store;apply rfl;apply rfl;infer_instance;(first|decide|(simp;omega)|simp);apply rfl)|(with_reducible first|refine Sr.nil ?_|refine S.seq ?_|refine S.reg ?_)|(apply SA.qn;(iterate 4 apply rfl);kernel_rfl)|(apply SA.qz;(iterate 4 apply rfl);kernel_rfl)|(apply SA.qsn;(iterate 3 apply rfl);kernel_rfl;(first|exact fun _ h=>h|exact fun _ h=>St.psub h (by ((repeat (first|dsimp only [List.set_cons_zero]|dsimp only [List.set_cons_succ]));repeat' first|exact PSub.refl _|exact PSub.nil|(apply PSub.take;(repeat' first|(with_reducible exact Z0)|(with_reducible apply Z1)))|(with_reducible apply PSub.drop)|((apply PSub.take);(repeat' first|exact Z0|(apply Z1)))))))|(apply SA.en;apply rfl;apply rfl;kernel_rfl)|(apply SA.done;apply rfl;kernel_rfl)|(apply SK.intro;(first|exact fun _ h=>h|exact fun _ h=>St.psub h (by ((repeat (first|dsimp only [List.set_cons_zero]|dsimp only [List.set_cons_succ]));repeat' first|exact PSub.refl _|exact PSub.nil|(apply PSub.take;(repeat' first|(with_reducible exact Z0)|(with_reducible apply Z1)))|(with_reducible apply PSub.drop)|((apply PSub.take);(repeat' first|exact Z0|(apply Z1)))))))|fail)
 refine T.call rfl rfl (Z0w (a:=a+1) (l:=r.length) (o:=o)) ?_
 rintro _ _ ⟨rfl,rfl⟩
 refine Sr.weaken (H':=_) ?_ (fun w h=>Z8n (A:=[_,_]) h)
 repeat' (first|(apply T.asn;apply rfl;apply rfl)|(with_reducible first|refine Sr.nil ?_|refine S.seq ?_|refine S.reg ?_)|(apply T.retW;apply rfl)|fail)
 exact ⟨_,PSub.refl _,rfl,rfl⟩
theorem Z6l (na:Option Addr) (nc:Nat) (st:Stk) (i:Nat) (y:Option (Nat × Ents)):(.row na nc 3 1 (st.length+1) (upL inV (st.map (·.1))++[.int .i64 (i:Int)]):Res)=opS na nc ((i,y)::st):=by
 rw [←Z1e inV i (st.map (·.1))]
 rfl
theorem Z7d (ma:Option Addr) (mc:Nat) (st:Stk) (i:Nat):(.row ma mc 161 1 (st.length+1) (upL mpV st++[.map none]):Res)=nmR ma mc ((i,none)::st):=by
 rw [show Value.map none=mpV (i,none) from rfl,←Z1e mpV (i,none) st]
 rfl
theorem Z7c (ma:Option Addr) (mc:Nat) (st:Stk) (i mb:Nat):(.row ma mc 161 1 (st.length+1) (upL mpV st++[.map (some mb)]):Res)=nmR ma mc ((i,some (mb,[]))::st):=by
 rw [show Value.map (some mb)=mpV (i,some (mb,[])) from rfl,←Z1e mpV (i,some (mb,[])) st]
 rfl
theorem Z61 {oa pa ma:Option Addr} {oc pc mc:Nat} {out:List Nd} {st:Stk} {ch:UInt8} (hch:ch.toNat=91∨ch.toNat=123) (ha:a≤1000000) (hi:∀ i r,st.map (·.1)=i::r→i < out.length) (hl:out.length≤1000000) (hs:st.length≤1000000) (hkid:∀ x∈out,0≤x.kids∧x.kids≤1000000) :
  Meets Tryz.prog 119 [.pointer (some ⟨p,0,none⟩),.int .u8 (ch.toNat:Nat)] F M (.blk p (jrV t (.slice oa out.length oc) (.slice pa st.length pc) (.slice ma st.length mc) a s k c b) 136::ouR oa oc out::opS pa pc st::nmR ma mc st::ZS st H)
   (fun e H'=>if st.length=32 then e=.returned (.bool false)∧H'=.blk p (jrV t (.slice oa out.length oc) (.slice pa st.length pc) (.slice ma st.length mc) a s k 11 a) 136::ouR oa oc out::opS pa pc st::nmR ma mc st::ZS st H
    else ∃ (oa':Option Addr) (oc':Nat) (pa':Option Addr) (pc':Nat) (ma':Option Addr) (mc':Nat) (y:Option (Nat × Ents)),e=.returned (.bool true)∧(if ch.toNat=123 then ∃ mb,y=some (mb,[]) else y=none) ∧
     H'=.blk p (jrV t (.slice oa' (out.length+1) oc') (.slice pa' (st.length+1) pc') (.slice ma' (st.length+1) mc') (a+1) (if ch.toNat=123 then 3 else 1) [] c b) 136::ouR oa' oc' (ZC out (st.map (·.1))++[(nd (if ch.toNat=123 then 7 else 6)).named k])::opS pa' pc' ((out.length,y)::st)::nmR ma' mc' ((out.length,y)::st)::ZS ((out.length,y)::st) H):=by
 refine Meets.enter Tryz.func119 rfl rfl ?_
 have hml:(st.map (·.1)).length=st.length:=List.length_map _
 have hbl:(ZC out (st.map (·.1))).length=out.length:=by
  cases h:st.map (·.1) with
  | nil=>rfl
  | cons i r=>exact List.length_modify ..
 have hL6:∀ n:Nd,(ZC out (st.map (·.1))++[n]).length=out.length+1:=fun n=>by rw [List.length_append,hbl];rfl
 have e1:((out.length+1:Nat):Int) - 1=((out.length:Nat):Int):=by omega
 by_cases h32:st.length=32
 ·simp only [h32,if_true]
  repeat' (first|((first|apply T.mv|apply T.asn|apply T.len|apply T.nilCheck|apply T.fieldAddrZ);apply rfl;apply rfl)|(apply T.load;apply rfl;apply rfl;infer_instance;apply rfl;apply rfl)|(apply T.eql;(iterate 3 apply rfl))|(with_reducible first|refine Sr.nil ?_|refine S.seq ?_|refine S.reg ?_)|(apply S.condTV;apply rfl;(first|with_reducible rfl|decide))|fail)
  refine T.call rfl rfl Zx ?_
  rintro _ _ ⟨rfl,rfl⟩
  repeat' (first|(apply T.asn;apply rfl;apply rfl)|with_reducible refine Sr.nil ?_|(apply T.retW;apply rfl)|(with_reducible apply T.ofRet)|fail)
  exact ⟨_,PSub.refl _,rfl,rfl⟩
 ·simp only [h32,if_false]
  by_cases h123:ch.toNat=123
  ·simp only [h123,if_true]
   have hn:(ch.toNat:Int)=123:=by omega
   repeat' (first|(apply T.mapMake;apply rfl;intro mb)|((first|apply T.mv|apply T.asn|apply T.len|apply T.nilCheck|apply T.fieldAddrZ);apply rfl;apply rfl)|(apply T.load;apply rfl;apply rfl;infer_instance;apply rfl;apply rfl)|(apply T.eql;(iterate 3 apply rfl))|(apply T.addI;apply rfl;apply rfl;omega;apply rfl)|(apply T.buildL;(iterate 3 apply rfl))|(apply T.loadW;apply rfl;apply rfl;infer_instance;(first|rfl|(simp only [List.length_append,List.length_map,List.length_set,List.length_replicate,List.length_cons,List.length_nil];first|done|omega));apply rfl)|(apply T.storeW;apply rfl;apply rfl;infer_instance;(first|rfl|(simp only [List.length_append,List.length_map,List.length_set,List.length_replicate,List.length_cons,List.length_nil];first|done|omega));(first|rfl|(simp only [List.length_append,List.length_map,List.length_set,List.length_replicate,List.length_cons,List.length_nil];first|done|omega));(first|rfl|(repeat' first|apply all_nV|apply all_bV|apply all_iV|rfl|apply all_app)))|(apply T.store;apply rfl;apply rfl;infer_instance;(first|decide|(simp;omega)|simp);apply rfl)|(apply T.alloc;apply rfl;intro nb)|(with_reducible first|refine Sr.nil ?_|refine S.seq ?_|refine S.reg ?_|refine S.skip ?_)|(apply S.condTV;apply rfl;(first|with_reducible rfl|decide))|(apply S.condQ;apply rfl;all_goals (intro _;try (exfalso;first|omega|with_reducible contradiction)))|fail)
   revert mb
   intro mb
   refine Sr.frontR pa ?_
   refine Sr.frontR oa ?_
   refine Sr.front p ?_
   have hls:=Z3k (F:=F) (M:=M) (H:=mpR mb []::.blk nb (ndV (nd 7)) 124::nmR ma mc st::ZS st H) (p:=p) (t:=t) (m:=.slice ma st.length mc) (a:=a+1) (s:=3) (k:=k) (c:=c) (b:=b) (oa:=oa) (na:=pa) (oc:=oc) (nc:=pc) (n:=nd 7) hi hl (by omega) hkid
   dsimp only [opR] at hls
   rw [hml] at hls
   refine T.call rfl rfl hls ?_
   clear hls
   rintro _ _ ⟨oa',oc',rfl,rfl⟩
   dsimp only [ouR]
   rw [hL6]
   repeat' (first|(with_reducible first|refine Sr.nil ?_|refine S.seq ?_)|(with_reducible apply T.ofRet)|fail)
   (apply S.drawL;(case Hs=>exact [.blk p (jrV t (.slice oa' (out.length+1) oc') (.slice pa st.length pc) (.slice ma st.length mc) (a+1) 3 [] c b) 136]);(case es=>exact  [12,13,19,20,23,26]);(case lt=>exact  [23,26]);(case n=>exact  27);(case hn=>rfl))
   repeat' (first|(apply T.subI;apply rfl;apply rfl;omega;apply rfl;rw [e1])|(apply T.appendQ;apply rfl;apply rfl;infer_instance;infer_instance;(iterate 4 apply rfl);(constructor<;>omega);apply rfl;intro na nc)|((first|apply T.mv|apply T.asn|apply T.len|apply T.nilCheck|apply T.fieldAddrZ);apply rfl;apply rfl)|(apply T.load;apply rfl;apply rfl;infer_instance;apply rfl;apply rfl)|(apply T.store;apply rfl;apply rfl;infer_instance;(first|decide|(simp;omega)|simp);apply rfl)|(apply T.bs;(iterate 6 apply rfl);intro nb)|(with_reducible first|refine Sr.nil ?_|refine S.seq ?_|refine S.reg ?_)|(apply T.retW;apply rfl)|(apply SA.qn;(iterate 4 apply rfl);kernel_rfl)|(apply SA.qz;(iterate 4 apply rfl);kernel_rfl)|(apply SA.qsn;(iterate 3 apply rfl);kernel_rfl;(first|exact fun _ h=>h|exact fun _ h=>St.psub h (by ((repeat (first|dsimp only [List.set_cons_zero]|dsimp only [List.set_cons_succ]));repeat' first|exact PSub.refl _|exact PSub.nil|(apply PSub.take;(repeat' first|(with_reducible exact Z0)|(with_reducible apply Z1)))|(with_reducible apply PSub.drop)|((apply PSub.take);(repeat' first|exact Z0|(apply Z1)))))))|(apply SA.en;apply rfl;apply rfl;kernel_rfl)|(apply SA.e2;(iterate 3 apply rfl);kernel_rfl)|(apply SA.done;apply rfl;kernel_rfl)|(apply SK.late;decide)|(apply SK.intro;(first|exact fun _ h=>h|exact fun _ h=>St.psub h (by ((repeat (first|dsimp only [List.set_cons_zero]|dsimp only [List.set_cons_succ]));repeat' first|exact PSub.refl _|exact PSub.nil|(apply PSub.take;(repeat' first|(with_reducible exact Z0)|(with_reducible apply Z1)))|(with_reducible apply PSub.drop)|((apply PSub.take);(repeat' first|exact Z0|(apply Z1)))))))|fail)
   all_goals
    rw [Z6l _ _ st out.length (some (mb,[])),Z7c _ _ st out.length mb]
    exact ⟨_,PSub.take Z0 (PSub.take Z0 (PSub.take Z0 (PSub.take (Z1 (Z1 Z0)) (PSub.take Z0 (PSub.drop (PSub.refl _)))))),oa',oc',_,_,_,_,some (mb,[]),rfl,⟨mb,rfl⟩,rfl⟩
  ·simp only [h123,if_false]
   have hn:¬(ch.toNat:Int)=123:=by omega
   repeat' (first|((first|apply T.mv|apply T.asn|apply T.len|apply T.nilCheck|apply T.fieldAddrZ);apply rfl;apply rfl)|(apply T.load;apply rfl;apply rfl;infer_instance;apply rfl;apply rfl)|(apply T.eql;(iterate 3 apply rfl))|(apply T.addI;apply rfl;apply rfl;omega;apply rfl)|(apply T.buildL;(iterate 3 apply rfl))|(apply T.loadW;apply rfl;apply rfl;infer_instance;(first|rfl|(simp only [List.length_append,List.length_map,List.length_set,List.length_replicate,List.length_cons,List.length_nil];first|done|omega));apply rfl)|(apply T.storeW;apply rfl;apply rfl;infer_instance;(first|rfl|(simp only [List.length_append,List.length_map,List.length_set,List.length_replicate,List.length_cons,List.length_nil];first|done|omega));(first|rfl|(simp only [List.length_append,List.length_map,List.length_set,List.length_replicate,List.length_cons,List.length_nil];first|done|omega));(first|rfl|(repeat' first|apply all_nV|apply all_bV|apply all_iV|rfl|apply all_app)))|(apply T.store;apply rfl;apply rfl;infer_instance;(first|decide|(simp;omega)|simp);apply rfl)|(apply T.alloc;apply rfl;intro nb)|(with_reducible first|refine Sr.nil ?_|refine S.seq ?_|refine S.reg ?_|refine S.skip ?_)|(apply S.condQ;apply rfl;all_goals (intro _;try (exfalso;first|omega|with_reducible contradiction)))|fail)
   refine Sr.frontR pa ?_
   refine Sr.frontR oa ?_
   refine Sr.front p ?_
   have hls:=Z3k (F:=F) (M:=M) (H:=.blk nb (ndV (nd 6)) 124::nmR ma mc st::ZS st H) (p:=p) (t:=t) (m:=.slice ma st.length mc) (a:=a+1) (s:=1) (k:=k) (c:=c) (b:=b) (oa:=oa) (na:=pa) (oc:=oc) (nc:=pc) (n:=nd 6) hi hl (by omega) hkid
   dsimp only [opR] at hls
   rw [hml] at hls
   refine T.call rfl rfl hls ?_
   clear hls
   rintro _ _ ⟨oa',oc',rfl,rfl⟩
   dsimp only [ouR]
   rw [hL6]
   repeat' (first|(with_reducible first|refine Sr.nil ?_|refine S.seq ?_)|(with_reducible apply T.ofRet)|fail)
   (apply S.drawL;(case Hs=>exact [.blk p (jrV t (.slice oa' (out.length+1) oc') (.slice pa st.length pc) (.slice ma st.length mc) (a+1) 1 [] c b) 136]);(case es=>exact  [12,13,19,20,23,26]);(case lt=>exact  [23,26]);(case n=>exact  27);(case hn=>rfl))
   repeat' (first|(apply T.subI;apply rfl;apply rfl;omega;apply rfl;rw [e1])|(apply T.appendQ;apply rfl;apply rfl;infer_instance;infer_instance;(iterate 4 apply rfl);(constructor<;>omega);apply rfl;intro na nc)|((first|apply T.mv|apply T.asn|apply T.len|apply T.nilCheck|apply T.fieldAddrZ);apply rfl;apply rfl)|(apply T.load;apply rfl;apply rfl;infer_instance;apply rfl;apply rfl)|(apply T.store;apply rfl;apply rfl;infer_instance;(first|decide|(simp;omega)|simp);apply rfl)|(apply T.bs;(iterate 6 apply rfl);intro nb)|(with_reducible first|refine Sr.nil ?_|refine S.seq ?_|refine S.reg ?_)|(apply T.retW;apply rfl)|(apply SA.qn;(iterate 4 apply rfl);kernel_rfl)|(apply SA.qz;(iterate 4 apply rfl);kernel_rfl)|(apply SA.qsn;(iterate 3 apply rfl);kernel_rfl;(first|exact fun _ h=>h|exact fun _ h=>St.psub h (by ((repeat (first|dsimp only [List.set_cons_zero]|dsimp only [List.set_cons_succ]));repeat' first|exact PSub.refl _|exact PSub.nil|(apply PSub.take;(repeat' first|(with_reducible exact Z0)|(with_reducible apply Z1)))|(with_reducible apply PSub.drop)|((apply PSub.take);(repeat' first|exact Z0|(apply Z1)))))))|(apply SA.en;apply rfl;apply rfl;kernel_rfl)|(apply SA.e2;(iterate 3 apply rfl);kernel_rfl)|(apply SA.done;apply rfl;kernel_rfl)|(apply SK.late;decide)|(apply SK.intro;(first|exact fun _ h=>h|exact fun _ h=>St.psub h (by ((repeat (first|dsimp only [List.set_cons_zero]|dsimp only [List.set_cons_succ]));repeat' first|exact PSub.refl _|exact PSub.nil|(apply PSub.take;(repeat' first|(with_reducible exact Z0)|(with_reducible apply Z1)))|(with_reducible apply PSub.drop)|((apply PSub.take);(repeat' first|exact Z0|(apply Z1)))))))|fail)
   all_goals
    rw [Z6l _ _ st out.length none,Z7d _ _ st out.length]
    exact ⟨_,PSub.take Z0 (PSub.take Z0 (PSub.take Z0 (PSub.drop (PSub.refl _)))),oa',oc',_,_,_,_,none,rfl,rfl,rfl⟩
end
end Go.Proofs.YthomgjihagigcaaGreatDoor
/- The walks of the program's reader of JSON: words and numbers put down. -/
namespace Go.Proofs.YthomgjihagigcaaGreatDoor
open Sg Go.IntWalk
set_option maxRecDepth 100000
set_option maxHeartbeats 4000000
section
variable {F:World} {M:List Nat} {H:List Res} {p:Nat} {t:List UInt8} {m:Value} {a s:Nat} {k:List UInt8} {c b:Int} {oa na:Option Addr} {oc nc:Nat} {out:List Nd} {is:List Nat}
theorem Z1u (out:List Nd) (is:List Nat):(ZC out is).length=out.length:=by
 cases is with
 | nil=>rfl
 | cons i r=>exact List.length_modify ..
theorem Z0R (out:List Nd) (is:List Nat) (n:Nd):(ZC out is++[n]).length=out.length+1:=by rw [List.length_append,Z1u];rfl
def Z8i (p:Nat) (t:List UInt8) (na:Option Addr) (nc:Nat) (m:Value) (is:List Nat) (out:List Nd) (k:List UInt8) (c b:Int) (H:List Res) (a:Nat) (n:Nd):Ending→List Res→Prop:=fun e H'=>∃ (oa':Option Addr) (oc':Nat),e=.returned (.bool true) ∧
 H'=.blk p (jrV t (.slice oa' (out.length+1) oc') (.slice na is.length nc) m a (if is.length=0 then 6 else 5) [] c b) 136::ouR oa' oc' (ZC out is++[n.named k])::opR na nc is::H
def Z70 (p:Nat) (t:List UInt8) (H:List Res) (code at_:Int):Ending→List Res→Prop:=fun e H'=>∃ (o n m:Value) (a s:Nat) (k:List UInt8),e=.returned (.bool false)∧H'=.blk p (jrV t o n m a s k code at_) 136::H
theorem Z28 {n:Nd} (hi:∀ i r,is=i::r→i < out.length) (hl:out.length≤1000000) (hs:is.length≤1000000) (hkid:∀ x∈out,0≤x.kids∧x.kids≤1000000) :
  Meets Tryz.prog 121 [.pointer (some ⟨p,0,none⟩),.agg ⟨ndV n⟩] F M (.blk p (jrV t (.slice oa out.length oc) (.slice na is.length nc) m a s k c b) 136::ouR oa oc out::opR na nc is::H)
   (fun e H'=>∃ oa' oc',e=.returned (.tuple ⟨[]⟩)∧H'=.blk p (jrV t (.slice oa' (out.length+1) oc') (.slice na is.length nc) m a s [] c b) 136::ouR oa' oc' (ZC out is++[n.named k])::opR na nc is::H):=by
 have h:=Z3k (F:=F) (M:=M) (H:=H) (p:=p) (t:=t) (m:=m) (a:=a) (s:=s) (k:=k) (c:=c) (b:=b) (oa:=oa) (na:=na) (oc:=oc) (nc:=nc) (n:=n) hi hl hs hkid
 rw [Z0R] at h
 exact h
theorem Z2y {q:Nat} {x:UInt8} {ws:List UInt8} (h:x≠0):ZL t q (x::ws)=if bAt t q=x.toNat then ZL t (q+1) ws else .bad 31 q:=by
 rw [ZL,Zs h]
 simp only [decide_eq_true_eq]
theorem Z3Q {w:List UInt8} {kd:Nat} (hw:∀ x∈w,x≠0) (hwl:w.length≤100) (ha:a≤t.length) (hl:t.length≤262144) (hi:∀ i r,is=i::r→i < out.length) (hol:out.length≤1000000) (hs:is.length≤1000000) (hkid:∀ x∈out,0≤x.kids∧x.kids≤1000000) :
  Meets Tryz.prog 123 [.pointer (some ⟨p,0,none⟩),sV w,.int .i64 kd] F M (.blk p (jrV t (.slice oa out.length oc) (.slice na is.length nc) m a s k c b) 136::ouR oa oc out::opR na nc is::H)
   (match ZL t a w with
    | .ok a' _=>Z8i p t na nc m is out k c b H a' (nd kd)
    | .bad c' b'=>Z70 p t (ouR oa oc out::opR na nc is::H) c' b'):=by
 refine Meets.enter Tryz.func123 rfl rfl ?_
 repeat' (first|((first|apply T.slen|apply T.mv|apply T.asn);apply rfl;apply rfl)|(with_reducible first|refine Sr.nil ?_|refine S.seq ?_|refine S.block ?_|refine S.reg ?_)|fail)
 refine S.loopE 1 [0,1,2,9] (fun R b' μ H' e=>∃ i:Nat,H'=.blk p (jrV t (.slice oa out.length oc) (.slice na is.length nc) m (a+i) s k c b) 136::R∧e=(10,.int .i64 i)::b'∧(i≤w.length∧a+i≤t.length∧ZL t a w=ZL t (a+i) (w.drop i))∧μ=w.length - i) rfl rfl ?_ _ _ ⟨0,rfl,rfl,⟨Nat.zero_le _,ha,rfl⟩,rfl⟩ (by repeat' first|exact trivial|refine And.intro rfl ?_)
 rintro _ _ _ ⟨i,rfl,rfl,⟨h1,h2,h3⟩,rfl⟩ ih
 by_cases h4:i < w.length
 ·have hg:w.drop i=w.getD i 0::w.drop (i+1):=by
   rw [List.drop_eq_getElem_cons h4]
   simp [List.getD,h4]
  have hne:w.getD i 0≠0:=by
   rw [List.getD_eq_getElem?_getD,List.getElem?_eq_getElem h4]
   exact hw _ (List.getElem_mem h4)
  rw [hg,Z2y hne] at h3
  have hu:=Z14 t (a+i)
  have n1:∀ {X:List Res},Meets Tryz.prog 101 [.pointer (some ⟨p,0,none⟩)] F M (.blk p (jrV t (.slice oa out.length oc) (.slice na is.length nc) m (a+i) s k c b) 136::X) (fun e H'=>e=.returned (.int .u8 (bAt t (a+i):Nat))∧H'=.blk p (jrV t (.slice oa out.length oc) (.slice na is.length nc) m (a+i) s k c b) 136::X):=Zw
  by_cases h5:bAt t (a+i)=(w.getD i 0).toNat
  ·rw [if_pos h5] at h3
   have hlt:=Z7 (t:=t) (p:=a+i) (by rw [h5];exact fun e=>hne (UInt8.toNat_inj.1 e))
   repeat' (first|((first|apply T.mv|apply T.asn);apply rfl;apply rfl)|(apply T.lss;(iterate 3 apply rfl))|(with_reducible first|refine Sr.nil ?_|refine S.seq ?_|refine S.block ?_|refine S.reg ?_|refine S.skip ?_)|(apply S.condQ;apply rfl;all_goals (intro _;try (exfalso;first|omega|with_reducible contradiction)))|fail)
   (apply S.draw;(case Hs=>exact .blk p (jrV t (.slice oa out.length oc) (.slice na is.length nc) m (a+i) s k c b) 136::ouR oa oc out::opR na nc is::H);(case es=>exact  [1]);(case n=>exact  6);(case hn=>rfl))
   repeat' (first|(apply T.call;apply rfl;apply rfl;with_reducible exact n1;rintro _ _ ⟨rfl,rfl⟩)|(apply T.sidx;apply rfl;apply rfl;omega;apply rfl)|((first|apply T.mv|apply T.nilCheck|apply T.fieldAddrZ);apply rfl;apply rfl)|(apply T.load;apply rfl;apply rfl;infer_instance;apply rfl;apply rfl)|(apply T.neq;(iterate 3 apply rfl))|(apply T.addI;apply rfl;apply rfl;omega;apply rfl)|(apply T.store;apply rfl;apply rfl;infer_instance;(first|decide|(simp;omega)|simp);apply rfl)|(with_reducible first|refine Sr.nil ?_|refine S.reg ?_|refine S.skip ?_|refine S.inBlock ?_)|(apply S.condQ;apply rfl;all_goals (intro _;try (exfalso;first|omega|with_reducible contradiction)))|(with_reducible apply T.ofRet)|(apply SA.qn;(iterate 4 apply rfl);kernel_rfl)|(apply SA.qz;(iterate 4 apply rfl);kernel_rfl)|(apply SA.qsn;(iterate 3 apply rfl);kernel_rfl;(first|exact fun _ h=>h|exact fun _ h=>St.psub h (by ((repeat (first|dsimp only [List.set_cons_zero]|dsimp only [List.set_cons_succ]));repeat' first|exact PSub.refl _|exact PSub.nil|(apply PSub.take;(repeat' first|(with_reducible exact Z0)|(with_reducible apply Z1)))|(with_reducible apply PSub.drop)|((apply PSub.take);(repeat' first|exact Z0|(apply Z1)))))))|(apply SA.en;apply rfl;apply rfl;kernel_rfl)|(apply SA.done;apply rfl;kernel_rfl)|(apply SK.intro;(first|exact fun _ h=>h|exact fun _ h=>St.psub h (by ((repeat (first|dsimp only [List.set_cons_zero]|dsimp only [List.set_cons_succ]));repeat' first|exact PSub.refl _|exact PSub.nil|(apply PSub.take;(repeat' first|(with_reducible exact Z0)|(with_reducible apply Z1)))|(with_reducible apply PSub.drop)|((apply PSub.take);(repeat' first|exact Z0|(apply Z1)))))))|fail)
   exact ih _ _ _ _ ⟨i+1,rfl,rfl,⟨by omega,by omega,h3⟩,rfl⟩ (by omega) (by repeat' first|exact trivial|refine And.intro rfl ?_)
  ·rw [if_neg h5] at h3
   rw [h3]
   repeat' (first|((first|apply T.mv|apply T.asn);apply rfl;apply rfl)|(apply T.lss;(iterate 3 apply rfl))|(with_reducible first|refine Sr.nil ?_|refine S.seq ?_|refine S.block ?_|refine S.reg ?_|refine S.skip ?_)|(apply S.condQ;apply rfl;all_goals (intro _;try (exfalso;first|omega|with_reducible contradiction)))|fail)
   (apply S.draw;(case Hs=>exact .blk p (jrV t (.slice oa out.length oc) (.slice na is.length nc) m (a+i) s k c b) 136::ouR oa oc out::opR na nc is::H);(case es=>exact  [1]);(case n=>exact  6);(case hn=>rfl))
   repeat' (first|(apply T.call;apply rfl;apply rfl;with_reducible exact n1;rintro _ _ ⟨rfl,rfl⟩)|(apply T.sidx;apply rfl;apply rfl;omega;apply rfl)|(apply T.mv;apply rfl;apply rfl)|(apply T.neq;(iterate 3 apply rfl))|(with_reducible first|refine Sr.nil ?_|refine S.seq ?_|refine S.reg ?_)|(apply S.condQ;apply rfl;all_goals (intro _;try (exfalso;first|omega|with_reducible contradiction)))|(with_reducible apply T.ofRet)|(apply SA.qn;(iterate 4 apply rfl);kernel_rfl)|(apply SA.qz;(iterate 4 apply rfl);kernel_rfl)|(apply SA.qsn;(iterate 3 apply rfl);kernel_rfl;(first|exact fun _ h=>h|exact fun _ h=>St.psub h (by ((repeat (first|dsimp only [List.set_cons_zero]|dsimp only [List.set_cons_succ]));repeat' first|exact PSub.refl _|exact PSub.nil|(apply PSub.take;(repeat' first|(with_reducible exact Z0)|(with_reducible apply Z1)))|(with_reducible apply PSub.drop)|((apply PSub.take);(repeat' first|exact Z0|(apply Z1)))))))|(apply SA.en;apply rfl;apply rfl;kernel_rfl)|(apply SA.done;apply rfl;kernel_rfl)|(apply SK.intro;(first|exact fun _ h=>h|exact fun _ h=>St.psub h (by ((repeat (first|dsimp only [List.set_cons_zero]|dsimp only [List.set_cons_succ]));repeat' first|exact PSub.refl _|exact PSub.nil|(apply PSub.take;(repeat' first|(with_reducible exact Z0)|(with_reducible apply Z1)))|(with_reducible apply PSub.drop)|((apply PSub.take);(repeat' first|exact Z0|(apply Z1)))))))|fail)
   refine T.call rfl rfl Zp ?_
   rintro _ _ ⟨rfl,rfl⟩
   repeat' (first|(apply T.asn;apply rfl;apply rfl)|with_reducible refine Sr.nil ?_|(apply T.retW;apply rfl)|(with_reducible apply T.ofRet)|fail)
   exact ⟨_,PSub.refl _,_,_,_,_,_,_,rfl,rfl⟩
 ·obtain rfl:i=w.length:=by omega
  rw [h3,List.drop_length,ZL]
  repeat' (first|(apply T.mv;apply rfl;apply rfl)|(apply T.lss;(iterate 3 apply rfl))|(apply T.buildL;(iterate 3 apply rfl))|(with_reducible first|refine Sr.nil ?_|refine S.seq ?_|refine S.reg ?_)|(apply S.exit;apply rfl)|(apply S.condQ;apply rfl;all_goals (intro _;try (exfalso;first|omega|with_reducible contradiction)))|fail)
  refine T.call rfl rfl (Z28 (n:=nd kd) hi hol hs hkid) ?_
  rintro _ _ ⟨oa',oc',rfl,rfl⟩
  repeat' (first|(apply T.mv;apply rfl;apply rfl)|(with_reducible first|refine Sr.nil ?_|refine S.seq ?_|refine S.reg ?_)|(with_reducible apply T.ofRet)|fail)
  refine T.call rfl rfl Z0w ?_
  rintro _ _ ⟨rfl,rfl⟩
  repeat' (first|(apply T.asn;apply rfl;apply rfl)|(with_reducible first|refine Sr.nil ?_|refine S.seq ?_|refine S.reg ?_)|(apply T.retW;apply rfl)|(with_reducible apply T.ofRet)|fail)
  exact ⟨_,PSub.refl _,oa',oc',rfl,rfl⟩
end
end Go.Proofs.YthomgjihagigcaaGreatDoor
/- The walks of the program's reader of JSON: numbers put down. -/
namespace Go.Proofs.YthomgjihagigcaaGreatDoor
open Sg Go.IntWalk
set_option maxRecDepth 100000
set_option maxHeartbeats 4000000
section
variable {F:World} {M:List Nat} {H:List Res} {p:Nat} {t:List UInt8} {m:Value} {a s:Nat} {k:List UInt8} {c b:Int} {oa na:Option Addr} {oc nc:Nat} {out:List Nd} {is:List Nat}
def pmN (t:List UInt8) (q:Nat):Nat:=if bAt t q=45 then q+1 else q
theorem Z6r (q:Nat):Z0y t q=if bAt t q=48 then .ok (q+1) () else ZF t q:=by
 unfold Z0y
 rw [Zs (by decide)]
 simp only [decide_eq_true_eq]
 rfl
theorem Z5K (q:Nat):ZU t q=if bAt t q=46 then ZF t (q+1) else .ok q ():=by
 unfold ZU
 rw [Zs (by decide)]
 simp only [decide_eq_true_eq]
 rfl
theorem Z5J (q:Nat):Z0t t q=if bAt t q=43∨bAt t q=45 then q+1 else q:=by
 unfold Z0t
 rw [Zs (by decide),Zs (by decide)]
 simp only [Bool.or_eq_true,decide_eq_true_eq]
 rfl
theorem Z6s (q:Nat):Z0z t q=if bAt t q=101∨bAt t q=69 then ZF t (Z0t t (q+1)) else .ok q ():=by
 unfold Z0z
 rw [Zs (by decide),Zs (by decide)]
 simp only [Bool.or_eq_true,decide_eq_true_eq]
 rfl
theorem Z84 (q:Nat):numX t q=(Z0y t (pmN t q)).bind fun a _=>(ZU t a).bind fun b _=>Z0z t b:=by
 unfold numX pmN
 rw [Zs (by decide)]
 simp only [decide_eq_true_eq]
 rfl
def Z6q (t:List UInt8) (a a':Nat):Nd:={ nd 4 with text:=sl t a a',int:=(Z9 (sl t a a')).1,whole:=(Z9 (sl t a a')).2 }
theorem Z4A (ha:a < t.length) (hl:t.length≤262144) (hi:∀ i r,is=i::r→i < out.length) (hol:out.length≤1000000) (hs:is.length≤1000000) (hkid:∀ x∈out,0≤x.kids∧x.kids≤1000000) :
  Meets Tryz.prog 122 [.pointer (some ⟨p,0,none⟩)] F M (.blk p (jrV t (.slice oa out.length oc) (.slice na is.length nc) m a s k c b) 136::ouR oa oc out::opR na nc is::H)
   (match numX t a with
    | .ok a' _=>Z8i p t na nc m is out k c b H a' (Z6q t a a')
    | .bad c' b'=>Z70 p t (ouR oa oc out::opR na nc is::H) c' b'):=by
 refine Meets.enter Tryz.func122 rfl rfl ?_
 have hX:=Z84 (t:=t) a
 have hfit:=Z1o (t:=t) (p:=a) (by omega)
 generalize numX t a=X at *
 refine S.seq ?_
 repeat' (first|(apply T.asn;apply rfl;apply rfl)|(with_reducible first|refine Sr.nil ?_|refine S.reg ?_)|fail)
 refine S.seq ?_
 repeat' (first|((first|apply T.mv|apply T.asn|apply T.nilCheck|apply T.fieldAddrZ);apply rfl;apply rfl)|(apply T.load;apply rfl;apply rfl;infer_instance;apply rfl;apply rfl)|(with_reducible first|refine Sr.nil ?_|refine S.reg ?_)|fail)
 refine S.seq ?_
 have hu:=fun q=>Z14 t q
 have h0:∀ q,bAt t q≠0→q < t.length:=fun q=>Z7
 refine S.cut (fun H' e'=>H'=.blk p (jrV t (.slice oa out.length oc) (.slice na is.length nc) m (pmN t a) s k c b) 136::ouR oa oc out::opR na nc is::H∧e'=[(0,.pointer (some ⟨p,0,none⟩)),(3,.int .i64 a)]) ?_ ?_
 ·intro k' hrest
  have hua:=hu a
  repeat' (first|(apply T.mv;apply rfl;apply rfl)|(with_reducible first|refine S.seq ?_|refine S.reg ?_)|fail)
  refine T.call rfl rfl Zw ?_
  rintro _ _ ⟨rfl,rfl⟩
  unfold pmN at hrest
  by_cases h1:bAt t a=45
  ·rw [if_pos h1] at hrest
   repeat' (first|((first|apply T.mv|apply T.nilCheck|apply T.fieldAddrZ);apply rfl;apply rfl)|(apply T.load;apply rfl;apply rfl;infer_instance;apply rfl;apply rfl)|(apply T.eql;(iterate 3 apply rfl))|(apply T.addI;apply rfl;apply rfl;omega;apply rfl)|(apply T.store;apply rfl;apply rfl;infer_instance;(first|decide|(simp;omega)|simp);apply rfl)|(with_reducible first|refine Sr.nil ?_|refine S.reg ?_)|(apply S.condQ;apply rfl;all_goals (intro _;try (exfalso;first|omega|with_reducible contradiction)))|(with_reducible apply T.ofRet)|fail)
   exact hrest _ _ _ ⟨rfl,rfl⟩ (by repeat' first|exact trivial|refine And.intro rfl ?_)
  ·rw [if_neg h1] at hrest
   repeat' (first|(apply T.eql;(iterate 3 apply rfl))|(with_reducible first|refine Sr.nil ?_|refine S.skip ?_)|(apply S.condQ;apply rfl;all_goals (intro _;try (exfalso;first|omega|with_reducible contradiction)))|(with_reducible apply T.ofRet)|fail)
   exact hrest _ _ _ ⟨rfl,rfl⟩ (by repeat' first|exact trivial|refine And.intro rfl ?_)
 rintro _ _ ⟨rfl,rfl⟩
 have hpm:pmN t a≤t.length:=by
  unfold pmN
  split
  ·have:=h0 a (by omega);omega
  ·omega
 generalize pmN t a=q1 at *
 refine S.seq ?_
 refine S.cut (fun H' e'=>∃ q2,Z0y t q1=.ok q2 ()∧H'=.blk p (jrV t (.slice oa out.length oc) (.slice na is.length nc) m q2 s k c b) 136::ouR oa oc out::opR na nc is::H∧e'=[(0,.pointer (some ⟨p,0,none⟩)),(3,.int .i64 a)]∧q2≤t.length) ?_ ?_
 ·intro k' hrest
  have hua:=hu q1
  have hn:=Z6r (t:=t) q1
  repeat' (first|(apply T.mv;apply rfl;apply rfl)|(with_reducible first|refine S.seq ?_|refine S.reg ?_)|fail)
  refine T.call rfl rfl Zw ?_
  rintro _ _ ⟨rfl,rfl⟩
  by_cases h1:bAt t q1=48
  ·rw [if_pos h1] at hn
   have:=h0 q1 (by omega)
   repeat' (first|((first|apply T.mv|apply T.nilCheck|apply T.fieldAddrZ);apply rfl;apply rfl)|(apply T.load;apply rfl;apply rfl;infer_instance;apply rfl;apply rfl)|(apply T.eql;(iterate 3 apply rfl))|(apply T.addI;apply rfl;apply rfl;omega;apply rfl)|(apply T.store;apply rfl;apply rfl;infer_instance;(first|decide|(simp;omega)|simp);apply rfl)|(with_reducible first|refine Sr.nil ?_|refine S.reg ?_)|(apply S.condQ;apply rfl;all_goals (intro _;try (exfalso;first|omega|with_reducible contradiction)))|(with_reducible apply T.ofRet)|fail)
   exact hrest _ _ _ ⟨q1+1,hn,rfl,rfl,by omega⟩ (by repeat' first|exact trivial|refine And.intro rfl ?_)
  ·rw [if_neg h1] at hn
   repeat' (first|(apply T.mv;apply rfl;apply rfl)|(apply T.eql;(iterate 3 apply rfl))|(with_reducible first|refine Sr.nil ?_|refine S.seq ?_|refine S.reg ?_)|(apply S.condQ;apply rfl;all_goals (intro _;try (exfalso;first|omega|with_reducible contradiction)))|(with_reducible apply T.ofRet)|fail)
   refine T.call rfl rfl (Z0v hpm (by omega)) ?_
   have hd:=Zt (t:=t) (p:=q1) hpm
   cases hx:ZF t q1 with
   | ok q2 u =>
    rintro _ _ ⟨rfl,rfl⟩
    repeat' (first|(apply T.notB;apply rfl;apply rfl)|(with_reducible first|refine Sr.nil ?_|refine S.skip ?_)|(apply S.condFV;apply rfl;(first|with_reducible rfl|decide))|(with_reducible apply T.ofRet)|fail)
    exact hrest _ _ _ ⟨q2,hn.trans hx,rfl,rfl,(hd q2 u hx).2⟩ (by repeat' first|exact trivial|refine And.intro rfl ?_)
   | bad e1 r1 =>
    rintro _ _ ⟨a1,rfl,rfl⟩
    rw [hn,hx] at hX
    subst hX
    repeat' (first|(apply T.asn;apply rfl;apply rfl)|(apply T.notB;apply rfl;apply rfl)|(with_reducible first|refine Sr.nil ?_|refine S.seq ?_|refine S.reg ?_)|(apply S.condTV;apply rfl;(first|with_reducible rfl|decide))|(apply T.retW;apply rfl)|(with_reducible apply T.ofRet)|fail)
    exact ⟨_,PSub.refl _,_,_,_,_,_,_,rfl,rfl⟩
 rintro _ _ ⟨q2,hq2,rfl,rfl,hl2⟩
 rw [hq2] at hX
 refine S.seq ?_
 refine S.cut (fun H' e'=>∃ q3,ZU t q2=.ok q3 ()∧H'=.blk p (jrV t (.slice oa out.length oc) (.slice na is.length nc) m q3 s k c b) 136::ouR oa oc out::opR na nc is::H∧e'=[(0,.pointer (some ⟨p,0,none⟩)),(3,.int .i64 a)]∧q3≤t.length) ?_ ?_
 ·intro k' hrest
  have hua:=hu q2
  have hn:=Z5K (t:=t) q2
  repeat' (first|(apply T.mv;apply rfl;apply rfl)|(with_reducible first|refine S.seq ?_|refine S.reg ?_)|fail)
  refine T.call rfl rfl Zw ?_
  rintro _ _ ⟨rfl,rfl⟩
  by_cases h1:bAt t q2=46
  ·rw [if_pos h1] at hn
   have h4:=h0 q2 (by omega)
   repeat' (first|((first|apply T.mv|apply T.nilCheck|apply T.fieldAddrZ);apply rfl;apply rfl)|(apply T.load;apply rfl;apply rfl;infer_instance;apply rfl;apply rfl)|(apply T.eql;(iterate 3 apply rfl))|(apply T.addI;apply rfl;apply rfl;omega;apply rfl)|(apply T.store;apply rfl;apply rfl;infer_instance;(first|decide|(simp;omega)|simp);apply rfl)|(with_reducible first|refine Sr.nil ?_|refine S.seq ?_|refine S.reg ?_)|(apply S.condQ;apply rfl;all_goals (intro _;try (exfalso;first|omega|with_reducible contradiction)))|(with_reducible apply T.ofRet)|fail)
   refine T.call rfl rfl (Z0v (a:=q2+1) (by omega) (by omega)) ?_
   have hd:=Zt (t:=t) (p:=q2+1) (by omega)
   cases hx:ZF t (q2+1) with
   | ok q3 u =>
    rintro _ _ ⟨rfl,rfl⟩
    repeat' (first|(apply T.notB;apply rfl;apply rfl)|(with_reducible first|refine Sr.nil ?_|refine S.skip ?_)|(apply S.condFV;apply rfl;(first|with_reducible rfl|decide))|(with_reducible apply T.ofRet)|fail)
    exact hrest _ _ _ ⟨q3,hn.trans hx,rfl,rfl,(hd q3 u hx).2⟩ (by repeat' first|exact trivial|refine And.intro rfl ?_)
   | bad e1 r1 =>
    rintro _ _ ⟨a1,rfl,rfl⟩
    simp only [Gt.bind] at hX
    rw [hn,hx] at hX
    simp only at hX
    subst hX
    repeat' (first|(apply T.asn;apply rfl;apply rfl)|(apply T.notB;apply rfl;apply rfl)|(with_reducible first|refine Sr.nil ?_|refine S.seq ?_|refine S.reg ?_)|(apply S.condTV;apply rfl;(first|with_reducible rfl|decide))|(apply T.retW;apply rfl)|(with_reducible apply T.ofRet)|fail)
    exact ⟨_,PSub.refl _,_,_,_,_,_,_,rfl,rfl⟩
  ·rw [if_neg h1] at hn
   repeat' (first|(apply T.eql;(iterate 3 apply rfl))|(with_reducible first|refine Sr.nil ?_|refine S.skip ?_)|(apply S.condQ;apply rfl;all_goals (intro _;try (exfalso;first|omega|with_reducible contradiction)))|(with_reducible apply T.ofRet)|fail)
   exact hrest _ _ _ ⟨q2,hn,rfl,rfl,hl2⟩ (by repeat' first|exact trivial|refine And.intro rfl ?_)
 rintro _ _ ⟨q3,hq3,rfl,rfl,hl3⟩
 simp only [Gt.bind] at hX
 rw [hq3] at hX
 simp only at hX
 refine S.seq ?_
 refine S.cut (fun H' e'=>∃ q4,Z0z t q3=.ok q4 ()∧H'=.blk p (jrV t (.slice oa out.length oc) (.slice na is.length nc) m q4 s k c b) 136::ouR oa oc out::opR na nc is::H∧e'=[(0,.pointer (some ⟨p,0,none⟩)),(3,.int .i64 a)]∧q4≤t.length) ?_ ?_
 ·intro k' hrest
  have hua:=hu q3
  have hub:=hu (q3+1)
  have hn:=Z6s (t:=t) q3
  repeat' (first|(apply T.mv;apply rfl;apply rfl)|(with_reducible first|refine S.seq ?_|refine S.reg ?_)|fail)
  refine T.call rfl rfl Zw ?_
  rintro _ _ ⟨rfl,rfl⟩
  by_cases h1:bAt t q3=101∨bAt t q3=69
  ·rw [if_pos h1,Z5J] at hn
   have h4:=h0 q3 (by omega)
   repeat' (first|((first|apply T.mv|apply T.asn|apply T.nilCheck|apply T.fieldAddrZ);apply rfl;apply rfl)|(apply T.load;apply rfl;apply rfl;infer_instance;apply rfl;apply rfl)|(apply T.eql;(iterate 3 apply rfl))|(apply T.addI;apply rfl;apply rfl;omega;apply rfl)|(apply T.pickT;(iterate 3 apply rfl))|(apply T.pickF;(iterate 3 apply rfl))|(apply T.store;apply rfl;apply rfl;infer_instance;(first|decide|(simp;omega)|simp);apply rfl)|(with_reducible first|refine Sr.nil ?_|refine S.seq ?_|refine S.reg ?_)|(apply T.ungV;apply rfl;(first|with_reducible rfl|decide))|(apply T.skip;apply rfl;(first|with_reducible rfl|decide);apply rfl)|(apply S.condTV;apply rfl;(first|with_reducible rfl|decide))|(apply S.condQ;apply rfl;all_goals (intro _;try (exfalso;first|omega|with_reducible contradiction)))|(apply T.gcase;apply rfl;apply rfl;all_goals (intro _;try (exfalso;first|omega|with_reducible contradiction)))|(with_reducible apply T.ofRet)|fail)
   all_goals
    refine T.call rfl rfl (Zw (a:=q3+1)) ?_
    rintro _ _ ⟨rfl,rfl⟩
    by_cases h5:bAt t (q3+1)=43∨bAt t (q3+1)=45
    ·rw [if_pos h5] at hn
     have h6:=h0 (q3+1) (by omega)
     repeat' (first|((first|apply T.mv|apply T.asn|apply T.nilCheck|apply T.fieldAddrZ);apply rfl;apply rfl)|(apply T.load;apply rfl;apply rfl;infer_instance;apply rfl;apply rfl)|(apply T.eql;(iterate 3 apply rfl))|(apply T.addI;apply rfl;apply rfl;omega;apply rfl)|(apply T.pickT;(iterate 3 apply rfl))|(apply T.pickF;(iterate 3 apply rfl))|(apply T.store;apply rfl;apply rfl;infer_instance;(first|decide|(simp;omega)|simp);apply rfl)|(with_reducible first|refine Sr.nil ?_|refine S.seq ?_|refine S.reg ?_)|(apply T.ungV;apply rfl;(first|with_reducible rfl|decide))|(apply T.skip;apply rfl;(first|with_reducible rfl|decide);apply rfl)|(apply S.condTV;apply rfl;(first|with_reducible rfl|decide))|(apply S.condQ;apply rfl;all_goals (intro _;try (exfalso;first|omega|with_reducible contradiction)))|(apply T.gcase;apply rfl;apply rfl;all_goals (intro _;try (exfalso;first|omega|with_reducible contradiction)))|(with_reducible apply T.ofRet)|fail)
     all_goals
      refine T.call rfl rfl (Z0v (a:=q3+1+1) (by omega) (by omega)) ?_
      have hd:=Zt (t:=t) (p:=q3+1+1) (by omega)
      cases hx:ZF t (q3+1+1) with
      | ok q4 u =>
       rintro _ _ ⟨rfl,rfl⟩
       repeat' (first|(apply T.notB;apply rfl;apply rfl)|(with_reducible first|refine Sr.nil ?_|refine S.skip ?_)|(apply S.condFV;apply rfl;(first|with_reducible rfl|decide))|(with_reducible apply T.ofRet)|fail)
       exact hrest _ _ _ ⟨q4,hn.trans hx,rfl,rfl,(hd q4 u hx).2⟩ (by repeat' first|exact trivial|refine And.intro rfl ?_)
      | bad e1 r1 =>
       rintro _ _ ⟨a1,rfl,rfl⟩
       rw [hn,hx] at hX
       subst hX
       repeat' (first|(apply T.asn;apply rfl;apply rfl)|(apply T.notB;apply rfl;apply rfl)|(with_reducible first|refine Sr.nil ?_|refine S.seq ?_|refine S.reg ?_)|(apply S.condTV;apply rfl;(first|with_reducible rfl|decide))|(apply T.retW;apply rfl)|(with_reducible apply T.ofRet)|fail)
       exact ⟨_,PSub.refl _,_,_,_,_,_,_,rfl,rfl⟩
    ·rw [if_neg h5] at hn
     have h7:¬bAt t (q3+1)=43∧¬bAt t (q3+1)=45:=not_or.1 h5
     repeat' (first|((first|apply T.mv|apply T.asn);apply rfl;apply rfl)|(apply T.eql;(iterate 3 apply rfl))|(apply T.pickF;(iterate 3 apply rfl))|(with_reducible first|refine Sr.nil ?_|refine S.seq ?_|refine S.reg ?_|refine S.skip ?_)|(apply T.ungV;apply rfl;(first|with_reducible rfl|decide))|(apply S.condQ;apply rfl;all_goals (intro _;try (exfalso;first|omega|with_reducible contradiction)))|(apply T.gcase;apply rfl;apply rfl;all_goals (intro _;try (exfalso;first|omega|with_reducible contradiction)))|(with_reducible apply T.ofRet)|fail)
     refine T.call rfl rfl (Z0v (a:=q3+1) (by omega) (by omega)) ?_
     have hd:=Zt (t:=t) (p:=q3+1) (by omega)
     cases hx:ZF t (q3+1) with
     | ok q4 u =>
      rintro _ _ ⟨rfl,rfl⟩
      repeat' (first|(apply T.notB;apply rfl;apply rfl)|(with_reducible first|refine Sr.nil ?_|refine S.skip ?_)|(apply S.condFV;apply rfl;(first|with_reducible rfl|decide))|(with_reducible apply T.ofRet)|fail)
      exact hrest _ _ _ ⟨q4,hn.trans hx,rfl,rfl,(hd q4 u hx).2⟩ (by repeat' first|exact trivial|refine And.intro rfl ?_)
     | bad e1 r1 =>
      rintro _ _ ⟨a1,rfl,rfl⟩
      rw [hn,hx] at hX
      subst hX
      repeat' (first|(apply T.asn;apply rfl;apply rfl)|(apply T.notB;apply rfl;apply rfl)|(with_reducible first|refine Sr.nil ?_|refine S.seq ?_|refine S.reg ?_)|(apply S.condTV;apply rfl;(first|with_reducible rfl|decide))|(apply T.retW;apply rfl)|(with_reducible apply T.ofRet)|fail)
      exact ⟨_,PSub.refl _,_,_,_,_,_,_,rfl,rfl⟩
  ·rw [if_neg h1] at hn
   have h7:¬bAt t q3=101∧¬bAt t q3=69:=not_or.1 h1
   repeat' (first|((first|apply T.mv|apply T.asn);apply rfl;apply rfl)|(apply T.eql;(iterate 3 apply rfl))|(apply T.pickF;(iterate 3 apply rfl))|(with_reducible first|refine Sr.nil ?_|refine S.seq ?_|refine S.reg ?_|refine S.skip ?_)|(apply T.ungV;apply rfl;(first|with_reducible rfl|decide))|(apply S.condQ;apply rfl;all_goals (intro _;try (exfalso;first|omega|with_reducible contradiction)))|(apply T.gcase;apply rfl;apply rfl;all_goals (intro _;try (exfalso;first|omega|with_reducible contradiction)))|(with_reducible apply T.ofRet)|fail)
   exact hrest _ _ _ ⟨q3,hn,rfl,rfl,hl3⟩ (by repeat' first|exact trivial|refine And.intro rfl ?_)
 rintro _ _ ⟨q4,hq4,rfl,rfl,hl4⟩
 rw [hq4] at hX
 subst hX
 obtain ⟨hf1,hf2⟩:=hfit q4 () rfl
 simp only
 have hsl:(sl t a q4).length≤262144:=by
  unfold sl
  rw [List.length_take,List.length_drop]
  omega
 refine S.seq ?_
 (apply S.draw;(case Hs=>exact .blk p (jrV t (.slice oa out.length oc) (.slice na is.length nc) m q4 s k c b) 136::ouR oa oc out::opR na nc is::H);(case es=>exact  [11,12]);(case n=>exact  13);(case hn=>rfl))
 repeat' (first|(apply T.sslice;(iterate 3 apply rfl);omega;apply rfl)|((first|apply T.mv|apply T.nilCheck|apply T.fieldAddrZ);apply rfl;apply rfl)|(apply T.load;apply rfl;apply rfl;infer_instance;apply rfl;apply rfl)|(apply T.buildL;(iterate 3 apply rfl))|(apply T.storeW;apply rfl;apply rfl;infer_instance;(first|rfl|(simp only [List.length_append,List.length_map,List.length_set,List.length_replicate,List.length_cons,List.length_nil];first|done|omega));(first|rfl|(simp only [List.length_append,List.length_map,List.length_set,List.length_replicate,List.length_cons,List.length_nil];first|done|omega));(first|rfl|(repeat' first|apply all_nV|apply all_bV|apply all_iV|rfl|apply all_app)))|(apply T.alloc;apply rfl;intro nb)|(with_reducible first|refine Sr.nil ?_|refine S.seq ?_|refine S.reg ?_)|(apply SA.qz;(iterate 4 apply rfl);kernel_rfl)|(apply SA.qsn;(iterate 3 apply rfl);kernel_rfl;(first|exact fun _ h=>h|exact fun _ h=>St.psub h (by ((repeat (first|dsimp only [List.set_cons_zero]|dsimp only [List.set_cons_succ]));repeat' first|exact PSub.refl _|exact PSub.nil|(apply PSub.take;(repeat' first|(with_reducible exact Z0)|(with_reducible apply Z1)))|(with_reducible apply PSub.drop)|((apply PSub.take);(repeat' first|exact Z0|(apply Z1)))))))|(apply SA.en;apply rfl;apply rfl;kernel_rfl)|(apply SA.done;apply rfl;kernel_rfl)|(apply SK.intro;(first|exact fun _ h=>h|exact fun _ h=>St.psub h (by ((repeat (first|dsimp only [List.set_cons_zero]|dsimp only [List.set_cons_succ]));repeat' first|exact PSub.refl _|exact PSub.nil|(apply PSub.take;(repeat' first|(with_reducible exact Z0)|(with_reducible apply Z1)))|(with_reducible apply PSub.drop)|((apply PSub.take);(repeat' first|exact Z0|(apply Z1)))))))|fail)
 refine T.call rfl rfl (Z5v (t:=sl t a q4) (by omega)) ?_
 rintro _ _ ⟨rfl,hH⟩
 have hH2:=hH.symm
 subst hH2
 repeat' (first|((first|apply T.mv|apply T.fieldAddrZ);apply rfl;apply rfl)|(apply T.extract;(iterate 3 apply rfl))|(apply T.loadW;apply rfl;apply rfl;infer_instance;(first|rfl|(simp only [List.length_append,List.length_map,List.length_set,List.length_replicate,List.length_cons,List.length_nil];first|done|omega));apply rfl)|(apply T.store;apply rfl;apply rfl;infer_instance;(first|decide|(simp;omega)|simp);apply rfl)|(with_reducible first|refine Sr.nil ?_|refine S.seq ?_|refine S.reg ?_)|(with_reducible apply T.ofRet)|fail)
 refine Sr.drop ?_
 refine T.call rfl rfl (Z28 (n:=Z6q t a q4) hi hol hs hkid) ?_
 rintro _ _ ⟨oa',oc',rfl,rfl⟩
 repeat' (first|(apply T.mv;apply rfl;apply rfl)|(with_reducible first|refine Sr.nil ?_|refine S.seq ?_|refine S.reg ?_)|(with_reducible apply T.ofRet)|fail)
 refine T.call rfl rfl Z0w ?_
 rintro _ _ ⟨rfl,rfl⟩
 repeat' (first|(apply T.asn;apply rfl;apply rfl)|(with_reducible first|refine Sr.nil ?_|refine S.seq ?_|refine S.reg ?_)|(apply T.retW;apply rfl)|(with_reducible apply T.ofRet)|fail)
 exact ⟨_,PSub.refl _,oa',oc',rfl,rfl⟩
end
end Go.Proofs.YthomgjihagigcaaGreatDoor
/- The walks of the program's reader of JSON: its state and the plain machine's. -/
namespace Go.Proofs.YthomgjihagigcaaGreatDoor
open Sg Go.IntWalk
set_option maxRecDepth 100000
set_option maxHeartbeats 4000000
def OptR:Option (Nat × Ents)→Option (List (List UInt8))→Prop
 | none,none=>True
 | some y,some ns=>∀ x,eget y.2 x=if x∈ns then some 1 else none
 | _,_=>False
def StR:Stk→List (Nat × Option (List (List UInt8)))→Prop
 | [],[]=>True
 | x::r,z::q=>x.1=z.1∧OptR x.2 z.2∧StR r q
 | _,_=>False
structure Inv (t:List UInt8) (C:Jc):Prop where
 at_:C.a≤t.length
 outl:C.out.length≤C.a
 kids:∀ x∈C.out,0≤x.kids∧x.kids≤C.out.length
 idx:∀ x∈C.st,x.1 < C.out.length
 kind:∀ x∈C.st,(C.out.getD x.1 default).kind=if x.2.isSome=true then 7 else 6
 maps:∀ x∈C.st,∀ y,x.2=some y→y.2.length≤C.a
 dep:C.st.length≤32
structure Rel (C:Jc) (c:Cf):Prop where
 p:C.a=c.p
 s:C.s=c.s
 out:C.out=c.out
 key:C.k=c.key
 stk:StR C.st c.stk
theorem StR.len:∀ {a:Stk} {b:List (Nat × Option (List (List UInt8)))},StR a b→a.length=b.length
 | [],[],_=>rfl
 | _::_,_::_,h=>by rw [List.length_cons,List.length_cons,StR.len h.2.2]
 | [],_::_,h=>h.elim
 | _::_,[],h=>h.elim
theorem StR.fst:∀ {a:Stk} {b:List (Nat × Option (List (List UInt8)))},StR a b→a.map (·.1)=b.map (·.1)
 | [],[],_=>rfl
 | _::_,_::_,h=>by rw [List.map_cons,List.map_cons,h.1,StR.fst h.2.2]
 | [],_::_,h=>h.elim
 | _::_,[],h=>h.elim
theorem StR.beh {a:Stk} {b:List (Nat × Option (List (List UInt8)))} (h:StR a b):(if a.length=0 then 6 else 5)=behS b:=by
 cases a with
 | nil=>cases b with
  | nil=>rfl
  | cons _ _=>exact h.elim
 | cons _ _=>cases b with
  | nil=>exact h.elim
  | cons _ _=>rfl
theorem ZD (H:List Res):∀ st:Stk,PSub H (ZS st H)
 | []=>PSub.refl _
 | (_,none)::r=>ZD H r
 | (_,some _)::r=>PSub.drop (ZD H r)
def StepP (p:Nat) (t:List UInt8) (H:List Res):Nx→Ending→List Res→Prop
 | .go c'=>fun e H'=>∃ C':Jc,e=.returned (.bool true)∧H'=C'.res p t H∧Rel C' c'∧Inv t C'
 | .stop code at_=>fun e H'=>∃ (o n m:Value) (a s:Nat) (k:List UInt8),e=.returned (.bool false)∧H'=.blk p (jrV t o n m a s k code at_) 136::H
theorem StepP.bool {p:Nat} {t:List UInt8} {H H':List Res} {r:Nx} {e:Ending} (h:StepP p t H r e H'):∃ v,e=.returned (.bool v):=by
 cases r with
 | go c' =>
  obtain ⟨C',h1,_⟩:=h
  exact ⟨_,h1⟩
 | stop c a =>
  obtain ⟨_,_,_,_,_,_,h1,_⟩:=h
  exact ⟨_,h1⟩
theorem Z5Z {out:List Nd} {is:List Nat} {L:Nat} (h:∀ x∈out,0≤x.kids∧x.kids≤L):∀ x∈ZC out is,0≤x.kids∧x.kids≤L+1:=by
 intro x hx
 cases is with
 | nil =>
  have:=h x hx
  omega
 | cons i r =>
  rcases Nat.lt_or_ge i out.length with hi|hi
  ·rw [ZC,Z2O out i Nd.more hi] at hx
   rcases List.mem_or_eq_of_mem_set hx with hx|rfl
   ·have:=h x hx
    omega
   ·have:=h (out.getD i default) (by rw [List.getD_eq_getElem?_getD,List.getElem?_eq_getElem hi,Option.getD_some];exact List.getElem_mem hi)
    show 0≤(out.getD i default).kids+1∧(out.getD i default).kids+1≤L+1
    omega
  ·have h1:ZC out (i::r)=out:=by
    rw [ZC]
    exact List.modify_eq_self (by omega)
   rw [h1] at hx
   have:=h x hx
   omega
theorem Z6E {out:List Nd} {is:List Nat} {n:Nd} {j:Nat} (h:j < out.length):((ZC out is++[n]).getD j default).kind=(out.getD j default).kind:=by
 have h1:j < (ZC out is).length:=by rw [Z1u];exact h
 rw [List.getD_eq_getElem?_getD,List.getElem?_append_left h1,←List.getD_eq_getElem?_getD]
 cases is with
 | nil=>rfl
 | cons i r =>
  rw [ZC]
  simp only [List.getD_eq_getElem?_getD,List.getElem?_modify]
  by_cases hij:i=j
  ·subst hij
   rw [List.getElem?_eq_getElem h]
   simp [Nd.more]
  ·cases out[j]?<;>simp [hij]
section
variable {F:World} {M:List Nat} {H:List Res} {p:Nat} {t:List UInt8} {C:Jc} {c:Cf}
theorem Inv.laid (hi:Inv t C) {n:Nd} (hn:n.kids=0) {a':Nat} (h1:C.a < a') (h2:a'≤t.length) {oa':Option Addr} {oc' s':Nat} {k':List UInt8} :
  Inv t { C with oa:=oa',oc:=oc',out:=ZC C.out (C.st.map (·.1))++[n.named C.k],a:=a',s:=s',k:=k' } where
 at_:=h2
 outl:=by
  have:=hi.outl
  show (ZC C.out (C.st.map (·.1))++[n.named C.k]).length≤a'
  rw [Z0R]
  omega
 kids:=fun x hx=>by
  show 0≤x.kids∧x.kids≤((ZC C.out (C.st.map (·.1))++[n.named C.k]).length:Nat)
  rw [Z0R]
  rcases List.mem_append.1 hx with hx|hx
  ·exact Z5Z hi.kids x hx
  ·rw [List.mem_singleton] at hx
   subst hx
   show 0≤n.kids∧n.kids≤_
   rw [hn]
   omega
 idx:=fun x hx=>by
  have:=hi.idx x hx
  show x.1 < (ZC C.out (C.st.map (·.1))++[n.named C.k]).length
  rw [Z0R]
  omega
 kind:=fun x hx=>(Z6E (hi.idx x hx)).trans (hi.kind x hx)
 maps:=fun x hx y hy=>by
  have:=hi.maps x hx y hy
  show y.2.length≤a'
  omega
 dep:=hi.dep
theorem Z29 (hr:Rel C c) (hi:Inv t C) {n:Nd} (hn:n.kids=0) {a':Nat} (h1:C.a < a') (h2:a'≤t.length) {e:Ending} {H':List Res}
  (h:Z8i p t C.na C.nc (.slice C.ma C.st.length C.mc) (C.st.map (·.1)) C.out C.k 0 0 (nmR C.ma C.mc C.st::ZS C.st H) a' n e H'):StepP p t H (.go (Cf.behind (Cf.lay { c with p:=a' } n))) e H':=by
 obtain ⟨oa',oc',rfl,rfl⟩:=h
 refine ⟨{ C with oa:=oa',oc:=oc',out:=ZC C.out (C.st.map (·.1))++[n.named C.k],a:=a',s:=if C.st.length=0 then 6 else 5,k:=[] },rfl,?_,⟨rfl,hr.stk.beh,?_,rfl,hr.stk⟩,hi.laid hn h1 h2⟩
 ·unfold Jc.res Jc.cells
  dsimp only [ouR,opR,opS]
  rw [Z0R,List.length_map]
 ·show ZC C.out (C.st.map (·.1))++[n.named C.k]=bump c.out c.stk++[n.named c.key]
  rw [Z6W,hr.out,hr.key,hr.stk.fst]
theorem Z2V {code:Int} {at_:Nat} {e:Ending} {H' H₀:List Res} (hp:PSub H H₀) (h:Z70 p t H₀ code at_ e H') {w:World} (hw:St F M w H'):∃ H'',StepP p t H (.stop code at_) e H''∧St F M w H'':=by
 obtain ⟨o,n,m,a,s,k,rfl,rfl⟩:=h
 exact ⟨_,⟨o,n,m,a,s,k,rfl,rfl⟩,hw.psub (PSub.take Z0 hp)⟩
theorem Meets.of_st {P:Program} {g:FuncId} {args:List Value} {H:List Res} {post post':Ending→List Res→Prop} (h:Meets P g args F M H post) (hp:∀ e H' w,post e H'→St F M w H'→∃ H'',post' e H''∧St F M w H''):Meets P g args F M H post':=fun w hw =>
 (h w hw).mono fun e w' ⟨H',h1,h2⟩=>hp e H' w' h1 h2
theorem Z0H {w:List UInt8} {kd:Nat} (hw:∀ x∈w,x≠0) (hwl:w.length≤100) (h0:0 < w.length) (hr:Rel C c) (hi:Inv t C) (hl:t.length≤262144) :
  Meets Tryz.prog 123 [.pointer (some ⟨p,0,none⟩),sV w,.int .i64 kd] F M (C.res p t H) (StepP p t H (match (ZL t c.p w).bind (fun a _=>Gt.ok a [nd kd]) with
   | .bad e a=>.stop e a
   | .ok a l=>.go (Cf.behind (Cf.lay { c with p:=a } (l.headD (nd 0)))))):=by
 have hk:∀ x∈C.out,0≤x.kids∧x.kids≤1000000:=fun x hx=>by
  have:=hi.kids x hx
  have:=hi.outl
  have:=hi.at_
  omega
 have ho:=hi.outl
 have ha:=hi.at_
 have hd:=hi.dep
 have hx:∀ i r,C.st.map (·.1)=i::r→i < C.out.length:=fun i r h=>by
  cases hs:C.st with
  | nil=>rw [hs] at h;cases h
  | cons x q =>
   rw [hs] at h
   simp only [List.map_cons,List.cons.injEq] at h
   have:=hi.idx x (by rw [hs];exact List.mem_cons_self ..)
   omega
 have h:=Z3Q (F:=F) (M:=M) (p:=p) (t:=t) (H:=nmR C.ma C.mc C.st::ZS C.st H) (m:=.slice C.ma C.st.length C.mc) (a:=C.a) (s:=C.s) (k:=C.k) (c:=0) (b:=0) (oa:=C.oa) (na:=C.na) (oc:=C.oc) (nc:=C.nc) (out:=C.out) (is:=C.st.map (·.1)) (w:=w) (kd:=kd) hw hwl hi.at_ hl hx (by omega) (by rw [List.length_map];omega) hk
 have hfit:=Z0f (t:=t) (ws:=w) hi.at_
 rw [hr.p] at h hfit
 have hml:(C.st.map (·.1)).length=C.st.length:=List.length_map _
 cases hx:ZL t c.p w with
 | ok a' u =>
  rw [hx] at h
  obtain ⟨f1,f2⟩:=hfit a' u hx
  refine (show Meets _ _ _ F M (C.res p t H) _ from ?_)
  have h':=h.mono (post':=StepP p t H (.go (Cf.behind (Cf.lay { c with p:=a' } (nd kd))))) (fun e H' hL=>Z29 hr hi rfl (by rw [hr.p];omega) f2 hL)
  unfold Jc.res Jc.cells
  dsimp only [opR,opS] at h' ⊢
  rw [hml,←hr.p] at h'
  exact h'
 | bad e1 q1 =>
  rw [hx] at h
  have h':=Meets.of_st (post':=StepP p t H (.stop e1 q1)) h (fun e H' w hF hw=>Z2V (PSub.drop (PSub.drop (PSub.drop (ZD H C.st)))) hF hw)
  unfold Jc.res Jc.cells
  dsimp only [opR,opS] at h' ⊢
  rw [hml,←hr.p] at h'
  exact h'
end
end Go.Proofs.YthomgjihagigcaaGreatDoor
/- Entries put into a map: what it says then, in plain Lean. -/
namespace Sg
theorem Z44 (x:List UInt8 × Int) (n:List UInt8):∀ m:Ents,(∀ p∈m,p.1≠x.1)→eget (eins x m) n=if x.1=n then some x.2 else eget m n
 | [],_=>by
  unfold eins eget
  by_cases h:x.1=n<;>simp [h]
 | q::r,hm=>by
  have hq:q.1≠x.1:=hm q (List.mem_cons_self ..)
  have ih:=Z44 x n r (fun p hp=>hm p (List.mem_cons_of_mem _ hp))
  unfold eins
  split
  ·unfold eget
   by_cases h:x.1=n
   ·simp [h]
   ·simp [h]
  ·by_cases h2:q.1=n
   ·have h3:¬x.1=n:=fun e=>hq (h2.trans e.symm)
    rw [if_neg h3]
    unfold eget
    simp [h2]
   ·have e1:∀ l:Ents,eget (q::l) n=eget l n:=fun l=>by
     unfold eget
     simp [h2]
    rw [e1,e1,ih]
theorem Z6T (k n:List UInt8) (m:Ents) (h:k≠n):eget (edel m k) n=eget m n:=by
 unfold eget edel
 induction m with
 | nil=>rfl
 | cons q r ih =>
  by_cases hq:q.1=k
  ·have:¬q.1=n:=fun e=>h (hq.symm.trans e)
   rw [List.filter_cons_of_neg (by simp [hq]),ih]
   simp [this]
  ·rw [List.filter_cons_of_pos (by simp [hq])]
   by_cases h2:q.1=n
   ·simp [h2]
   ·rw [List.find?_cons_of_neg (by simp [h2]),List.find?_cons_of_neg (by simp [h2]),ih]
theorem Z7y (m:Ents) (k n:List UInt8) (v:Int):eget (eput m k v) n=if k=n then some v else eget m n:=by
 unfold eput
 rw [Z44 (k,v) n (edel m k) (fun p hp=>by
  unfold edel at hp
  rw [List.mem_filter] at hp
  simpa using hp.2)]
 by_cases h:k=n
 ·rw [if_pos h,if_pos h]
 ·rw [if_neg h,if_neg h]
  exact Z6T k n m h
theorem Z2m (x:List UInt8 × Int):∀ m:Ents,(eins x m).length=m.length+1
 | []=>rfl
 | q::r=>by
  unfold eins
  split
  ·rfl
  ·rw [List.length_cons,Z2m x r]
   rfl
theorem Z4L (m:Ents) (k:List UInt8) (v:Int):(eput m k v).length≤m.length+1:=by
 unfold eput
 rw [Z2m]
 have:(edel m k).length≤m.length:=List.length_filter_le _ _
 omega
end Sg
/- The walks of the program's reader of JSON: single steps. -/
namespace Go.Proofs.YthomgjihagigcaaGreatDoor
open Sg Go.IntWalk
set_option maxRecDepth 100000
set_option maxHeartbeats 4000000
section
variable {F:World} {M:List Nat} {H:List Res} {p:Nat} {t:List UInt8} {C:Jc} {c:Cf}
theorem Inv.kid2 (hi:Inv t C) (hl:t.length≤262144):∀ x∈C.out,0≤x.kids∧x.kids≤1000000:=fun x hx=>by
 have:=hi.kids x hx
 have:=hi.outl
 have:=hi.at_
 omega
theorem Inv.idx2 (hi:Inv t C):∀ i r,C.st.map (·.1)=i::r→i < C.out.length:=fun i r h=>by
 cases hs:C.st with
 | nil=>rw [hs] at h;cases h
 | cons x q =>
  rw [hs] at h
  simp only [List.map_cons,List.cons.injEq] at h
  have:=hi.idx x (by rw [hs];exact List.mem_cons_self ..)
  omega
theorem Z4z (ha:C.a < t.length) (hr:Rel C c) (hi:Inv t C) (hl:t.length≤262144) :
  Meets Tryz.prog 122 [.pointer (some ⟨p,0,none⟩)] F M (C.res p t H) (StepP p t H (match (numX t c.p).bind (fun a _=>Gt.ok a [Z6q t c.p a]) with
   | .bad e a=>.stop e a
   | .ok a l=>.go (Cf.behind (Cf.lay { c with p:=a } (l.headD (nd 0)))))):=by
 have ho:=hi.outl
 have hd:=hi.dep
 have h:=Z4A (F:=F) (M:=M) (p:=p) (t:=t) (H:=nmR C.ma C.mc C.st::ZS C.st H) (m:=.slice C.ma C.st.length C.mc) (a:=C.a) (s:=C.s) (k:=C.k) (c:=0) (b:=0) (oa:=C.oa) (na:=C.na) (oc:=C.oc) (nc:=C.nc) (out:=C.out) (is:=C.st.map (·.1)) ha hl hi.idx2 (by omega) (by rw [List.length_map];omega) (hi.kid2 hl)
 have hfit:=Z1o (t:=t) (p:=C.a) (by omega)
 rw [hr.p] at h hfit
 have hml:(C.st.map (·.1)).length=C.st.length:=List.length_map _
 cases hx:numX t c.p with
 | ok a' u =>
  rw [hx] at h
  obtain ⟨f1,f2⟩:=hfit a' u hx
  refine (show Meets _ _ _ F M (C.res p t H) _ from ?_)
  have h':=h.mono (post':=StepP p t H (.go (Cf.behind (Cf.lay { c with p:=a' } (Z6q t c.p a'))))) (fun e H' hL=>Z29 hr hi rfl (by rw [hr.p];omega) f2 hL)
  unfold Jc.res Jc.cells
  dsimp only [opR,opS] at h' ⊢
  rw [hml,←hr.p] at h'
  rw [←hr.p]
  exact h'
 | bad e1 q1 =>
  rw [hx] at h
  have h':=Meets.of_st (post':=StepP p t H (.stop e1 q1)) h (fun e H' w hF hw=>Z2V (PSub.drop (PSub.drop (PSub.drop (ZD H C.st)))) hF hw)
  unfold Jc.res Jc.cells
  dsimp only [opR,opS] at h' ⊢
  rw [hml,←hr.p] at h'
  exact h'
theorem Z5n (ha:C.a < t.length) (hr:Rel C c) (hi:Inv t C) (hl:t.length≤262144) (hne:C.st≠[]) :
  Meets Tryz.prog 102 [.pointer (some ⟨p,0,none⟩)] F M (C.res p t H) (StepP p t H (.go (endC c))):=by
 obtain ⟨oa,oc,na,nc,ma,mc,out,st,a,s,k⟩:=C
 cases st with
 | nil=>exact absurd rfl hne
 | cons x r =>
  have hd:=hi.dep
  simp only [List.length_cons] at hd
  refine (Z7x (F:=F) (M:=M) (p:=p) (t:=t) (H:=H) (o:=.slice oa out.length oc) (a:=a) (s:=s) (k:=k) (c:=0) (b:=0) (na:=na) (ma:=ma) (nc:=nc) (mc:=mc) (x:=x) (r:=r) (Ho:=ouR oa oc out) (by have:=hi.at_;simp only at this;omega) (by omega)).mono ?_
  rintro e H' ⟨rfl,rfl⟩
  have hst:=hr.stk
  obtain ⟨cp,cs,co,ck,ckey⟩:=c
  cases ck with
  | nil=>exact hst.elim
  | cons z q =>
   refine ⟨⟨oa,oc,na,nc,ma,mc,out,r,a+1,if r.length=0 then 6 else 5,k⟩,rfl,rfl,⟨?_,hst.2.2.beh,hr.out,hr.key,hst.2.2⟩,⟨?_,?_,hi.kids,fun y hy=>hi.idx y (List.mem_cons_of_mem _ hy),fun y hy=>hi.kind y (List.mem_cons_of_mem _ hy),fun y hy z hz=>?_,(show r.length≤32 by omega)⟩⟩
   ·have:=hr.p
    simp only at this
    subst this
    rfl
   ·simp only at ha ⊢
    omega
   ·have:=hi.outl
    simp only at this ⊢
    omega
   ·have:=hi.maps y (List.mem_cons_of_mem _ hy) z hz
    simp only at this ⊢
    omega
theorem Z60 {ch:UInt8} (hch:ch=91∨ch=123) (ha:C.a < t.length) (hr:Rel C c) (hi:Inv t C) (hl:t.length≤262144) :
  Meets Tryz.prog 119 [.pointer (some ⟨p,0,none⟩),.int .u8 (ch.toNat:Nat)] F M (C.res p t H) (StepP p t H (begC c ch)):=by
 obtain ⟨oa,oc,na,nc,ma,mc,out,st,a,s,k⟩:=C
 have hd:=hi.dep
 have ho:=hi.outl
 simp only at hd ho ha
 refine Meets.of_st (Z61 (F:=F) (M:=M) (p:=p) (t:=t) (H:=H) (a:=a) (s:=s) (k:=k) (c:=0) (b:=0) (oa:=oa) (pa:=na) (ma:=ma) (oc:=oc) (pc:=nc) (mc:=mc) (out:=out) (st:=st) (ch:=ch) (by rcases hch with rfl|rfl<;>decide) (by omega) hi.idx2 (by omega) (by omega) (hi.kid2 hl)) ?_
 intro e H' w hp hw
 have hlen:=hr.stk.len
 simp only at hlen
 unfold begC
 have h123:(ch=123)=(ch.toNat=123):=propext UInt8.toNat_inj.symm
 by_cases h32:st.length=32
 ·rw [if_pos h32] at hp
  obtain ⟨rfl,rfl⟩:=hp
  rw [if_pos (by omega)]
  have hcp:=hr.p
  simp only at hcp
  refine ⟨_,⟨.slice oa out.length oc,.slice na st.length nc,.slice ma st.length mc,a,s,k,rfl,rfl⟩,?_⟩
  rw [←hcp]
  exact hw.psub (PSub.take Z0 (PSub.drop (PSub.drop (PSub.drop (ZD H st)))))
 ·rw [if_neg h32] at hp
  rw [if_neg (by omega)]
  obtain ⟨oa',oc',na',nc',ma',mc',y,rfl,hy,rfl⟩:=hp
  have hfst:=hr.stk.fst
  simp only at hfst
  have hb:bump c.out c.stk=ZC out (st.map (·.1)):=by
   have:=hr.out
   simp only at this
   rw [Z6W,this,hfst]
  have hL:=Z0R out (st.map (·.1)) ((nd (if ch.toNat=123 then 7 else 6)).named k)
  refine ⟨_,⟨⟨oa',oc',na',nc',ma',mc',ZC out (st.map (·.1))++[(nd (if ch.toNat=123 then 7 else 6)).named k],(out.length,y)::st,a+1,if ch.toNat=123 then 3 else 1,[]⟩,rfl,?_,?_,?_⟩,hw⟩
  ·unfold Jc.res Jc.cells
   simp only
   rw [hL]
   rfl
  ·have e1:=hr.p
   have e2:=hr.key
   simp only at e1 e2
   refine ⟨by rw [←e1],?_,?_,rfl,?_⟩
   ·simp only [h123]
   ·simp only [h123]
    rw [hb,e2]
   ·refine ⟨by rw [hb,Z1u],?_,hr.stk⟩
    simp only [h123]
    by_cases h7:ch.toNat=123
    ·rw [if_pos h7] at hy ⊢
     obtain ⟨mb,rfl⟩:=hy
     exact fun x=>rfl
    ·rw [if_neg h7] at hy ⊢
     subst hy
     trivial
  ·have hI:=hi.laid (n:=nd (if ch.toNat=123 then 7 else 6)) rfl (a':=a+1) (by simp only;omega) (by omega) (oa':=oa') (oc':=oc') (s':=if ch.toNat=123 then 3 else 1) (k':=[])
   refine ⟨hI.at_,hI.outl,hI.kids,?_,?_,?_,by simp only [List.length_cons];omega⟩
   ·intro x hx
    rcases List.mem_cons.1 hx with rfl|hx
    ·show out.length < _
     rw [hL]
     omega
    ·exact hI.idx x hx
   ·intro x hx
    rcases List.mem_cons.1 hx with rfl|hx
    ·show ((ZC out (st.map (·.1))++[(nd (if ch.toNat=123 then 7 else 6)).named k]).getD out.length default).kind=_
     have:(ZC out (st.map (·.1))).length=out.length:=Z1u ..
     rw [List.getD_eq_getElem?_getD,List.getElem?_append_right (by omega),this]
     simp only [Nat.sub_self,List.getElem?_cons_zero,Option.getD_some]
     by_cases h7:ch.toNat=123
     ·rw [if_pos h7] at hy ⊢
      obtain ⟨mb,rfl⟩:=hy
      rfl
     ·rw [if_neg h7] at hy ⊢
      subst hy
      rfl
    ·exact hI.kind x hx
   ·intro x hx z hz
    rcases List.mem_cons.1 hx with rfl|hx
    ·by_cases h7:ch.toNat=123
     ·rw [if_pos h7] at hy
      obtain ⟨mb,rfl⟩:=hy
      cases hz
      exact Nat.zero_le _
     ·rw [if_neg h7] at hy
      subst hy
      cases hz
    ·exact hI.maps x hx z hz
end
end Go.Proofs.YthomgjihagigcaaGreatDoor
