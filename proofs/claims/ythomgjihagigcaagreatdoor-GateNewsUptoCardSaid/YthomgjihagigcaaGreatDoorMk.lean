/- Texts put together by a program: JrfJ JrfO JrfK. -/
import Derived.Test.YthomgjihagigcaaGreatDoorMj
/- The walks of the document's numbers: a number's parts. -/
namespace Sg
theorem Z1a {t:List UInt8} {p j:Nat} (h1:p≤j) (h2:j < Z3 t p):48≤bAt t j∧bAt t j≤57:=by
 have:=Z2E (s:=t.drop p) (j:=j - p) (by rw [Z0O];omega)
 rw [ZK] at this
 rwa [show p+(j - p)=j by omega] at this
def AllD (l:List UInt8):Prop:=∀ j,j < l.length→48≤bAt l j∧bAt l j≤57
theorem Z8g {a b:List UInt8} (j:Nat):bAt (a++b) j=if j < a.length then bAt a j else bAt b (j - a.length):=by
 unfold bAt
 simp only [List.getD]
 split
 ·rw [List.getElem?_append_left (by assumption)]
 ·rw [List.getElem?_append_right (by omega)]
theorem AllD.app {a b:List UInt8} (h1:AllD a) (h2:AllD b):AllD (a++b):=by
 intro j hj
 rw [List.length_append] at hj
 rw [Z8g]
 split
 ·exact h1 j (by assumption)
 ·exact h2 _ (by omega)
theorem Z8u {t:List UInt8} {a b j:Nat} (h:a+j < b):bAt (sl t a b) j=bAt t (a+j):=by
 unfold sl
 rw [←ZK]
 unfold bAt
 simp only [List.getD]
 rw [List.getElem?_take_of_lt (by omega)]
theorem Z4V {t:List UInt8} {a b:Nat} (h:b≤t.length):(sl t a b).length=b - a:=by
 unfold sl
 rw [List.length_take,List.length_drop]
 omega
theorem AllD.sl {t:List UInt8} {a b:Nat} (h:b≤t.length) (hd:∀ j,a≤j→j < b→48≤bAt t j∧bAt t j≤57):AllD (sl t a b):=by
 intro j hj
 rw [Z4V h] at hj
 rw [Z8u (by omega)]
 exact hd _ (by omega) (by omega)
end Sg
namespace Go.Proofs.YthomgjihagigcaaGreatDoor
open Sg Go.IntWalk
set_option maxRecDepth 100000
set_option maxHeartbeats 4000000
section
variable {F:World} {M:List Nat} {H:List Res} {t:List UInt8} {p:Nat}
abbrev rnV (mi:Bool) (dg:Value) (off:Int) (dn:Bool) (ex:Value) (pl:Bool) (w:List UInt8):List Value:=[.bool mi,dg,.int .i64 off,.bool dn,ex,.bool pl,sV w]
theorem Z1H (hl:t.length≤2200000):Meets Tryz.prog 117 [sV t] F M H (fun e H'=>∃ (mi pl dn:Bool) (w:List UInt8) (da ea:Option Addr) (dm dc em ec:Nat) (off:Int),e=.returned (.tuple ⟨[.agg ⟨rnV mi (.slice da dm dc) off dn (.slice ea em ec) pl w⟩,.bool (numP t).isSome]⟩)∧H'=H∧∀ x,numP t=some x→x=(mi,w,pl)):=by
 refine Meets.enter Tryz.func117 rfl rfl ?_
 rw [Z6p]
 have hmin:=Z6z t
 have hN:numR t=if Z3 t (minR t)=minR t∨(bAt t (minR t)=48∧minR t+1 < Z3 t (minR t)) then none else
   match Z3X t (Z3 t (minR t)) with
   | none=>none
   | some (b,p1)=>match expR t b with
    | none=>none
    | some (e,p2)=>if e=t.length then some (decide (bAt t 0=45),sl t (minR t) (Z3 t (minR t)),p1&&p2) else none:=rfl
 generalize numR t=np at *
 refine S.seq ?_
 repeat' (first|(apply T.asn;apply rfl;apply rfl)|(apply T.alloc;apply rfl;intro nb)|(with_reducible first|refine Sr.nil ?_|refine S.reg ?_)|fail)
 revert nb
 intro b2
 refine S.seq ?_
 repeat' (first|(apply T.buildL;(iterate 3 apply rfl))|(apply T.storeW;apply rfl;apply rfl;infer_instance;(first|rfl|(simp only [List.length_append,List.length_map,List.length_set,List.length_replicate,List.length_cons,List.length_nil];first|done|omega));(first|rfl|(simp only [List.length_append,List.length_map,List.length_set,List.length_replicate,List.length_cons,List.length_nil];first|done|omega));(first|rfl|(repeat' first|apply all_nV|apply all_bV|apply all_iV|rfl|apply all_app)))|(apply T.alloc;apply rfl;intro nb)|(with_reducible first|refine Sr.nil ?_|refine S.reg ?_)|fail)
 revert nb
 intro b4
 refine S.seq ?_
 repeat' (first|(apply T.asn;apply rfl;apply rfl)|(with_reducible first|refine Sr.nil ?_|refine S.reg ?_)|fail)
 refine S.seq ?_
 refine S.cut (fun H' e'=>∃ (mi:Bool) (a:Nat),H'=.blk b4 (rnV mi noL 0 false noL true []) 154::.blk b2 (rnV false noL 0 false noL false []) 154::H∧e'=[(0,sV t),(2,.pointer (some ⟨b2,0,none⟩)),(4,.pointer (some ⟨b4,0,none⟩)),(5,.int .i64 a)]∧a=minR t∧mi=decide (bAt t 0=45)) ?_ ?_
 ·intro k' hrest
  by_cases h:bAt t 0=45
  ·have h0:=Z7 (t:=t) (p:=0) (by omega)
   have hb:(t.getD 0 0).toNat=bAt t 0:=rfl
   repeat' (first|(refine T.sidx (i:=0) rfl rfl (by omega) rfl ?_)|((first|apply T.slen|apply T.mv|apply T.asn|apply T.fieldAddrZ);apply rfl;apply rfl)|((first|apply T.lss|apply T.eql);(iterate 3 apply rfl))|(apply T.addI;apply rfl;apply rfl;omega;apply rfl)|(apply T.pickT;(iterate 3 apply rfl))|(apply T.store;apply rfl;apply rfl;infer_instance;(first|decide|(simp;omega)|simp);apply rfl)|(with_reducible first|refine Sr.nil ?_|refine S.seq ?_|refine S.reg ?_)|(apply T.ungV;apply rfl;(first|with_reducible rfl|decide))|(apply S.condQ;apply rfl;all_goals (intro _;try (exfalso;first|omega|with_reducible contradiction)))|(apply T.gcase;apply rfl;apply rfl;all_goals (intro _;try (exfalso;first|omega|with_reducible contradiction)))|fail)
   exact hrest _ _ _ ⟨true,1,rfl,rfl,by unfold minR;rw [if_pos h],by rw [decide_eq_true h]⟩ (by repeat' first|exact trivial|refine And.intro rfl ?_)
  ·have hb:(t.getD 0 0).toNat=bAt t 0:=rfl
   by_cases h0:0 < t.length
   ·repeat' (first|(refine T.sidx (i:=0) rfl rfl (by omega) rfl ?_)|((first|apply T.slen|apply T.mv);apply rfl;apply rfl)|((first|apply T.lss|apply T.eql);(iterate 3 apply rfl))|(apply T.pickT;(iterate 3 apply rfl))|(with_reducible first|refine Sr.nil ?_|refine S.seq ?_|refine S.reg ?_|refine S.skip ?_)|(apply T.ungV;apply rfl;(first|with_reducible rfl|decide))|(apply S.condQ;apply rfl;all_goals (intro _;try (exfalso;first|omega|with_reducible contradiction)))|(apply T.gcase;apply rfl;apply rfl;all_goals (intro _;try (exfalso;first|omega|with_reducible contradiction)))|fail)
    exact hrest _ _ _ ⟨false,0,rfl,rfl,by unfold minR;rw [if_neg h],by rw [decide_eq_false h]⟩ (by repeat' first|exact trivial|refine And.intro rfl ?_)
   ·repeat' (first|((first|apply T.slen|apply T.mv);apply rfl;apply rfl)|(apply T.lss;(iterate 3 apply rfl))|(apply T.pickF;(iterate 3 apply rfl))|(with_reducible first|refine Sr.nil ?_|refine S.seq ?_|refine S.reg ?_|refine S.skip ?_)|(apply T.skip;apply rfl;(first|with_reducible rfl|decide);apply rfl)|(apply S.condFV;apply rfl;(first|with_reducible rfl|decide))|(apply T.gcase;apply rfl;apply rfl;all_goals (intro _;try (exfalso;first|omega|with_reducible contradiction)))|fail)
    exact hrest _ _ _ ⟨false,0,rfl,rfl,by unfold minR;rw [if_neg h],by rw [decide_eq_false h]⟩ (by repeat' first|exact trivial|refine And.intro rfl ?_)
 rintro _ _ ⟨mi,a,rfl,rfl,ha,hmi⟩
 rw [←ha,←hmi] at hN
 rw [←ha] at hmin
 clear ha hmi
 obtain ⟨hd1,hd2⟩:=Z0V hmin
 refine S.seq ?_
 repeat' (first|((first|apply T.mv|apply T.asn);apply rfl;apply rfl)|(with_reducible first|refine Sr.nil ?_|refine S.reg ?_)|fail)
 refine S.seq ?_
 repeat' (first|(apply T.mv;apply rfl;apply rfl)|with_reducible refine S.reg ?_|fail)
 refine T.call rfl rfl (Z0F hmin (by omega)) ?_
 rintro _ _ ⟨rfl,rfl⟩
 have hdig:∀ j,a≤j→j < Z3 t a→48≤bAt t j∧bAt t j≤57:=fun j h1 h2=>Z1a h1 h2
 generalize Z3 t a=d at *
 repeat' (first|(apply T.asn;apply rfl;apply rfl)|with_reducible refine Sr.nil ?_|(with_reducible apply T.ofRet)|fail)
 refine S.seq ?_
 refine S.cut (fun H' e'=>H'=.blk b4 (rnV mi noL 0 false noL true []) 154::.blk b2 (rnV false noL 0 false noL false []) 154::H∧e'=[(0,sV t),(2,.pointer (some ⟨b2,0,none⟩)),(4,.pointer (some ⟨b4,0,none⟩)),(5,.int .i64 d),(6,.int .i64 a)]∧¬(d=a∨(bAt t a=48∧a+1 < d))) ?_ ?_
 ·intro k' hrest
  have hb:(t.getD a 0).toNat=bAt t a:=rfl
  by_cases h:d=a∨(bAt t a=48∧a+1 < d)
  ·rw [if_pos h] at hN
   subst hN
   repeat' (first|(apply T.sidx;apply rfl;apply rfl;omega;apply rfl)|((first|apply T.mv|apply T.asn);apply rfl;apply rfl)|((first|apply T.gtr|apply T.eql);(iterate 3 apply rfl))|(apply T.addI;apply rfl;apply rfl;omega;apply rfl)|(apply T.pickT;(iterate 3 apply rfl))|(apply T.pickF;(iterate 3 apply rfl))|(apply T.loadW;apply rfl;apply rfl;infer_instance;(first|rfl|(simp only [List.length_append,List.length_map,List.length_set,List.length_replicate,List.length_cons,List.length_nil];first|done|omega));apply rfl)|(apply T.storeW;apply rfl;apply rfl;infer_instance;(first|rfl|(simp only [List.length_append,List.length_map,List.length_set,List.length_replicate,List.length_cons,List.length_nil];first|done|omega));(first|rfl|(simp only [List.length_append,List.length_map,List.length_set,List.length_replicate,List.length_cons,List.length_nil];first|done|omega));(first|rfl|(repeat' first|apply all_nV|apply all_bV|apply all_iV|rfl|apply all_app)))|(with_reducible first|refine Sr.nil ?_|refine S.seq ?_|refine S.reg ?_)|(apply T.ungV;apply rfl;(first|with_reducible rfl|decide))|(apply T.skip;apply rfl;(first|with_reducible rfl|decide);apply rfl)|(apply T.skipU;apply rfl;apply rfl)|(apply S.condTV;apply rfl;(first|with_reducible rfl|decide))|(apply S.condQ;apply rfl;all_goals (intro _;try (exfalso;first|omega|with_reducible contradiction)))|(apply T.gcase;apply rfl;apply rfl;all_goals (intro _;try (exfalso;first|omega|with_reducible contradiction)))|(apply T.retC;apply rfl;((repeat' first|apply RV.nil|(apply RV.tmp;apply rfl)|(apply RV.cellW;apply rfl;apply rfl;infer_instance;(first|rfl|(simp only [List.length_append,List.length_map,List.length_set,List.length_replicate,List.length_cons,List.length_nil];first|done|omega)))|(apply RV.cellP;apply rfl;apply rfl;infer_instance;apply rfl)));apply rfl)|fail)
   all_goals exact ⟨_,PSub.drop (PSub.drop (PSub.refl _)),_,_,_,_,_,_,_,_,_,_,_,rfl,rfl,fun x hx=>by cases hx⟩
  ·have h1:¬d=a:=fun e=>h (.inl e)
   have h2:¬(bAt t a=48∧a+1 < d):=fun e=>h (.inr e)
   have h3:a < t.length:=by omega
   repeat' (first|(apply T.sidx;apply rfl;apply rfl;omega;apply rfl)|(apply T.mv;apply rfl;apply rfl)|((first|apply T.gtr|apply T.eql);(iterate 3 apply rfl))|(apply T.addI;apply rfl;apply rfl;omega;apply rfl)|(apply T.pickT;(iterate 3 apply rfl))|(apply T.pickF;(iterate 3 apply rfl))|(with_reducible first|refine Sr.nil ?_|refine S.seq ?_|refine S.reg ?_|refine S.skip ?_)|(apply T.ungV;apply rfl;(first|with_reducible rfl|decide))|(apply T.skip;apply rfl;(first|with_reducible rfl|decide);apply rfl)|(apply S.condFV;apply rfl;(first|with_reducible rfl|decide))|(apply S.condQ;apply rfl;all_goals (intro _;try (exfalso;first|omega|with_reducible contradiction)))|(apply T.gcase;apply rfl;apply rfl;all_goals (intro _;try (exfalso;first|omega|with_reducible contradiction)))|fail)
   all_goals exact hrest _ _ _ ⟨rfl,rfl,h⟩ (by repeat' first|exact trivial|refine And.intro rfl ?_)
 rintro _ _ ⟨rfl,rfl,hbad⟩
 rw [if_neg hbad] at hN
 have hwl:=Z4V (t:=t) (a:=a) hd2
 have hwd:=AllD.sl hd2 hdig
 refine S.seq ?_
 repeat' (first|(apply T.sslice;(iterate 3 apply rfl);omega;apply rfl)|((first|apply T.mv|apply T.fieldAddrZ);apply rfl;apply rfl)|(apply T.store;apply rfl;apply rfl;infer_instance;(first|decide|(simp;omega)|simp);apply rfl)|(with_reducible first|refine Sr.nil ?_|refine S.reg ?_)|fail)
 refine S.seq ?_
 repeat' (first|(apply T.sslice;(iterate 3 apply rfl);omega;apply rfl)|((first|apply T.mv|apply T.asn);apply rfl;apply rfl)|(with_reducible first|refine Sr.nil ?_|refine S.reg ?_)|fail)
 refine S.seq ?_
 repeat' (first|((first|apply T.mv|apply T.fieldAddrZ);apply rfl;apply rfl)|(apply T.subI;apply rfl;apply rfl;omega;apply rfl)|(apply T.store;apply rfl;apply rfl;infer_instance;(first|decide|(simp;omega)|simp);apply rfl)|(with_reducible first|refine Sr.nil ?_|refine S.reg ?_)|fail)
 change S _ _ _ _ _
 have hsl:(t.drop a).take (d - a)=sl t a d:=rfl
 rw [hsl]
 generalize sl t a d=w at *
 refine S.seq ?_
 refine S.cut (fun H' e'=>∃ (p1:Bool) (b:Nat) (all:List UInt8),H'=.blk b4 (rnV mi noL ((d:Int) - a) false noL p1 w) 154::.blk b2 (rnV false noL 0 false noL false []) 154::H∧e'=[(0,sV t),(2,.pointer (some ⟨b2,0,none⟩)),(4,.pointer (some ⟨b4,0,none⟩)),(5,.int .i64 b),(7,sV all)]∧AllD all∧all.length≤5000000∧b≤t.length∧np=match expR t b with
  | none=>none
  | some (e,p2)=>if e=t.length then some (mi,w,p1&&p2) else none) ?_ ?_
 ·intro k' hrest
  have hb:(t.getD d 0).toNat=bAt t d:=rfl
  unfold Z3X at hN
  by_cases h:bAt t d=46
  ·have h0:=Z7 (t:=t) (p:=d) (by omega)
   obtain ⟨hf1,hf2⟩:=Z0V (t:=t) (p:=d+1) (by omega)
   have e1:(d:Int)+1=((d+1:Nat):Int):=by omega
   have hfd:∀ j,d+1≤j→j < Z3 t (d+1)→48≤bAt t j∧bAt t j≤57:=fun j h1 h2=>Z1a h1 h2
   rw [if_pos h] at hN
   repeat' (first|(apply T.addI;apply rfl;apply rfl;omega;apply rfl;rw [e1])|((first|apply T.slen|apply T.mv|apply T.fieldAddrZ);apply rfl;apply rfl)|(apply T.sidx;apply rfl;apply rfl;omega;apply rfl)|((first|apply T.lss|apply T.eql);(iterate 3 apply rfl))|(apply T.pickT;(iterate 3 apply rfl))|(apply T.store;apply rfl;apply rfl;infer_instance;(first|decide|(simp;omega)|simp);apply rfl)|(with_reducible first|refine Sr.nil ?_|refine S.seq ?_|refine S.reg ?_)|(apply T.ungV;apply rfl;(first|with_reducible rfl|decide))|(apply S.condQ;apply rfl;all_goals (intro _;try (exfalso;first|omega|with_reducible contradiction)))|(apply T.gcase;apply rfl;apply rfl;all_goals (intro _;try (exfalso;first|omega|with_reducible contradiction)))|fail)
   refine T.call rfl rfl (Z0F (p:=d+1) (by omega) (by omega)) ?_
   rintro _ _ ⟨rfl,rfl⟩
   generalize Z3 t (d+1)=f at *
   by_cases h1:f=d+1
   ·rw [if_pos h1] at hN
    subst hN
    repeat' (first|(apply T.addI;apply rfl;apply rfl;omega;apply rfl;rw [e1])|((first|apply T.mv|apply T.asn);apply rfl;apply rfl)|(apply T.eql;(iterate 3 apply rfl))|(apply T.loadW;apply rfl;apply rfl;infer_instance;(first|rfl|(simp only [List.length_append,List.length_map,List.length_set,List.length_replicate,List.length_cons,List.length_nil];first|done|omega));apply rfl)|(apply T.storeW;apply rfl;apply rfl;infer_instance;(first|rfl|(simp only [List.length_append,List.length_map,List.length_set,List.length_replicate,List.length_cons,List.length_nil];first|done|omega));(first|rfl|(simp only [List.length_append,List.length_map,List.length_set,List.length_replicate,List.length_cons,List.length_nil];first|done|omega));(first|rfl|(repeat' first|apply all_nV|apply all_bV|apply all_iV|rfl|apply all_app)))|(with_reducible first|refine Sr.nil ?_|refine S.seq ?_|refine S.reg ?_)|(apply S.condQ;apply rfl;all_goals (intro _;try (exfalso;first|omega|with_reducible contradiction)))|(with_reducible apply T.ofRet)|(apply T.retC;apply rfl;((repeat' first|apply RV.nil|(apply RV.tmp;apply rfl)|(apply RV.cellW;apply rfl;apply rfl;infer_instance;(first|rfl|(simp only [List.length_append,List.length_map,List.length_set,List.length_replicate,List.length_cons,List.length_nil];first|done|omega)))|(apply RV.cellP;apply rfl;apply rfl;infer_instance;apply rfl)));apply rfl)|fail)
    exact ⟨_,PSub.drop (PSub.drop (PSub.refl _)),_,_,_,_,_,_,_,_,_,_,_,rfl,rfl,fun x hx=>by cases hx⟩
   ·rw [if_neg h1] at hN
    have hsl2:(t.drop (d+1)).take (f - (d+1))=sl t (d+1) f:=rfl
    have hl2:=Z4V (t:=t) (a:=d+1) hf2
    have hd2:=AllD.sl hf2 hfd
    repeat' (first|(apply T.addI;apply rfl;apply rfl;omega;apply rfl;rw [e1])|(apply T.sslice;(iterate 3 apply rfl);omega;apply rfl;rw [hsl2])|(apply T.sadd;apply rfl;apply rfl;omega;apply rfl)|((first|apply T.mv|apply T.asn);apply rfl;apply rfl)|(apply T.eql;(iterate 3 apply rfl))|(with_reducible first|refine Sr.nil ?_|refine S.seq ?_|refine S.reg ?_|refine S.skip ?_)|(apply S.condQ;apply rfl;all_goals (intro _;try (exfalso;first|omega|with_reducible contradiction)))|(with_reducible apply T.ofRet)|fail)
    exact hrest _ _ _ ⟨false,f,w++sl t (d+1) f,rfl,rfl,hwd.app hd2,by rw [List.length_append];omega,hf2,hN⟩ (by repeat' first|exact trivial|refine And.intro rfl ?_)
  ·rw [if_neg h] at hN
   by_cases h0:d < t.length
   ·repeat' (first|((first|apply T.slen|apply T.mv);apply rfl;apply rfl)|(apply T.sidx;apply rfl;apply rfl;omega;apply rfl)|((first|apply T.lss|apply T.eql);(iterate 3 apply rfl))|(apply T.pickT;(iterate 3 apply rfl))|(with_reducible first|refine Sr.nil ?_|refine S.seq ?_|refine S.reg ?_|refine S.skip ?_)|(apply T.ungV;apply rfl;(first|with_reducible rfl|decide))|(apply S.condQ;apply rfl;all_goals (intro _;try (exfalso;first|omega|with_reducible contradiction)))|(apply T.gcase;apply rfl;apply rfl;all_goals (intro _;try (exfalso;first|omega|with_reducible contradiction)))|fail)
    exact hrest _ _ _ ⟨true,d,w,rfl,rfl,hwd,by omega,hd2,hN⟩ (by repeat' first|exact trivial|refine And.intro rfl ?_)
   ·repeat' (first|((first|apply T.slen|apply T.mv);apply rfl;apply rfl)|(apply T.lss;(iterate 3 apply rfl))|(apply T.pickF;(iterate 3 apply rfl))|(with_reducible first|refine Sr.nil ?_|refine S.seq ?_|refine S.reg ?_|refine S.skip ?_)|(apply T.skip;apply rfl;(first|with_reducible rfl|decide);apply rfl)|(apply S.condFV;apply rfl;(first|with_reducible rfl|decide))|(apply T.gcase;apply rfl;apply rfl;all_goals (intro _;try (exfalso;first|omega|with_reducible contradiction)))|fail)
    exact hrest _ _ _ ⟨true,d,w,rfl,rfl,hwd,by omega,hd2,hN⟩ (by repeat' first|exact trivial|refine And.intro rfl ?_)
 rintro _ _ ⟨p1,b,all,rfl,rfl,hall,hlall,hb,hN⟩
 obtain ⟨off,hoff⟩:∃ off:Int,(d:Int) - a=off:=⟨_,rfl⟩
 have ho : -5000000≤off∧off≤5000000:=by omega
 rw [hoff]
 clear hoff hbad hdig hd1 hd2 hmin hwd
 refine S.seq ?_
 refine S.cut (fun H' e'=>∃ (dn pl:Bool) (q:Nat) (ea:Option Addr) (em ec:Nat),H'=.blk b4 (rnV mi noL off dn (.slice ea em ec) pl w) 154::.blk b2 (rnV false noL 0 false noL false []) 154::H∧e'=[(0,sV t),(2,.pointer (some ⟨b2,0,none⟩)),(4,.pointer (some ⟨b4,0,none⟩)),(5,.int .i64 q),(7,sV all)]∧q≤t.length∧np=if q=t.length then some (mi,w,pl) else none) ?_ ?_
 ·intro k' hrest
  unfold expR at hN
  refine S.seq ?_
  refine S.cut (fun H' e'=>∃ bx:Bool,H'=.blk b4 (rnV mi noL off false noL p1 w) 154::.blk b2 (rnV false noL 0 false noL false []) 154::H∧e'=[(0,sV t),(2,.pointer (some ⟨b2,0,none⟩)),(4,.pointer (some ⟨b4,0,none⟩)),(5,.int .i64 b),(7,sV all),(103,.bool bx)]∧bx=(decide (bAt t b=101) || decide (bAt t b=69))) ?_ ?_
  ·intro k'' hmid
   have hbb:(t.getD b 0).toNat=bAt t b:=rfl
   by_cases h0:b < t.length
   ·by_cases h1:bAt t b=101
    ·repeat' (first|((first|apply T.slen|apply T.mv);apply rfl;apply rfl)|(apply T.sidx;apply rfl;apply rfl;omega;apply rfl)|((first|apply T.lss|apply T.eql);(iterate 3 apply rfl))|(apply T.pickT;(iterate 3 apply rfl))|(with_reducible first|refine Sr.nil ?_|refine S.reg ?_)|(apply T.ungV;apply rfl;(first|with_reducible rfl|decide))|(apply T.skip;apply rfl;(first|with_reducible rfl|decide);apply rfl)|(apply T.gcase;apply rfl;apply rfl;all_goals (intro _;try (exfalso;first|omega|with_reducible contradiction)))|fail)
     exact hmid _ _ _ ⟨true,rfl,rfl,by rw [decide_eq_true h1];rfl⟩ (by repeat' first|exact trivial|refine And.intro rfl ?_)
    ·repeat' (first|((first|apply T.slen|apply T.mv);apply rfl;apply rfl)|(apply T.sidx;apply rfl;apply rfl;omega;apply rfl)|((first|apply T.lss|apply T.eql);(iterate 3 apply rfl))|(apply T.pickT;(iterate 3 apply rfl))|(apply T.pickF;(iterate 3 apply rfl))|(with_reducible first|refine Sr.nil ?_|refine S.reg ?_)|(apply T.ungV;apply rfl;(first|with_reducible rfl|decide))|(apply T.gcase;apply rfl;apply rfl;all_goals (intro _;try (exfalso;first|omega|with_reducible contradiction)))|fail)
     refine hmid _ _ _ ⟨decide ((((t.getD b 0).toNat:Nat):Int)=69),rfl,rfl,?_⟩ (by repeat' first|exact trivial|refine And.intro rfl ?_)
     rw [decide_eq_false h1,Bool.false_or,decide_eq_decide]
     omega
   ·have h3:=Z0e (t:=t) (p:=b) (by omega)
    repeat' (first|((first|apply T.slen|apply T.mv);apply rfl;apply rfl)|(apply T.lss;(iterate 3 apply rfl))|(apply T.pickF;(iterate 3 apply rfl))|(with_reducible first|refine Sr.nil ?_|refine S.reg ?_)|(apply T.skip;apply rfl;(first|with_reducible rfl|decide);apply rfl)|(apply T.skipU;apply rfl;apply rfl)|(apply T.gcase;apply rfl;apply rfl;all_goals (intro _;try (exfalso;first|omega|with_reducible contradiction)))|fail)
    exact hmid _ _ _ ⟨false,rfl,rfl,by rw [h3];rfl⟩ (by repeat' first|exact trivial|refine And.intro rfl ?_)
  rintro _ _ ⟨bx,rfl,rfl,hbx⟩
  cases bx with
  | false =>
   have h1:¬(bAt t b=101∨bAt t b=69):=by simpa using hbx.symm
   rw [if_neg h1] at hN
   simp only [Bool.and_true] at hN
   repeat' (first|with_reducible refine S.skip ?_|(apply S.condFV;apply rfl;(first|with_reducible rfl|decide))|fail)
   exact hrest _ _ _ ⟨false,p1,b,none,0,0,rfl,rfl,hb,hN⟩ (by repeat' first|exact trivial|refine And.intro rfl ?_)
  | true =>
   have h1:bAt t b=101∨bAt t b=69:=by simpa using hbx.symm
   rw [if_pos h1] at hN
   have hlt:=Z7 (t:=t) (p:=b) (by omega)
   have e1:(b:Int)+1=((b+1:Nat):Int):=by omega
   repeat' (first|(apply S.condTV;apply rfl;(first|with_reducible rfl|decide))|fail)
   refine S.seq ?_
   repeat' (first|(apply T.fieldAddrZ;apply rfl;apply rfl)|(apply T.store;apply rfl;apply rfl;infer_instance;(first|decide|(simp;omega)|simp);apply rfl)|(with_reducible first|refine Sr.nil ?_|refine S.reg ?_)|fail)
   refine S.seq ?_
   repeat' (first|(apply T.addI;apply rfl;apply rfl;omega;apply rfl;rw [e1])|((first|apply T.mv|apply T.asn);apply rfl;apply rfl)|(with_reducible first|refine Sr.nil ?_|refine S.reg ?_)|fail)
   refine S.seq ?_
   refine S.cut (fun H' e'=>∃ (dn:Bool) (q:Nat),H'=.blk b4 (rnV mi noL off dn noL false w) 154::.blk b2 (rnV false noL 0 false noL false []) 154::H∧e'=[(0,sV t),(2,.pointer (some ⟨b2,0,none⟩)),(4,.pointer (some ⟨b4,0,none⟩)),(5,.int .i64 q),(7,sV all)]∧q=Z1i t (b+1)) ?_ ?_
   ·intro k'' hmid
    generalize b+1=c at *
    unfold Z1i at hmid
    have hbb:(t.getD c 0).toNat=bAt t c:=rfl
    by_cases h0:c < t.length
    ·by_cases h2:bAt t c=43
     ·rw [if_pos (.inl h2)] at hmid
      repeat' (first|((first|apply T.slen|apply T.mv|apply T.asn|apply T.fieldAddrZ);apply rfl;apply rfl)|(apply T.sidx;apply rfl;apply rfl;omega;apply rfl)|((first|apply T.lss|apply T.eql);(iterate 3 apply rfl))|(apply T.addI;apply rfl;apply rfl;omega;apply rfl)|(apply T.pickT;(iterate 3 apply rfl))|(apply T.store;apply rfl;apply rfl;infer_instance;(first|decide|(simp;omega)|simp);apply rfl)|(with_reducible first|refine Sr.nil ?_|refine S.seq ?_|refine S.reg ?_)|(apply T.ungV;apply rfl;(first|with_reducible rfl|decide))|(apply T.skip;apply rfl;(first|with_reducible rfl|decide);apply rfl)|(apply S.condTV;apply rfl;(first|with_reducible rfl|decide))|(apply T.gcase;apply rfl;apply rfl;all_goals (intro _;try (exfalso;first|omega|with_reducible contradiction)))|fail)
      exact hmid _ _ _ ⟨_,c+1,rfl,rfl,rfl⟩ (by repeat' first|exact trivial|refine And.intro rfl ?_)
     ·by_cases h3:bAt t c=45
      ·rw [if_pos (.inr h3)] at hmid
       repeat' (first|((first|apply T.slen|apply T.mv|apply T.asn|apply T.fieldAddrZ);apply rfl;apply rfl)|(apply T.sidx;apply rfl;apply rfl;omega;apply rfl)|((first|apply T.lss|apply T.eql);(iterate 3 apply rfl))|(apply T.addI;apply rfl;apply rfl;omega;apply rfl)|(apply T.pickT;(iterate 3 apply rfl))|(apply T.pickF;(iterate 3 apply rfl))|(apply T.store;apply rfl;apply rfl;infer_instance;(first|decide|(simp;omega)|simp);apply rfl)|(with_reducible first|refine Sr.nil ?_|refine S.seq ?_|refine S.reg ?_)|(apply T.ungV;apply rfl;(first|with_reducible rfl|decide))|(apply S.condQ;apply rfl;all_goals (intro _;try (exfalso;first|omega|with_reducible contradiction)))|(apply T.gcase;apply rfl;apply rfl;all_goals (intro _;try (exfalso;first|omega|with_reducible contradiction)))|fail)
       exact hmid _ _ _ ⟨_,c+1,rfl,rfl,rfl⟩ (by repeat' first|exact trivial|refine And.intro rfl ?_)
      ·rw [if_neg (fun h=>h.elim h2 h3)] at hmid
       repeat' (first|((first|apply T.slen|apply T.mv);apply rfl;apply rfl)|(apply T.sidx;apply rfl;apply rfl;omega;apply rfl)|((first|apply T.lss|apply T.eql);(iterate 3 apply rfl))|(apply T.pickT;(iterate 3 apply rfl))|(apply T.pickF;(iterate 3 apply rfl))|(with_reducible first|refine Sr.nil ?_|refine S.seq ?_|refine S.reg ?_|refine S.skip ?_)|(apply T.ungV;apply rfl;(first|with_reducible rfl|decide))|(apply S.condQ;apply rfl;all_goals (intro _;try (exfalso;first|omega|with_reducible contradiction)))|(apply T.gcase;apply rfl;apply rfl;all_goals (intro _;try (exfalso;first|omega|with_reducible contradiction)))|fail)
       exact hmid _ _ _ ⟨_,c,rfl,rfl,rfl⟩ (by repeat' first|exact trivial|refine And.intro rfl ?_)
    ·have h3:=Z0e (t:=t) (p:=c) (by omega)
     rw [if_neg (by omega)] at hmid
     repeat' (first|((first|apply T.slen|apply T.mv);apply rfl;apply rfl)|(apply T.lss;(iterate 3 apply rfl))|(apply T.pickF;(iterate 3 apply rfl))|(with_reducible first|refine Sr.nil ?_|refine S.seq ?_|refine S.reg ?_|refine S.skip ?_)|(apply T.skip;apply rfl;(first|with_reducible rfl|decide);apply rfl)|(apply T.skipU;apply rfl;apply rfl)|(apply S.condFV;apply rfl;(first|with_reducible rfl|decide))|(apply T.gcase;apply rfl;apply rfl;all_goals (intro _;try (exfalso;first|omega|with_reducible contradiction)))|fail)
     exact hmid _ _ _ ⟨_,c,rfl,rfl,rfl⟩ (by repeat' first|exact trivial|refine And.intro rfl ?_)
   obtain ⟨hs1,hs2⟩:=Z4X (t:=t) (p:=b+1) hlt
   rintro _ _ ⟨dn,q,rfl,rfl,hq⟩
   rw [←hq] at hN hs1 hs2
   clear hq
   obtain ⟨hf1,hf2⟩:=Z0V hs2
   have hfd:∀ j,q≤j→j < Z3 t q→48≤bAt t j∧bAt t j≤57:=fun j h1 h2=>Z1a h1 h2
   repeat' (first|(apply T.mv;apply rfl;apply rfl)|(with_reducible first|refine S.seq ?_|refine S.reg ?_)|fail)
   refine T.call rfl rfl (Z0F hs2 (by omega)) ?_
   rintro _ _ ⟨rfl,rfl⟩
   generalize Z3 t q=f at *
   by_cases h2:f=q
   ·rw [if_pos h2] at hN
    subst hN
    repeat' (first|((first|apply T.mv|apply T.asn);apply rfl;apply rfl)|(apply T.eql;(iterate 3 apply rfl))|(apply T.loadW;apply rfl;apply rfl;infer_instance;(first|rfl|(simp only [List.length_append,List.length_map,List.length_set,List.length_replicate,List.length_cons,List.length_nil];first|done|omega));apply rfl)|(apply T.storeW;apply rfl;apply rfl;infer_instance;(first|rfl|(simp only [List.length_append,List.length_map,List.length_set,List.length_replicate,List.length_cons,List.length_nil];first|done|omega));(first|rfl|(simp only [List.length_append,List.length_map,List.length_set,List.length_replicate,List.length_cons,List.length_nil];first|done|omega));(first|rfl|(repeat' first|apply all_nV|apply all_bV|apply all_iV|rfl|apply all_app)))|(with_reducible first|refine Sr.nil ?_|refine S.seq ?_|refine S.reg ?_)|(apply S.condQ;apply rfl;all_goals (intro _;try (exfalso;first|omega|with_reducible contradiction)))|(with_reducible apply T.ofRet)|(apply T.retC;apply rfl;((repeat' first|apply RV.nil|(apply RV.tmp;apply rfl)|(apply RV.cellW;apply rfl;apply rfl;infer_instance;(first|rfl|(simp only [List.length_append,List.length_map,List.length_set,List.length_replicate,List.length_cons,List.length_nil];first|done|omega)))|(apply RV.cellP;apply rfl;apply rfl;infer_instance;apply rfl)));apply rfl)|fail)
    exact ⟨_,PSub.drop (PSub.drop (PSub.refl _)),_,_,_,_,_,_,_,_,_,_,_,rfl,rfl,fun x hx=>by cases hx⟩
   rw [if_neg h2] at hN
   simp only [Bool.and_false] at hN
   refine Sr.nilrow 3 1 ?_
   repeat' (first|((first|apply T.mv|apply T.asn);apply rfl;apply rfl)|(apply T.eql;(iterate 3 apply rfl))|(with_reducible first|refine Sr.nil ?_|refine S.seq ?_|refine S.block ?_|refine S.reg ?_|refine S.skip ?_)|(apply S.condQ;apply rfl;all_goals (intro _;try (exfalso;first|omega|with_reducible contradiction)))|fail)
   refine S.loopE 2 [0,2,4,7,9] (fun R b' μ H' e=>∃ (i m ec:Nat) (ea:Option Addr) (xs:List Nat),H'=.row ea ec 3 1 m (xs.map nV)::.blk b4 (rnV mi noL off dn (.slice ea m ec) false w) 154::R∧e=(10,.int .i64 i)::b'∧(q≤i∧i≤f∧xs.length=m∧m≤i)∧μ=f - i) rfl rfl ?_ _ _ ⟨q,0,0,none,[],rfl,rfl,⟨Nat.le_refl _,hf1,rfl,Nat.zero_le _⟩,rfl⟩ (by repeat' first|exact trivial|refine And.intro rfl ?_)
   rintro _ _ _ ⟨i,m,ec,ea,xs,rfl,rfl,⟨g1,g2,g3,g4⟩,rfl⟩ ih
   have hbi:(t.getD i 0).toNat=bAt t i:=rfl
   by_cases g5:i < f
   ·have g6:=hfd i g1 g5
    repeat' (first|(apply T.sidx;apply rfl;apply rfl;omega;apply rfl)|((first|apply T.mv|apply T.asn|apply T.len|apply T.fieldAddrZ);apply rfl;apply rfl)|(apply T.load;apply rfl;apply rfl;infer_instance;apply rfl;apply rfl)|((first|apply T.lss|apply T.gtr|apply T.neq);(iterate 3 apply rfl))|(apply T.addI;apply rfl;apply rfl;omega;apply rfl)|(apply T.pickT;(iterate 3 apply rfl))|(apply T.pickF;(iterate 3 apply rfl))|(with_reducible first|refine Sr.nil ?_|refine S.seq ?_|refine S.block ?_|refine S.reg ?_|refine S.skip ?_|refine S.inBlock ?_)|(apply T.ungV;apply rfl;(first|with_reducible rfl|decide))|(apply T.skip;apply rfl;(first|with_reducible rfl|decide);apply rfl)|(apply S.condTV;apply rfl;(first|with_reducible rfl|decide))|(apply S.condQ;apply rfl;all_goals (intro _;try (exfalso;first|omega|with_reducible contradiction)))|(apply T.gcase;apply rfl;apply rfl;all_goals (intro _;try (exfalso;first|omega|with_reducible contradiction)))|fail)
    ·(apply S.drawL;(case Hs=>exact .blk b4 (rnV mi noL off dn (.slice ea m ec) false w) 154::.blk b2 (rnV false noL 0 false noL false []) 154::H);(case es=>exact  [7,8,10]);(case lt=>exact  [10]);(case n=>exact  11);(case hn=>rfl))
     repeat' (first|((with_reducible apply T.subU8N (n:=48));apply rfl;apply rfl;omega;apply rfl)|(apply T.sidx;apply rfl;apply rfl;omega;apply rfl)|((first|apply T.mv|apply T.asn|apply T.fieldAddrZ);apply rfl;apply rfl)|(apply T.load;apply rfl;apply rfl;infer_instance;apply rfl;apply rfl)|(apply T.addI;apply rfl;apply rfl;omega;apply rfl)|(apply T.convI64;apply rfl;omega;apply rfl)|(apply T.store;apply rfl;apply rfl;infer_instance;(first|decide|(simp;omega)|simp);apply rfl)|(apply T.bs;(iterate 6 apply rfl);intro nb)|(apply T.appendN;apply rfl;apply rfl;infer_instance;apply rfl;(constructor<;>omega);apply rfl;intro na nc)|(with_reducible first|refine Sr.nil ?_|refine S.reg ?_|refine S.inBlock ?_)|(apply SA.qn;(iterate 4 apply rfl);kernel_rfl)|(apply SA.qz;(iterate 4 apply rfl);kernel_rfl)|(apply SA.qsn;(iterate 3 apply rfl);kernel_rfl;(first|exact fun _ h=>h|exact fun _ h=>St.psub h (by ((repeat (first|dsimp only [List.set_cons_zero]|dsimp only [List.set_cons_succ]));repeat' first|exact PSub.refl _|exact PSub.nil|(apply PSub.take;(repeat' first|(with_reducible exact Z0)|(with_reducible apply Z1)))|(with_reducible apply PSub.drop)|((apply PSub.take);(repeat' first|exact Z0|(apply Z1)))))))|(apply SA.en;apply rfl;apply rfl;kernel_rfl)|(apply SA.done;apply rfl;kernel_rfl)|(apply SK.late;decide)|(apply SK.intro;(first|exact fun _ h=>h|exact fun _ h=>St.psub h (by ((repeat (first|dsimp only [List.set_cons_zero]|dsimp only [List.set_cons_succ]));repeat' first|exact PSub.refl _|exact PSub.nil|(apply PSub.take;(repeat' first|(with_reducible exact Z0)|(with_reducible apply Z1)))|(with_reducible apply PSub.drop)|((apply PSub.take);(repeat' first|exact Z0|(apply Z1)))))))|fail)
     exact ih _ _ _ _ ⟨i+1,m+1,nc,na,xs++[(t.getD i 0).toNat - 48],rfl,rfl,⟨by omega,by omega,by rw [List.length_append,g3];rfl,by omega⟩,rfl⟩ (by omega) (by repeat' first|exact trivial|refine And.intro rfl ?_)
    ·(apply S.drawL;(case Hs=>exact .blk b4 (rnV mi noL off dn (.slice ea m ec) false w) 154::.blk b2 (rnV false noL 0 false noL false []) 154::H);(case es=>exact  [7,8,10]);(case lt=>exact  [10]);(case n=>exact  11);(case hn=>rfl))
     repeat' (first|((with_reducible apply T.subU8N (n:=48));apply rfl;apply rfl;omega;apply rfl)|(apply T.sidx;apply rfl;apply rfl;omega;apply rfl)|((first|apply T.mv|apply T.asn|apply T.fieldAddrZ);apply rfl;apply rfl)|(apply T.load;apply rfl;apply rfl;infer_instance;apply rfl;apply rfl)|(apply T.addI;apply rfl;apply rfl;omega;apply rfl)|(apply T.convI64;apply rfl;omega;apply rfl)|(apply T.store;apply rfl;apply rfl;infer_instance;(first|decide|(simp;omega)|simp);apply rfl)|(apply T.bs;(iterate 6 apply rfl);intro nb)|(apply T.appendN;apply rfl;apply rfl;infer_instance;apply rfl;(constructor<;>omega);apply rfl;intro na nc)|(with_reducible first|refine Sr.nil ?_|refine S.reg ?_|refine S.inBlock ?_)|(apply SA.qn;(iterate 4 apply rfl);kernel_rfl)|(apply SA.qz;(iterate 4 apply rfl);kernel_rfl)|(apply SA.qsn;(iterate 3 apply rfl);kernel_rfl;(first|exact fun _ h=>h|exact fun _ h=>St.psub h (by ((repeat (first|dsimp only [List.set_cons_zero]|dsimp only [List.set_cons_succ]));repeat' first|exact PSub.refl _|exact PSub.nil|(apply PSub.take;(repeat' first|(with_reducible exact Z0)|(with_reducible apply Z1)))|(with_reducible apply PSub.drop)|((apply PSub.take);(repeat' first|exact Z0|(apply Z1)))))))|(apply SA.en;apply rfl;apply rfl;kernel_rfl)|(apply SA.done;apply rfl;kernel_rfl)|(apply SK.late;decide)|(apply SK.intro;(first|exact fun _ h=>h|exact fun _ h=>St.psub h (by ((repeat (first|dsimp only [List.set_cons_zero]|dsimp only [List.set_cons_succ]));repeat' first|exact PSub.refl _|exact PSub.nil|(apply PSub.take;(repeat' first|(with_reducible exact Z0)|(with_reducible apply Z1)))|(with_reducible apply PSub.drop)|((apply PSub.take);(repeat' first|exact Z0|(apply Z1)))))))|fail)
     exact ih _ _ _ _ ⟨i+1,m+1,nc,na,xs++[(t.getD i 0).toNat - 48],rfl,rfl,⟨by omega,by omega,by rw [List.length_append,g3];rfl,by omega⟩,rfl⟩ (by omega) (by repeat' first|exact trivial|refine And.intro rfl ?_)
    ·exact ih _ _ _ _ ⟨i+1,m,ec,ea,xs,rfl,rfl,⟨by omega,by omega,g3,by omega⟩,rfl⟩ (by omega) (by repeat' first|exact trivial|refine And.intro rfl ?_)
   ·obtain rfl:i=f:=by omega
    repeat' (first|((first|apply T.mv|apply T.asn);apply rfl;apply rfl)|(apply T.lss;(iterate 3 apply rfl))|(with_reducible first|refine Sr.nil ?_|refine S.seq ?_|refine S.reg ?_)|(apply S.exit;apply rfl)|(apply S.condQ;apply rfl;all_goals (intro _;try (exfalso;first|omega|with_reducible contradiction)))|fail)
    refine S.sublist ?_ (PSub.drop (PSub.refl _))
    exact hrest _ _ _ ⟨dn,false,i,ea,m,ec,rfl,rfl,hf2,hN⟩ (by repeat' first|exact trivial|refine And.intro rfl ?_)
 clear hN
 rintro _ _ ⟨dn,pl,q,ea,em,ec,rfl,rfl,hq,hN⟩
 refine S.seq ?_
 refine S.cut (fun H' e'=>H'=.blk b4 (rnV mi noL off dn (.slice ea em ec) pl w) 154::.blk b2 (rnV false noL 0 false noL false []) 154::H∧e'=[(0,sV t),(2,.pointer (some ⟨b2,0,none⟩)),(4,.pointer (some ⟨b4,0,none⟩)),(7,sV all)]∧np=some (mi,w,pl)) ?_ ?_
 ·intro k' hrest
  by_cases h:q=t.length
  ·rw [if_pos h] at hN
   repeat' (first|((first|apply T.slen|apply T.mv);apply rfl;apply rfl)|(apply T.neq;(iterate 3 apply rfl))|(with_reducible first|refine Sr.nil ?_|refine S.seq ?_|refine S.reg ?_|refine S.skip ?_)|(apply S.condQ;apply rfl;all_goals (intro _;try (exfalso;first|omega|with_reducible contradiction)))|fail)
   exact hrest _ _ _ ⟨rfl,rfl,hN⟩ (by repeat' first|exact trivial|refine And.intro rfl ?_)
  ·rw [if_neg h] at hN
   subst hN
   repeat' (first|((first|apply T.slen|apply T.mv|apply T.asn);apply rfl;apply rfl)|(apply T.neq;(iterate 3 apply rfl))|(apply T.loadW;apply rfl;apply rfl;infer_instance;(first|rfl|(simp only [List.length_append,List.length_map,List.length_set,List.length_replicate,List.length_cons,List.length_nil];first|done|omega));apply rfl)|(apply T.storeW;apply rfl;apply rfl;infer_instance;(first|rfl|(simp only [List.length_append,List.length_map,List.length_set,List.length_replicate,List.length_cons,List.length_nil];first|done|omega));(first|rfl|(simp only [List.length_append,List.length_map,List.length_set,List.length_replicate,List.length_cons,List.length_nil];first|done|omega));(first|rfl|(repeat' first|apply all_nV|apply all_bV|apply all_iV|rfl|apply all_app)))|(with_reducible first|refine Sr.nil ?_|refine S.seq ?_|refine S.reg ?_)|(apply S.condQ;apply rfl;all_goals (intro _;try (exfalso;first|omega|with_reducible contradiction)))|(apply T.retC;apply rfl;((repeat' first|apply RV.nil|(apply RV.tmp;apply rfl)|(apply RV.cellW;apply rfl;apply rfl;infer_instance;(first|rfl|(simp only [List.length_append,List.length_map,List.length_set,List.length_replicate,List.length_cons,List.length_nil];first|done|omega)))|(apply RV.cellP;apply rfl;apply rfl;infer_instance;apply rfl)));apply rfl)|fail)
   exact ⟨_,PSub.drop (PSub.drop (PSub.refl _)),_,_,_,_,_,_,_,_,_,_,_,rfl,rfl,fun x hx=>by cases hx⟩
 rintro _ _ ⟨rfl,rfl,hN2⟩
 subst hN2
 clear hN
 refine S.nilrow 3 1 ?_
 repeat' (first|(apply T.asn;apply rfl;apply rfl)|(with_reducible first|refine Sr.nil ?_|refine S.seq ?_|refine S.block ?_|refine S.reg ?_)|fail)
 refine S.loopE 2 [2,4,7] (fun R b' μ H' e=>∃ (i m dc:Nat) (da:Option Addr) (xs:List Nat) (o:Int),H'=.row da dc 3 1 m (xs.map nV)::.blk b4 (rnV mi (.slice da m dc) o dn (.slice ea em ec) pl w) 154::R∧e=(11,.int .i64 i)::b'∧(i≤all.length∧xs.length=m∧m≤i ∧ -5000000 - (i:Int)≤o∧o≤5000000)∧μ=all.length - i) rfl rfl ?_ _ _ ⟨0,0,0,none,[],off,rfl,rfl,⟨Nat.zero_le _,rfl,Nat.zero_le _,by omega,ho.2⟩,rfl⟩ (by repeat' first|exact trivial|refine And.intro rfl ?_)
 rintro _ _ _ ⟨i,m,dc,da,xs,o,rfl,rfl,⟨g1,g2,g3,g4,g5⟩,rfl⟩ ih
 by_cases g6:i < all.length
 ·have g7:=hall i g6
  have hbi:(all.getD i 0).toNat=bAt all i:=rfl
  repeat' (first|((with_reducible apply T.subU8N (n:=48));apply rfl;apply rfl;omega;apply rfl)|(apply T.slen;apply rfl;apply rfl)|(apply T.sidx;apply rfl;apply rfl;omega;apply rfl)|((first|apply T.mv|apply T.asn|apply T.fieldAddrZ);apply rfl;apply rfl)|(apply T.len;apply rfl;apply rfl)|(apply T.load;apply rfl;apply rfl;infer_instance;apply rfl;apply rfl)|((first|apply T.lss|apply T.gtr|apply T.neq);(iterate 3 apply rfl))|(apply T.addI;apply rfl;apply rfl;omega;apply rfl)|(apply T.subI;apply rfl;apply rfl;omega;apply rfl)|(apply T.pickT;(iterate 3 apply rfl))|(apply T.pickF;(iterate 3 apply rfl))|(apply T.convI64;apply rfl;omega;apply rfl)|(apply T.store;apply rfl;apply rfl;infer_instance;(first|decide|(simp;omega)|simp);apply rfl)|(apply T.bs;(iterate 6 apply rfl);intro nb)|(apply T.appendN;apply rfl;apply rfl;infer_instance;apply rfl;(constructor<;>omega);apply rfl;intro na nc)|(with_reducible first|refine Sr.nil ?_|refine S.seq ?_|refine S.block ?_|refine S.reg ?_|refine S.skip ?_|refine S.inBlock ?_)|(apply T.ungV;apply rfl;(first|with_reducible rfl|decide))|(apply T.skip;apply rfl;(first|with_reducible rfl|decide);apply rfl)|(apply S.condTV;apply rfl;(first|with_reducible rfl|decide))|(apply S.condQ;apply rfl;all_goals (intro _;try (exfalso;first|omega|with_reducible contradiction)))|(apply T.gcase;apply rfl;apply rfl;all_goals (intro _;try (exfalso;first|omega|with_reducible contradiction)))|fail)
  ·exact ih _ _ _ _ ⟨i+1,m+1,nc,na,xs++[(all.getD i 0).toNat - 48],o,rfl,rfl,⟨by omega,by rw [List.length_append,g2];rfl,by omega,by omega,g5⟩,rfl⟩ (by omega) (by repeat' first|exact trivial|refine And.intro rfl ?_)
  ·exact ih _ _ _ _ ⟨i+1,m+1,nc,na,xs++[(all.getD i 0).toNat - 48],o,rfl,rfl,⟨by omega,by rw [List.length_append,g2];rfl,by omega,by omega,g5⟩,rfl⟩ (by omega) (by repeat' first|exact trivial|refine And.intro rfl ?_)
  ·exact ih _ _ _ _ ⟨i+1,m,dc,da,xs,o - 1,rfl,rfl,⟨by omega,g2,by omega,by omega,by omega⟩,rfl⟩ (by omega) (by repeat' first|exact trivial|refine And.intro rfl ?_)
 ·obtain rfl:i=all.length:=by omega
  clear ih
  repeat' (first|((first|apply T.slen|apply T.mv);apply rfl;apply rfl)|(apply T.lss;(iterate 3 apply rfl))|(with_reducible first|refine Sr.nil ?_|refine S.seq ?_|refine S.block ?_|refine S.reg ?_)|(apply S.exit;apply rfl)|(apply S.condQ;apply rfl;all_goals (intro _;try (exfalso;first|omega|with_reducible contradiction)))|fail)
  refine S.loopE 2 [2,4] (fun R b' μ H' e=>∃ (m dc:Nat) (da:Option Addr) (xs:List Nat),H'=.row da dc 3 1 m (xs.map nV)::.blk b4 (rnV mi (.slice da m dc) o dn (.slice ea em ec) pl w) 154::R∧e=b'∧(m=xs.length∧xs.length≤5000000)∧μ=xs.length) rfl rfl ?_ _ _ ⟨m,dc,da,xs,rfl,rfl,⟨g2.symm,by omega⟩,rfl⟩ (by repeat' first|exact trivial|refine And.intro rfl ?_)
  clear g2 g3
  rintro _ _ _ ⟨m,dc,da,xs,rfl,rfl,⟨rfl,hxb⟩,rfl⟩ ih
  rcases List.eq_nil_or_concat xs with rfl|⟨ys,v,rfl⟩
  ·have g0:([]:List Nat).length=0:=rfl
   repeat' (first|((first|apply T.mv|apply T.asn|apply T.len|apply T.fieldAddrZ);apply rfl;apply rfl)|(apply T.load;apply rfl;apply rfl;infer_instance;apply rfl;apply rfl)|(apply T.gtr;(iterate 3 apply rfl))|(apply T.pickF;(iterate 3 apply rfl))|(apply T.loadW;apply rfl;apply rfl;infer_instance;(first|rfl|(simp only [List.length_append,List.length_map,List.length_set,List.length_replicate,List.length_cons,List.length_nil];first|done|omega));apply rfl)|(apply T.storeW;apply rfl;apply rfl;infer_instance;(first|rfl|(simp only [List.length_append,List.length_map,List.length_set,List.length_replicate,List.length_cons,List.length_nil];first|done|omega));(first|rfl|(simp only [List.length_append,List.length_map,List.length_set,List.length_replicate,List.length_cons,List.length_nil];first|done|omega));(first|rfl|(repeat' first|apply all_nV|apply all_bV|apply all_iV|rfl|apply all_app)))|(with_reducible first|refine Sr.nil ?_|refine S.seq ?_|refine S.reg ?_)|(apply S.exit;apply rfl)|(apply T.skip;apply rfl;(first|with_reducible rfl|decide);apply rfl)|(apply S.condFV;apply rfl;(first|with_reducible rfl|decide))|(apply T.retC;apply rfl;((repeat' first|apply RV.nil|(apply RV.tmp;apply rfl)|(apply RV.cellW;apply rfl;apply rfl;infer_instance;(first|rfl|(simp only [List.length_append,List.length_map,List.length_set,List.length_replicate,List.length_cons,List.length_nil];first|done|omega)))|(apply RV.cellP;apply rfl;apply rfl;infer_instance;apply rfl)));apply rfl)|fail)
   exact ⟨_,PSub.drop (PSub.drop (PSub.drop (PSub.refl _))),_,_,_,_,_,_,_,_,_,_,_,rfl,rfl,fun x hx=>by cases hx;rfl⟩
  ·have hcl:(ys.concat v).length=ys.length+1:=by simp
   rw [hcl] at hxb ⊢
   have e1:((ys.length+1:Nat):Int) - 1=((ys.length:Nat):Int):=by omega
   have hm:(ys.concat v).map nV=ys.map nV++[nV v]:=by rw [List.concat_eq_append,List.map_append];rfl
   have hv:(ys.concat v).getD ys.length 0=v:=by simp [List.getD]
   refine S.capR (ad:=da) inferInstance fun hcap=>?_
   repeat' (first|(apply T.subI;apply rfl;apply rfl;omega;apply rfl;rw [e1])|(apply T.loadNat;apply rfl;infer_instance;omega;apply rfl;rw [hv])|((first|apply T.mv|apply T.asn|apply T.len|apply T.fieldAddrZ);apply rfl;apply rfl)|(apply T.load;apply rfl;apply rfl;infer_instance;apply rfl;apply rfl)|((first|apply T.gtr|apply T.eql);(iterate 3 apply rfl))|(apply T.ixN;apply rfl;apply rfl;infer_instance;omega;(first|omega|(simp only [List.length_map];omega)|(simp;omega));apply rfl)|(apply T.pickT;(iterate 3 apply rfl))|(apply T.loadW;apply rfl;apply rfl;infer_instance;(first|rfl|(simp only [List.length_append,List.length_map,List.length_set,List.length_replicate,List.length_cons,List.length_nil];first|done|omega));apply rfl)|(apply T.sliceHK;apply rfl;apply rfl;omega;apply rfl)|(apply T.storeW;apply rfl;apply rfl;infer_instance;(first|rfl|(simp only [List.length_append,List.length_map,List.length_set,List.length_replicate,List.length_cons,List.length_nil];first|done|omega));(first|rfl|(simp only [List.length_append,List.length_map,List.length_set,List.length_replicate,List.length_cons,List.length_nil];first|done|omega));(first|rfl|(repeat' first|apply all_nV|apply all_bV|apply all_iV|rfl|apply all_app)))|(apply T.store;apply rfl;apply rfl;infer_instance;(first|decide|(simp;omega)|simp);apply rfl)|(with_reducible first|refine Sr.nil ?_|refine S.seq ?_|refine S.block ?_|refine S.reg ?_|refine S.skip ?_|refine S.inBlock ?_)|(apply S.exit;apply rfl)|(apply T.ungV;apply rfl;(first|with_reducible rfl|decide))|(apply S.condQ;apply rfl;all_goals (intro _;try (exfalso;first|omega|with_reducible contradiction)))|(apply T.gcase;apply rfl;apply rfl;all_goals (intro _;try (exfalso;first|omega|with_reducible contradiction)))|(apply T.retC;apply rfl;((repeat' first|apply RV.nil|(apply RV.tmp;apply rfl)|(apply RV.cellW;apply rfl;apply rfl;infer_instance;(first|rfl|(simp only [List.length_append,List.length_map,List.length_set,List.length_replicate,List.length_cons,List.length_nil];first|done|omega)))|(apply RV.cellP;apply rfl;apply rfl;infer_instance;apply rfl)));apply rfl)|fail)
   ·rw [hm]
    refine S.frontR da ?_
    refine S.shrink ?_
    exact ih _ _ _ _ ⟨ys.length,dc,da,ys,rfl,rfl,⟨rfl,by omega⟩,rfl⟩ (by rw [hcl];omega) (by repeat' first|exact trivial|refine And.intro rfl ?_)
   ·exact ⟨_,PSub.drop (PSub.drop (PSub.drop (PSub.refl _))),_,_,_,_,_,_,_,_,_,_,_,rfl,rfl,fun x hx=>by cases hx;rfl⟩
end
end Go.Proofs.YthomgjihagigcaaGreatDoor
/- The walks of the document's numbers: whole ones. -/
namespace Sg
open Go Go.RowKit
section
variable {c:Ctx} {ds:List Deferred} {H:List Res} {ops:Array Oper} {l:List Oper} {κ:List Res→Env→Prop} {q:Mode} {e:Env} {pos:String} {aft:Array Edge} {ty:TypeId}
theorem T.quoNeg {x y:Operand} {d:Tmp} {t u:TypeId} {m:Nat} (n:Nat) (hx:ev e x=some (.int .i64 (-(m:Int)))) (hy:ev e y=some (.int .i64 (n:Int))) (h0:0 < n∧m≤9223372036854775808) (hlt:Nat.blt d c.fn.ntmps=true) (hk:Sr q c ds H ops l κ ((d,.int .i64 (-((m / n:Nat):Int)))::e)) :
  Sr q c ds H ops (⟨some d,.binOp .quo t x y u,ty,pos,aft,none⟩::l) κ e:=Sr.p (Pu.quo hx hy (by omega) (by
   have:=Nat.div_le_self m n
   rw [Int.neg_tdiv,←Int.ofNat_tdiv]
   generalize m / n=k at *
   exact IntWalk.i64_in _ (by omega))) rfl hlt rfl hk
theorem T.negI {x:Operand} {d:Tmp} {t:TypeId} {m:Int} (hx:ev e x=some (.int .i64 m)) (h : -9223372036854775808≤0 - m∧0 - m≤9223372036854775807) (hlt:Nat.blt d c.fn.ntmps=true) (hk:Sr q c ds H ops l κ ((d,.int .i64 (0 - m))::e)) :
  Sr q c ds H ops (⟨some d,.unOp .neg t x,ty,pos,aft,none⟩::l) κ e:=Sr.p (Pu.neg hx (IntWalk.i64_in _ h)) rfl hlt rfl hk
end
end Sg
namespace Go.Proofs.YthomgjihagigcaaGreatDoor
open Sg Go.IntWalk
set_option maxRecDepth 100000
set_option maxHeartbeats 4000000
section
variable {F:World} {M:List Nat} {H:List Res} {t:List UInt8} {p:Nat}
theorem Z3a (hl:t.length≤2200000):Meets Tryz.prog 148 [sV t] F M H (fun e H'=>e=.returned (.tuple ⟨[.int .i64 (Z9 t).1,.bool (Z9 t).2]⟩)∧H'=H):=by
 refine Meets.enter Tryz.func148 rfl rfl ?_
 repeat' (first|((first|apply T.mv|apply T.asn);apply rfl;apply rfl)|(with_reducible first|refine Sr.nil ?_|refine S.seq ?_|refine S.reg ?_)|fail)
 refine T.call rfl rfl (Z1H hl) ?_
 rintro _ _ ⟨mi,pl,dn,w,da,ea,dm,dc,em,ec,off,rfl,hH,hx⟩
 have hH2:=hH.symm
 subst hH2
 unfold Z9
 cases hn:numP t with
 | none =>
  repeat' (first|((first|apply T.mv|apply T.asn);apply rfl;apply rfl)|(apply T.extract;(iterate 3 apply rfl))|(apply T.notB;apply rfl;apply rfl)|(apply T.pickT;(iterate 3 apply rfl))|(apply T.storeW;apply rfl;apply rfl;infer_instance;(first|rfl|(simp only [List.length_append,List.length_map,List.length_set,List.length_replicate,List.length_cons,List.length_nil];first|done|omega));(first|rfl|(simp only [List.length_append,List.length_map,List.length_set,List.length_replicate,List.length_cons,List.length_nil];first|done|omega));(first|rfl|(repeat' first|apply all_nV|apply all_bV|apply all_iV|rfl|apply all_app)))|(apply T.alloc;apply rfl;intro nb)|(with_reducible first|refine Sr.nil ?_|refine S.seq ?_|refine S.reg ?_)|(apply T.skip;apply rfl;(first|with_reducible rfl|decide);apply rfl)|(apply S.condTV;apply rfl;(first|with_reducible rfl|decide))|(apply T.retW;apply rfl)|(with_reducible apply T.ofRet)|fail)
  exact ⟨_,PSub.drop (PSub.refl _),rfl,rfl⟩
 | some x =>
  obtain rfl:=hx x hn
  obtain ⟨hd,hw⟩:=Z26 hn
  cases pl with
  | false =>
   repeat' (first|((first|apply T.mv|apply T.asn|apply T.fieldAddrZ);apply rfl;apply rfl)|(apply T.load;apply rfl;apply rfl;infer_instance;apply rfl;apply rfl)|(apply T.extract;(iterate 3 apply rfl))|(apply T.notB;apply rfl;apply rfl)|(apply T.pickF;(iterate 3 apply rfl))|(apply T.storeW;apply rfl;apply rfl;infer_instance;(first|rfl|(simp only [List.length_append,List.length_map,List.length_set,List.length_replicate,List.length_cons,List.length_nil];first|done|omega));(first|rfl|(simp only [List.length_append,List.length_map,List.length_set,List.length_replicate,List.length_cons,List.length_nil];first|done|omega));(first|rfl|(repeat' first|apply all_nV|apply all_bV|apply all_iV|rfl|apply all_app)))|(apply T.alloc;apply rfl;intro nb)|(with_reducible first|refine Sr.nil ?_|refine S.seq ?_|refine S.reg ?_)|(apply S.condTV;apply rfl;(first|with_reducible rfl|decide))|(apply T.retW;apply rfl)|(with_reducible apply T.ofRet)|(apply T.ung;apply rfl)|fail)
   exact ⟨_,PSub.drop (PSub.refl _),rfl,rfl⟩
  | true =>
   simp only
   have h00:(0:Int) = -((decV (w.take 0):Nat):Int):=rfl
   repeat' (first|((first|apply T.mv|apply T.asn|apply T.fieldAddrZ);apply rfl;apply rfl)|(apply T.load;apply rfl;apply rfl;infer_instance;apply rfl;apply rfl)|(apply T.extract;(iterate 3 apply rfl))|(apply T.notB;apply rfl;apply rfl)|(apply T.pickF;(iterate 3 apply rfl))|(apply T.storeW;apply rfl;apply rfl;infer_instance;(first|rfl|(simp only [List.length_append,List.length_map,List.length_set,List.length_replicate,List.length_cons,List.length_nil];first|done|omega));(first|rfl|(simp only [List.length_append,List.length_map,List.length_set,List.length_replicate,List.length_cons,List.length_nil];first|done|omega));(first|rfl|(repeat' first|apply all_nV|apply all_bV|apply all_iV|rfl|apply all_app)))|(apply T.alloc;apply rfl;intro nb)|(with_reducible first|refine Sr.nil ?_|refine S.seq ?_|refine S.block ?_|refine S.reg ?_|refine S.skip ?_)|(apply S.condFV;apply rfl;(first|with_reducible rfl|decide))|(with_reducible apply T.ofRet)|(apply T.ung;apply rfl)|fail)
   refine S.loopE 1 [4] (fun R b' μ H' e=>∃ i:Nat,H'=.blk nb (rnV mi (.slice da dm dc) off dn (.slice ea em ec) true w) 154::R∧e=(6,.int .i64 (-(decV (w.take i):Nat)))::(7,.int .i64 i)::b'∧(i≤w.length∧decV (w.take i)≤9223372036854775808)∧μ=w.length - i) rfl rfl ?_ _ _ ⟨0,rfl,rfl,⟨Nat.zero_le _,by simp [decV]⟩,rfl⟩ (by repeat' first|exact trivial|refine And.intro rfl ?_)
   rintro _ _ _ ⟨i,rfl,rfl,⟨h1,h2⟩,rfl⟩ ih
   by_cases h3:i < w.length
   ·have hdi:=hd i h3
    have hb:(w.getD i 0).toNat=bAt w i:=rfl
    have hstep:decV (w.take (i+1))=10*decV (w.take i)+(bAt w i - 48):=by
     have hg:w[i]=w.getD i 0:=by simp [List.getD,h3]
     rw [List.take_succ_eq_append_getElem h3,Z2n,hg,hb]
    have hmono:=Z46 (l:=w) (i:=i+1) (by omega)
    have e3:(-9223372036854775808:Int)+(((w.getD i 0).toNat - 48:Nat):Int) = -((9223372036854775808 - ((w.getD i 0).toNat - 48):Nat):Int):=by omega
    have e4:10*(-((decV (w.take i):Nat):Int)) - (((w.getD i 0).toNat - 48:Nat):Int) = -((decV (w.take (i+1)):Nat):Int):=by rw [hstep,hb];omega
    generalize hN:9223372036854775808 - ((w.getD i 0).toNat - 48)=N at *
    by_cases h4:decV (w.take (i+1))≤9223372036854775808
    ·have h5:¬(-((decV (w.take i):Nat):Int) < -((N / 10:Nat):Int)):=by omega
     repeat' (first|((with_reducible apply T.subU8N (n:=48));apply rfl;apply rfl;omega;apply rfl)|(apply T.addI;apply rfl;apply rfl;omega;apply rfl;rw [e3])|(refine T.quoNeg 10 rfl rfl (by omega) rfl ?_)|(apply T.subI;apply rfl;apply rfl;omega;apply rfl;rw [e4])|((first|apply T.slen|apply T.mv|apply T.asn|apply T.fieldAddrZ);apply rfl;apply rfl)|(apply T.sidx;apply rfl;apply rfl;omega;apply rfl)|(apply T.load;apply rfl;apply rfl;infer_instance;apply rfl;apply rfl)|(apply T.lss;(iterate 3 apply rfl))|(apply T.addI;apply rfl;apply rfl;omega;apply rfl)|(apply T.mulI;apply rfl;apply rfl;omega;apply rfl)|(apply T.convI64;apply rfl;omega;apply rfl)|(with_reducible first|refine Sr.nil ?_|refine S.seq ?_|refine S.block ?_|refine S.reg ?_|refine S.skip ?_|refine S.inBlock ?_)|(apply S.condQ;apply rfl;all_goals (intro _;try (exfalso;first|omega|with_reducible contradiction)))|fail)
     exact ih _ _ _ _ ⟨i+1,rfl,rfl,⟨by omega,h4⟩,rfl⟩ (by omega) (by repeat' first|exact trivial|refine And.intro rfl ?_)
    ·have hv:whole64 mi (decV w)=(0,false):=by
      unfold whole64
      cases mi
      ·rw [if_neg (by simp),if_neg (by omega)]
      ·rw [if_pos rfl,if_neg (by omega)]
     have h5 : -((decV (w.take i):Nat):Int) < -((N / 10:Nat):Int):=by omega
     rw [hv]
     repeat' (first|((with_reducible apply T.subU8N (n:=48));apply rfl;apply rfl;omega;apply rfl)|(apply T.addI;apply rfl;apply rfl;omega;apply rfl;rw [e3])|(refine T.quoNeg 10 rfl rfl (by omega) rfl ?_)|((first|apply T.slen|apply T.mv|apply T.asn|apply T.fieldAddrZ);apply rfl;apply rfl)|(apply T.sidx;apply rfl;apply rfl;omega;apply rfl)|(apply T.load;apply rfl;apply rfl;infer_instance;apply rfl;apply rfl)|(apply T.lss;(iterate 3 apply rfl))|(apply T.convI64;apply rfl;omega;apply rfl)|(with_reducible first|refine Sr.nil ?_|refine S.seq ?_|refine S.block ?_|refine S.reg ?_|refine S.skip ?_)|(apply S.condQ;apply rfl;all_goals (intro _;try (exfalso;first|omega|with_reducible contradiction)))|(apply T.retW;apply rfl)|fail)
     exact ⟨_,PSub.drop (PSub.refl _),rfl,rfl⟩
   ·obtain rfl:i=w.length:=by omega
    rw [List.take_length] at h2 ⊢
    unfold whole64
    cases mi with
    | true =>
     rw [if_pos rfl,if_pos h2]
     repeat' (first|((first|apply T.slen|apply T.mv|apply T.asn|apply T.fieldAddrZ);apply rfl;apply rfl)|(apply T.load;apply rfl;apply rfl;infer_instance;apply rfl;apply rfl)|(apply T.lss;(iterate 3 apply rfl))|(with_reducible first|refine Sr.nil ?_|refine S.seq ?_|refine S.reg ?_)|(apply S.exit;apply rfl)|(apply S.condTV;apply rfl;(first|with_reducible rfl|decide))|(apply S.condQ;apply rfl;all_goals (intro _;try (exfalso;first|omega|with_reducible contradiction)))|(apply T.retW;apply rfl)|fail)
     exact ⟨_,PSub.drop (PSub.refl _),rfl,rfl⟩
    | false =>
     rw [if_neg (by simp)]
     by_cases h5:decV w < 9223372036854775808
     ·rw [if_pos h5]
      have e5:(0:Int) - -((decV w:Nat):Int)=((decV w:Nat):Int):=by omega
      repeat' (first|(refine T.negI rfl (by omega) rfl ?_;rw [e5])|((first|apply T.slen|apply T.mv|apply T.asn|apply T.fieldAddrZ);apply rfl;apply rfl)|(apply T.load;apply rfl;apply rfl;infer_instance;apply rfl;apply rfl)|((first|apply T.lss|apply T.eql);(iterate 3 apply rfl))|(with_reducible first|refine Sr.nil ?_|refine S.seq ?_|refine S.reg ?_|refine S.skip ?_)|(apply S.exit;apply rfl)|(apply S.condFV;apply rfl;(first|with_reducible rfl|decide))|(apply S.condQ;apply rfl;all_goals (intro _;try (exfalso;first|omega|with_reducible contradiction)))|(apply T.retW;apply rfl)|fail)
      exact ⟨_,PSub.drop (PSub.refl _),rfl,rfl⟩
     ·rw [if_neg h5]
      repeat' (first|((first|apply T.slen|apply T.mv|apply T.asn|apply T.fieldAddrZ);apply rfl;apply rfl)|(apply T.load;apply rfl;apply rfl;infer_instance;apply rfl;apply rfl)|((first|apply T.lss|apply T.eql);(iterate 3 apply rfl))|(with_reducible first|refine Sr.nil ?_|refine S.seq ?_|refine S.reg ?_|refine S.skip ?_)|(apply S.exit;apply rfl)|(apply S.condFV;apply rfl;(first|with_reducible rfl|decide))|(apply S.condQ;apply rfl;all_goals (intro _;try (exfalso;first|omega|with_reducible contradiction)))|(apply T.retW;apply rfl)|fail)
      exact ⟨_,PSub.drop (PSub.refl _),rfl,rfl⟩
end
end Go.Proofs.YthomgjihagigcaaGreatDoor
/- The walks of the document's reader of JSON: numbers. -/
namespace Go.Proofs.YthomgjihagigcaaGreatDoor
open Sg Go.IntWalk
set_option maxRecDepth 100000
set_option maxHeartbeats 4000000
section
variable {F:World} {M:List Nat} {H:List Res} {t:List UInt8} {p:Nat}
theorem Z1D {t:List UInt8} {q:Nat} {c:Int} {b:Nat} (h:ZF t q=.bad c b):c=31:=by
 unfold ZF at h
 split at h
 ·cases h;rfl
 ·cases h
theorem ZJ {q c:Nat} (h:bAt t q=c) (hc:0 < c):Z1E t q=(c:Int):=by
 have:=Z7 (t:=t) (p:=q) (by omega)
 rw [ZB this,h]
theorem Zy {q c:Nat} (h:¬bAt t q=c):¬Z1E t q=(c:Int):=by
 by_cases hq:q < t.length
 ·rw [ZB hq];omega
 ·rw [ZX hq];omega
def numN (t:List UInt8) (p a:Nat):Nd:={ nd 4 with text:=sl t p a,int:=(Z9 (sl t p a)).1,whole:=(Z9 (sl t p a)).2 }
theorem Z2t (hp:p < t.length) (hl:t.length≤262144):Meets Tryz.prog 133 [sV t,.int .i64 p] F M H (VaE H ((numX t p).bind fun a _=>.ok a [numN t p a])):=by
 refine Meets.enter Tryz.func133 rfl rfl ?_
 have hfit:=Z1o (t:=t) (p:=p) (by omega)
 have hN:numX t p=(Z0y t (if atB t p 45 then p+1 else p)).bind fun a _=>(ZU t a).bind fun b _=>Z0z t b:=rfl
 generalize numX t p=Q at *
 refine S.seq ?_
 repeat' (first|(apply T.alloc;apply rfl;intro nb)|(with_reducible first|refine Sr.nil ?_|refine S.reg ?_)|fail)
 revert nb
 intro b4
 refine S.seq ?_
 repeat' (first|((first|apply T.mv|apply T.asn);apply rfl;apply rfl)|(with_reducible first|refine Sr.nil ?_|refine S.reg ?_)|fail)
 refine S.seq ?_
 refine S.cut (fun H' e'=>∃ a:Nat,H'=.blk b4 (goV 0 noL [] 0 0) 151::H∧e'=[(0,sV t),(1,.int .i64 p),(4,.pointer (some ⟨b4,0,none⟩)),(5,.int .i64 a)]∧a≤t.length∧Q=(Z0y t a).bind fun a _=>(ZU t a).bind fun b _=>Z0z t b) ?_ ?_
 ·intro k' hrest
  have hb:(t.getD p 0).toNat=bAt t p:=rfl
  rw [Zs (by decide)] at hN
  by_cases h:bAt t p=45
  ·rw [if_pos (by rw [decide_eq_true_eq];exact h)] at hN
   repeat' (first|(apply T.sidx;apply rfl;apply rfl;omega;apply rfl)|((first|apply T.mv|apply T.asn);apply rfl;apply rfl)|(apply T.eql;(iterate 3 apply rfl))|(apply T.addI;apply rfl;apply rfl;omega;apply rfl)|(with_reducible first|refine Sr.nil ?_|refine S.seq ?_|refine S.reg ?_)|(apply S.condQ;apply rfl;all_goals (intro _;try (exfalso;first|omega|with_reducible contradiction)))|fail)
   exact hrest _ _ _ ⟨p+1,rfl,rfl,by omega,hN⟩ (by repeat' first|exact trivial|refine And.intro rfl ?_)
  ·rw [if_neg (by rw [decide_eq_true_eq];exact h)] at hN
   repeat' (first|(apply T.sidx;apply rfl;apply rfl;omega;apply rfl)|(apply T.mv;apply rfl;apply rfl)|(apply T.eql;(iterate 3 apply rfl))|(with_reducible first|refine Sr.nil ?_|refine S.seq ?_|refine S.reg ?_|refine S.skip ?_)|(apply S.condQ;apply rfl;all_goals (intro _;try (exfalso;first|omega|with_reducible contradiction)))|fail)
   exact hrest _ _ _ ⟨p,rfl,rfl,by omega,hN⟩ (by repeat' first|exact trivial|refine And.intro rfl ?_)
 clear hN
 rintro _ _ ⟨a,rfl,rfl,ha,hN⟩
 refine S.seq ?_
 refine S.cut (fun H' e'=>∃ a:Nat,H'=.blk b4 (goV 0 noL [] 0 0) 151::H∧e'=[(0,sV t),(1,.int .i64 p),(4,.pointer (some ⟨b4,0,none⟩)),(5,.int .i64 a)]∧a≤t.length∧Q=(ZU t a).bind fun b _=>Z0z t b) ?_ ?_
 ·intro k' hrest
  unfold Z0y at hN
  rw [Zs (by decide)] at hN
  repeat' (first|(apply T.mv;apply rfl;apply rfl)|(with_reducible first|refine S.seq ?_|refine S.reg ?_)|fail)
  refine T.call rfl rfl Z4 ?_
  rintro _ _ ⟨rfl,rfl⟩
  by_cases h:bAt t a=48
  ·rw [if_pos (by rw [decide_eq_true_eq];exact h)] at hN
   have:=Z7 (t:=t) (p:=a) (by omega)
   rw [ZJ h (by omega)]
   repeat' (first|((first|apply T.mv|apply T.asn);apply rfl;apply rfl)|(apply T.eql;(iterate 3 apply rfl))|(apply T.addI;apply rfl;apply rfl;omega;apply rfl)|(with_reducible first|refine Sr.nil ?_|refine S.reg ?_)|(apply S.condTV;apply rfl;(first|with_reducible rfl|decide))|(with_reducible apply T.ofRet)|fail)
   exact hrest _ _ _ ⟨a+1,rfl,rfl,by omega,hN⟩ (by repeat' first|exact trivial|refine And.intro rfl ?_)
  ·have hI:=Zy h
   rw [if_neg (by rw [decide_eq_true_eq];exact h)] at hN
   repeat' (first|(apply T.mv;apply rfl;apply rfl)|(apply T.eql;(iterate 3 apply rfl))|(with_reducible first|refine Sr.nil ?_|refine S.seq ?_|refine S.reg ?_)|(apply S.condQ;apply rfl;all_goals (intro _;try (exfalso;first|omega|with_reducible contradiction)))|(with_reducible apply T.ofRet)|fail)
   refine T.call rfl rfl (Z0d ha (by omega)) ?_
   have hf:=Zt ha
   cases hx:ZF t a with
   | bad c b =>
    rw [hx] at hN
    obtain rfl:=Z1D hx
    rw [hN]
    rintro _ _ ⟨rfl,rfl⟩
    repeat' (first|(apply T.fieldAddrZ;apply rfl;apply rfl)|(apply T.load;apply rfl;apply rfl;infer_instance;apply rfl;apply rfl)|(apply T.neq;(iterate 3 apply rfl))|(apply T.loadW;apply rfl;apply rfl;infer_instance;(first|rfl|(simp only [List.length_append,List.length_map,List.length_set,List.length_replicate,List.length_cons,List.length_nil];first|done|omega));apply rfl)|(apply T.storeW;apply rfl;apply rfl;infer_instance;(first|rfl|(simp only [List.length_append,List.length_map,List.length_set,List.length_replicate,List.length_cons,List.length_nil];first|done|omega));(first|rfl|(simp only [List.length_append,List.length_map,List.length_set,List.length_replicate,List.length_cons,List.length_nil];first|done|omega));(first|rfl|(repeat' first|apply all_nV|apply all_bV|apply all_iV|rfl|apply all_app)))|(apply T.alloc;apply rfl;intro nb)|(with_reducible first|refine Sr.nil ?_|refine S.seq ?_|refine S.reg ?_)|(apply S.condTV;apply rfl;(first|with_reducible rfl|decide))|(with_reducible apply T.ofRet)|(apply T.retC;apply rfl;((repeat' first|apply RV.nil|(apply RV.tmp;apply rfl)|(apply RV.cellW;apply rfl;apply rfl;infer_instance;(first|rfl|(simp only [List.length_append,List.length_map,List.length_set,List.length_replicate,List.length_cons,List.length_nil];first|done|omega)))|(apply RV.cellP;apply rfl;apply rfl;infer_instance;apply rfl)));apply rfl)|fail)
    exact ⟨_,PSub.drop (PSub.drop (PSub.refl _)),[],rfl,rfl⟩
   | ok b v =>
    rw [hx] at hN
    have:=hf b v hx
    rintro _ _ ⟨rfl,rfl⟩
    repeat' (first|((first|apply T.asn|apply T.fieldAddrZ);apply rfl;apply rfl)|(apply T.load;apply rfl;apply rfl;infer_instance;apply rfl;apply rfl)|(apply T.neq;(iterate 3 apply rfl))|(apply T.storeW;apply rfl;apply rfl;infer_instance;(first|rfl|(simp only [List.length_append,List.length_map,List.length_set,List.length_replicate,List.length_cons,List.length_nil];first|done|omega));(first|rfl|(simp only [List.length_append,List.length_map,List.length_set,List.length_replicate,List.length_cons,List.length_nil];first|done|omega));(first|rfl|(repeat' first|apply all_nV|apply all_bV|apply all_iV|rfl|apply all_app)))|(apply T.alloc;apply rfl;intro nb)|(with_reducible first|refine Sr.nil ?_|refine S.seq ?_|refine S.reg ?_|refine S.skip ?_)|(apply S.condFV;apply rfl;(first|with_reducible rfl|decide))|(with_reducible apply T.ofRet)|fail)
    refine S.sublist ?_ (PSub.drop (PSub.refl _))
    exact hrest _ _ _ ⟨b,rfl,rfl,by omega,hN⟩ (by repeat' first|exact trivial|refine And.intro rfl ?_)
 clear hN ha a
 rintro _ _ ⟨a,rfl,rfl,ha,hN⟩
 refine S.seq ?_
 refine S.cut (fun H' e'=>∃ a:Nat,H'=.blk b4 (goV 0 noL [] 0 0) 151::H∧e'=[(0,sV t),(1,.int .i64 p),(4,.pointer (some ⟨b4,0,none⟩)),(5,.int .i64 a)]∧a≤t.length∧Q=Z0z t a) ?_ ?_
 ·intro k' hrest
  unfold ZU at hN
  rw [Zs (by decide)] at hN
  repeat' (first|(apply T.mv;apply rfl;apply rfl)|(with_reducible first|refine S.seq ?_|refine S.reg ?_)|fail)
  refine T.call rfl rfl Z4 ?_
  rintro _ _ ⟨rfl,rfl⟩
  by_cases h:bAt t a=46
  ·rw [if_pos (by rw [decide_eq_true_eq];exact h)] at hN
   have h1:=Z7 (t:=t) (p:=a) (by omega)
   have e1:(a:Int)+1=((a+1:Nat):Int):=by omega
   rw [ZJ h (by omega)]
   repeat' (first|(apply T.addI;apply rfl;apply rfl;omega;apply rfl;rw [e1])|(apply T.mv;apply rfl;apply rfl)|(apply T.eql;(iterate 3 apply rfl))|(with_reducible first|refine Sr.nil ?_|refine S.seq ?_|refine S.reg ?_)|(apply S.condTV;apply rfl;(first|with_reducible rfl|decide))|(with_reducible apply T.ofRet)|fail)
   refine T.call rfl rfl (Z0d (p:=a+1) (by omega) (by omega)) ?_
   have hf:=Zt (t:=t) (p:=a+1) (by omega)
   cases hx:ZF t (a+1) with
   | bad c b =>
    rw [hx] at hN
    obtain rfl:=Z1D hx
    rw [hN]
    rintro _ _ ⟨rfl,rfl⟩
    repeat' (first|(apply T.fieldAddrZ;apply rfl;apply rfl)|(apply T.load;apply rfl;apply rfl;infer_instance;apply rfl;apply rfl)|(apply T.neq;(iterate 3 apply rfl))|(apply T.loadW;apply rfl;apply rfl;infer_instance;(first|rfl|(simp only [List.length_append,List.length_map,List.length_set,List.length_replicate,List.length_cons,List.length_nil];first|done|omega));apply rfl)|(apply T.storeW;apply rfl;apply rfl;infer_instance;(first|rfl|(simp only [List.length_append,List.length_map,List.length_set,List.length_replicate,List.length_cons,List.length_nil];first|done|omega));(first|rfl|(simp only [List.length_append,List.length_map,List.length_set,List.length_replicate,List.length_cons,List.length_nil];first|done|omega));(first|rfl|(repeat' first|apply all_nV|apply all_bV|apply all_iV|rfl|apply all_app)))|(apply T.alloc;apply rfl;intro nb)|(with_reducible first|refine Sr.nil ?_|refine S.seq ?_|refine S.reg ?_)|(apply S.condTV;apply rfl;(first|with_reducible rfl|decide))|(with_reducible apply T.ofRet)|(apply T.retC;apply rfl;((repeat' first|apply RV.nil|(apply RV.tmp;apply rfl)|(apply RV.cellW;apply rfl;apply rfl;infer_instance;(first|rfl|(simp only [List.length_append,List.length_map,List.length_set,List.length_replicate,List.length_cons,List.length_nil];first|done|omega)))|(apply RV.cellP;apply rfl;apply rfl;infer_instance;apply rfl)));apply rfl)|fail)
    exact ⟨_,PSub.drop (PSub.drop (PSub.refl _)),[],rfl,rfl⟩
   | ok b v =>
    rw [hx] at hN
    have:=hf b v hx
    rintro _ _ ⟨rfl,rfl⟩
    repeat' (first|((first|apply T.asn|apply T.fieldAddrZ);apply rfl;apply rfl)|(apply T.load;apply rfl;apply rfl;infer_instance;apply rfl;apply rfl)|(apply T.neq;(iterate 3 apply rfl))|(apply T.storeW;apply rfl;apply rfl;infer_instance;(first|rfl|(simp only [List.length_append,List.length_map,List.length_set,List.length_replicate,List.length_cons,List.length_nil];first|done|omega));(first|rfl|(simp only [List.length_append,List.length_map,List.length_set,List.length_replicate,List.length_cons,List.length_nil];first|done|omega));(first|rfl|(repeat' first|apply all_nV|apply all_bV|apply all_iV|rfl|apply all_app)))|(apply T.alloc;apply rfl;intro nb)|(with_reducible first|refine Sr.nil ?_|refine S.seq ?_|refine S.reg ?_|refine S.skip ?_)|(apply S.condFV;apply rfl;(first|with_reducible rfl|decide))|(with_reducible apply T.ofRet)|fail)
    refine S.sublist ?_ (PSub.drop (PSub.refl _))
    exact hrest _ _ _ ⟨b,rfl,rfl,by omega,hN⟩ (by repeat' first|exact trivial|refine And.intro rfl ?_)
  ·have hI:=Zy h
   rw [if_neg (by rw [decide_eq_true_eq];exact h)] at hN
   repeat' (first|(apply T.eql;(iterate 3 apply rfl))|(with_reducible first|refine Sr.nil ?_|refine S.skip ?_)|(apply S.condQ;apply rfl;all_goals (intro _;try (exfalso;first|omega|with_reducible contradiction)))|(with_reducible apply T.ofRet)|fail)
   exact hrest _ _ _ ⟨a,rfl,rfl,by omega,hN⟩ (by repeat' first|exact trivial|refine And.intro rfl ?_)
 clear hN ha a
 rintro _ _ ⟨a,rfl,rfl,ha,hN⟩
 refine S.seq ?_
 refine S.cut (fun H' e'=>∃ a:Nat,H'=.blk b4 (goV 0 noL [] 0 0) 151::H∧e'=[(0,sV t),(1,.int .i64 p),(4,.pointer (some ⟨b4,0,none⟩)),(5,.int .i64 a)]∧Q=.ok a ()) ?_ ?_
 ·intro k' hrest
  unfold Z0z at hN
  rw [Zs (by decide),Zs (by decide)] at hN
  refine S.seq ?_
  refine S.cut (fun H' e'=>∃ bx:Bool,H'=.blk b4 (goV 0 noL [] 0 0) 151::H∧e'=[(0,sV t),(1,.int .i64 p),(4,.pointer (some ⟨b4,0,none⟩)),(5,.int .i64 a),(56,.bool bx)]∧bx=(decide (bAt t a=101) || decide (bAt t a=69))) ?_ ?_
  ·intro k'' hmid
   repeat' (first|(apply T.mv;apply rfl;apply rfl)|with_reducible refine S.reg ?_|fail)
   refine T.call rfl rfl Z4 ?_
   rintro _ _ ⟨rfl,rfl⟩
   by_cases h:bAt t a=101
   ·rw [ZJ h (by omega)]
    repeat' (first|(apply T.mv;apply rfl;apply rfl)|(apply T.eql;(iterate 3 apply rfl))|(apply T.pickT;(iterate 3 apply rfl))|with_reducible refine Sr.nil ?_|(apply T.skip;apply rfl;(first|with_reducible rfl|decide);apply rfl)|(with_reducible apply T.ofRet)|fail)
    exact hmid _ _ _ ⟨true,rfl,rfl,by rw [decide_eq_true h];rfl⟩ (by repeat' first|exact trivial|refine And.intro rfl ?_)
   ·have hI:=Zy h
    repeat' (first|(apply T.mv;apply rfl;apply rfl)|(apply T.eql;(iterate 3 apply rfl))|(apply T.ungV;apply rfl;(first|with_reducible rfl|decide))|(apply T.gcase;apply rfl;apply rfl;all_goals (intro _;try (exfalso;first|omega|with_reducible contradiction)))|(with_reducible apply T.ofRet)|fail)
    refine T.call rfl rfl Z4 ?_
    rintro _ _ ⟨rfl,rfl⟩
    by_cases h2:bAt t a=69
    ·rw [ZJ h2 (by omega)]
     repeat' (first|(apply T.eql;(iterate 3 apply rfl))|(apply T.pickF;(iterate 3 apply rfl))|with_reducible refine Sr.nil ?_|(apply T.ungV;apply rfl;(first|with_reducible rfl|decide))|(with_reducible apply T.ofRet)|fail)
     exact hmid _ _ _ ⟨true,rfl,rfl,by rw [decide_eq_true h2,Bool.or_true]⟩ (by repeat' first|exact trivial|refine And.intro rfl ?_)
    ·have hI2:=Zy h2
     repeat' (first|(apply T.eql;(iterate 3 apply rfl))|(apply T.pickF;(iterate 3 apply rfl))|with_reducible refine Sr.nil ?_|(apply T.ungV;apply rfl;(first|with_reducible rfl|decide))|(with_reducible apply T.ofRet)|fail)
     refine hmid _ _ _ ⟨decide (Z1E t a=69),rfl,rfl,?_⟩ (by repeat' first|exact trivial|refine And.intro rfl ?_)
     rw [decide_eq_false h,decide_eq_false h2]
     exact decide_eq_false hI2
  rintro _ _ ⟨bx,rfl,rfl,hbx⟩
  cases bx with
  | false =>
   rw [if_neg (by show ¬(decide (bAt t a=101) || decide (bAt t a=69))=true;rw [←hbx];decide)] at hN
   repeat' (first|with_reducible refine S.skip ?_|(apply S.condFV;apply rfl;(first|with_reducible rfl|decide))|fail)
   exact hrest _ _ _ ⟨a,rfl,rfl,hN⟩ (by repeat' first|exact trivial|refine And.intro rfl ?_)
  | true =>
   rw [if_pos (show (decide (bAt t a=(101:UInt8).toNat) || decide (bAt t a=(69:UInt8).toNat))=true from hbx.symm)] at hN
   have h1:bAt t a=101∨bAt t a=69:=by simpa using hbx.symm
   have hlt:=Z7 (t:=t) (p:=a) (by omega)
   have e1:(a:Int)+1=((a+1:Nat):Int):=by omega
   repeat' (first|(apply S.condTV;apply rfl;(first|with_reducible rfl|decide))|fail)
   refine S.seq ?_
   repeat' (first|(apply T.addI;apply rfl;apply rfl;omega;apply rfl;rw [e1])|((first|apply T.mv|apply T.asn);apply rfl;apply rfl)|(with_reducible first|refine Sr.nil ?_|refine S.reg ?_)|fail)
   refine S.seq ?_
   refine S.cut (fun H' e'=>∃ q:Nat,H'=.blk b4 (goV 0 noL [] 0 0) 151::H∧e'=[(0,sV t),(1,.int .i64 p),(4,.pointer (some ⟨b4,0,none⟩)),(5,.int .i64 q)]∧q≤t.length∧Q=ZF t q) ?_ ?_
   ·intro k'' hmid
    have hN':Q=ZF t (Z0t t (a+1)):=hN
    unfold Z0t at hN'
    rw [Zs (by decide),Zs (by decide)] at hN'
    generalize a+1=a' at *
    repeat' (first|(apply T.mv;apply rfl;apply rfl)|(with_reducible first|refine S.seq ?_|refine S.reg ?_)|fail)
    refine T.call rfl rfl Z4 ?_
    rintro _ _ ⟨rfl,rfl⟩
    by_cases h:bAt t a'=43
    ·have hlt2:=Z7 (t:=t) (p:=a') (by omega)
     rw [if_pos (by rw [decide_eq_true (show bAt t a'=(43:UInt8).toNat from h)];rfl)] at hN'
     rw [ZJ h (by omega)]
     repeat' (first|((first|apply T.mv|apply T.asn);apply rfl;apply rfl)|(apply T.eql;(iterate 3 apply rfl))|(apply T.addI;apply rfl;apply rfl;omega;apply rfl)|(apply T.pickT;(iterate 3 apply rfl))|(with_reducible first|refine Sr.nil ?_|refine S.reg ?_)|(apply T.skip;apply rfl;(first|with_reducible rfl|decide);apply rfl)|(apply S.condTV;apply rfl;(first|with_reducible rfl|decide))|(with_reducible apply T.ofRet)|fail)
     exact hmid _ _ _ ⟨a'+1,rfl,rfl,by omega,hN'⟩ (by repeat' first|exact trivial|refine And.intro rfl ?_)
    ·have hI:=Zy h
     repeat' (first|(apply T.mv;apply rfl;apply rfl)|(apply T.eql;(iterate 3 apply rfl))|(apply T.ungV;apply rfl;(first|with_reducible rfl|decide))|(apply T.gcase;apply rfl;apply rfl;all_goals (intro _;try (exfalso;first|omega|with_reducible contradiction)))|(with_reducible apply T.ofRet)|fail)
     refine T.call rfl rfl Z4 ?_
     rintro _ _ ⟨rfl,rfl⟩
     by_cases h2:bAt t a'=45
     ·have hlt2:=Z7 (t:=t) (p:=a') (by omega)
      rw [if_pos (by rw [decide_eq_true (show bAt t a'=(45:UInt8).toNat from h2),Bool.or_true])] at hN'
      rw [ZJ h2 (by omega)]
      repeat' (first|((first|apply T.mv|apply T.asn);apply rfl;apply rfl)|(apply T.eql;(iterate 3 apply rfl))|(apply T.addI;apply rfl;apply rfl;omega;apply rfl)|(apply T.pickF;(iterate 3 apply rfl))|(with_reducible first|refine Sr.nil ?_|refine S.reg ?_)|(apply T.ungV;apply rfl;(first|with_reducible rfl|decide))|(apply S.condTV;apply rfl;(first|with_reducible rfl|decide))|(with_reducible apply T.ofRet)|fail)
      exact hmid _ _ _ ⟨a'+1,rfl,rfl,by omega,hN'⟩ (by repeat' first|exact trivial|refine And.intro rfl ?_)
     ·have hI2:=Zy h2
      rw [if_neg (by rw [decide_eq_false (show ¬bAt t a'=(43:UInt8).toNat from h),decide_eq_false (show ¬bAt t a'=(45:UInt8).toNat from h2)];decide)] at hN'
      repeat' (first|(apply T.eql;(iterate 3 apply rfl))|(apply T.pickF;(iterate 3 apply rfl))|(with_reducible first|refine Sr.nil ?_|refine S.skip ?_)|(apply T.ungV;apply rfl;(first|with_reducible rfl|decide))|(apply S.condQ;apply rfl;all_goals (intro _;try (exfalso;first|omega|with_reducible contradiction)))|(with_reducible apply T.ofRet)|fail)
      exact hmid _ _ _ ⟨a',rfl,rfl,by omega,hN'⟩ (by repeat' first|exact trivial|refine And.intro rfl ?_)
   clear hN
   rintro _ _ ⟨q,rfl,rfl,hq,hN⟩
   repeat' (first|(apply T.mv;apply rfl;apply rfl)|(with_reducible first|refine S.seq ?_|refine S.reg ?_)|fail)
   refine T.call rfl rfl (Z0d hq (by omega)) ?_
   cases hx:ZF t q with
   | bad c b =>
    rw [hx] at hN
    obtain rfl:=Z1D hx
    rw [hN]
    rintro _ _ ⟨rfl,rfl⟩
    repeat' (first|(apply T.fieldAddrZ;apply rfl;apply rfl)|(apply T.load;apply rfl;apply rfl;infer_instance;apply rfl;apply rfl)|(apply T.neq;(iterate 3 apply rfl))|(apply T.loadW;apply rfl;apply rfl;infer_instance;(first|rfl|(simp only [List.length_append,List.length_map,List.length_set,List.length_replicate,List.length_cons,List.length_nil];first|done|omega));apply rfl)|(apply T.storeW;apply rfl;apply rfl;infer_instance;(first|rfl|(simp only [List.length_append,List.length_map,List.length_set,List.length_replicate,List.length_cons,List.length_nil];first|done|omega));(first|rfl|(simp only [List.length_append,List.length_map,List.length_set,List.length_replicate,List.length_cons,List.length_nil];first|done|omega));(first|rfl|(repeat' first|apply all_nV|apply all_bV|apply all_iV|rfl|apply all_app)))|(apply T.alloc;apply rfl;intro nb)|(with_reducible first|refine Sr.nil ?_|refine S.seq ?_|refine S.reg ?_)|(apply S.condTV;apply rfl;(first|with_reducible rfl|decide))|(with_reducible apply T.ofRet)|(apply T.retC;apply rfl;((repeat' first|apply RV.nil|(apply RV.tmp;apply rfl)|(apply RV.cellW;apply rfl;apply rfl;infer_instance;(first|rfl|(simp only [List.length_append,List.length_map,List.length_set,List.length_replicate,List.length_cons,List.length_nil];first|done|omega)))|(apply RV.cellP;apply rfl;apply rfl;infer_instance;apply rfl)));apply rfl)|fail)
    exact ⟨_,PSub.drop (PSub.drop (PSub.refl _)),[],rfl,rfl⟩
   | ok b v =>
    rw [hx] at hN
    rintro _ _ ⟨rfl,rfl⟩
    repeat' (first|((first|apply T.asn|apply T.fieldAddrZ);apply rfl;apply rfl)|(apply T.load;apply rfl;apply rfl;infer_instance;apply rfl;apply rfl)|(apply T.neq;(iterate 3 apply rfl))|(apply T.storeW;apply rfl;apply rfl;infer_instance;(first|rfl|(simp only [List.length_append,List.length_map,List.length_set,List.length_replicate,List.length_cons,List.length_nil];first|done|omega));(first|rfl|(simp only [List.length_append,List.length_map,List.length_set,List.length_replicate,List.length_cons,List.length_nil];first|done|omega));(first|rfl|(repeat' first|apply all_nV|apply all_bV|apply all_iV|rfl|apply all_app)))|(apply T.alloc;apply rfl;intro nb)|(with_reducible first|refine Sr.nil ?_|refine S.seq ?_|refine S.reg ?_|refine S.skip ?_)|(apply S.condFV;apply rfl;(first|with_reducible rfl|decide))|(with_reducible apply T.ofRet)|fail)
    refine S.sublist ?_ (PSub.drop (PSub.refl _))
    exact hrest _ _ _ ⟨b,rfl,rfl,hN⟩ (by repeat' first|exact trivial|refine And.intro rfl ?_)
 clear hN ha a
 rintro _ _ ⟨a,rfl,rfl,hN⟩
 obtain ⟨h1,h2⟩:=hfit a () hN
 have hsl:(t.drop p).take (a - p)=sl t p a:=rfl
 have hln:=Z4V (t:=t) (a:=p) h2
 rw [hN]
 repeat' (first|(apply T.sslice;(iterate 3 apply rfl);omega;apply rfl;rw [hsl])|(apply T.mv;apply rfl;apply rfl)|(with_reducible first|refine S.seq ?_|refine S.reg ?_)|fail)
 refine T.call rfl rfl (Z3a (by omega)) ?_
 rintro _ _ ⟨rfl,rfl⟩
 repeat' (first|(apply T.sslice;(iterate 3 apply rfl);omega;apply rfl;rw [hsl])|(refine Sr.rowOfN (n:=1) (sz:=6) rfl (by decide) ?_)|((first|apply T.mv|apply T.asn);apply rfl;apply rfl)|(apply T.extract;(iterate 3 apply rfl))|(apply T.buildL;(iterate 3 apply rfl))|(apply T.storeW;apply rfl;apply rfl;infer_instance;(first|rfl|(simp only [List.length_append,List.length_map,List.length_set,List.length_replicate,List.length_cons,List.length_nil];first|done|omega));(first|rfl|(simp only [List.length_append,List.length_map,List.length_set,List.length_replicate,List.length_cons,List.length_nil];first|done|omega));(first|rfl|(repeat' first|apply all_nV|apply all_bV|apply all_iV|rfl|apply all_app)))|(apply T.bsL;(iterate 5 apply rfl);intro nb)|(with_reducible first|refine Sr.nil ?_|refine S.seq ?_|refine S.reg ?_)|(with_reducible apply T.ofRet)|(apply T.retC;apply rfl;((repeat' first|apply RV.nil|(apply RV.tmp;apply rfl)|(apply RV.cellW;apply rfl;apply rfl;infer_instance;(first|rfl|(simp only [List.length_append,List.length_map,List.length_set,List.length_replicate,List.length_cons,List.length_nil];first|done|omega)))|(apply RV.cellP;apply rfl;apply rfl;infer_instance;apply rfl)));apply rfl)|fail)
 exact ⟨_,PSub.take Z0 (PSub.drop (PSub.refl _)),_,_,[],rfl,rfl⟩
end
end Go.Proofs.YthomgjihagigcaaGreatDoor
