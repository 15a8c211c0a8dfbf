/- Texts put together by a program: GtD GtE GtG GtH. -/
import Derived.Test.YthomgjihagigcaaGreatDoorMg
/- The walks of the program's reader of rules: paths, values, operators, nodes. -/
/- guards -/
namespace Sg
open Go
structure Rnd where
 op:Int
 a:Int
 b:Int
 pa:Option Addr
 pn:Nat
 pc:Nat
 kind:Int
 text:List UInt8
abbrev rnV (n:Rnd):List Value:=[.int .i64 n.op,.int .i64 n.a,.int .i64 n.b,.slice n.pa n.pn n.pc,.int .i64 n.kind,sV n.text]
end Sg
namespace Go.Proofs.YthomgjihagigcaaGreatDoor
open Sg Go.IntWalk
set_option maxRecDepth 100000
set_option maxHeartbeats 4000000
section
variable {F:World} {M:List Nat} {H:List Res} {t s:List UInt8} {p oc n:Nat} {a:Nat} {o:Int} {oa:Option Addr} {k:Nat}
def GtL (p:Nat) (t:List UInt8) (o:Int) (oa:Option Addr) (n oc:Nat) (H:List Res):Rz→Ending→List Res→Prop
 | .no c=>fun e H'=>∃ b:Int,e=.panicked [gFlt c b]∧H'=H
 | .to r=>fun e H'=>∃ (la:Option Addr) (ln lc:Nat),e=.returned (.slice la ln lc)∧H'=paR p t r o oa n oc H
theorem Z2R (hT:GtT F M) (hJ:Tabs F M) (ha:a≤t.length) (hl:t.length≤1024) :
  Meets Tryz.prog 61 [.pointer (some ⟨p,0,none⟩)] F M (paR p t a o oa n oc H) (GtL p t o oa n oc H (Z17 t a)):=by
 refine Meets.enter Tryz.func61 rfl rfl ?_
 unfold Z17
 have hc:=Z2S (F:=F) (M:=M) (H:=H) (p:=p) (o:=o) (oa:=oa) (n:=n) (oc:=oc) (first:=true) hT hJ ha hl
 have hok:=Z0S (t:=t) (p:=a) (first:=true)
 cases hz:Z1C t true a with
 | no c =>
  rw [hz] at hc
  repeat' (first|((first|apply T.mv|apply T.asn);apply rfl;apply rfl)|(with_reducible first|refine Sr.nil ?_|refine S.seq ?_|refine S.reg ?_)|fail)
  refine T.call rfl rfl hc ?_
  rintro _ _ ⟨b,rfl,rfl⟩
  repeat' (first|(with_reducible apply T.diesW)|(with_reducible apply T.ofPan)|fail)
  exact ⟨_,PSub.refl _,_,rfl,rfl⟩
 | to q =>
  rw [hz] at hc hok
  dsimp only
  generalize hQ:Z0J t (t.length+1) q=Q
  repeat' (first|((first|apply T.mv|apply T.asn);apply rfl;apply rfl)|(with_reducible first|refine Sr.nil ?_|refine S.seq ?_|refine S.reg ?_)|fail)
  refine T.call rfl rfl hc ?_
  rintro _ _ ⟨s,rfl,rfl⟩
  repeat' (first|(apply T.asn;apply rfl;apply rfl)|(apply T.bs;(iterate 6 apply rfl);intro nb)|(with_reducible first|refine Sr.nil ?_|refine S.seq ?_|refine S.block ?_)|(with_reducible apply T.ofRet)|fail)
  refine S.rowOf (n:=1) rfl (by decide) ?_
  refine S.front p ?_
  refine S.loopE 2 [0] (fun R b' μ H' e=>∃ (q k m cp:Nat) (ad:Option Addr) (xs:List Value),H'=paR p t q o oa n oc (.row ad cp 9 1 m xs::R)∧e=(3,.slice ad m cp)::b'∧(m≤q∧q≤t.length∧t.length < q+k∧Z0J t k q=Q∧xs.length=m)∧μ=k+1) rfl rfl ?_ _ _ ⟨q,t.length+1,1,1,_,_,rfl,rfl,⟨by have:=hok.1;omega,hok.2,by omega,hQ,rfl⟩,rfl⟩ (by repeat' first|exact trivial|refine And.intro rfl ?_)
  rintro _ _ _ ⟨q,k,m,cp,ad,xs,rfl,rfl,⟨h1,h2,h3,h4,h5⟩,rfl⟩ ih
  obtain ⟨j,rfl⟩:∃ j,k=j+1:=⟨k - 1,by omega⟩
  rw [Z0J] at h4
  have h6:=Zi (t:=t) (p:=q)
  repeat' (first|(apply T.mv;apply rfl;apply rfl)|(with_reducible first|refine S.seq ?_|refine S.reg ?_)|fail)
  refine T.call rfl rfl (Z1B (k:=46) (.inr (.inr rfl)) h2 hl) ?_
  rintro _ _ ⟨rfl,rfl⟩
  generalize Z2 t q=u at *
  have h7:(u < t.length∧t.getD u 0=46)↔(u < t.length∧(t.getD u 0).toNat=46):=by rw [u8_nat];exact Iff.rfl
  by_cases h8:u < t.length∧(t.getD u 0).toNat=46
  ·rw [if_pos (h7.2 h8)] at h4
   rw [decide_eq_true h8,if_pos h8]
   have hc:=Z2S (F:=F) (M:=M) (H:=.row ad cp 9 1 m xs::H) (p:=p) (o:=o) (oa:=oa) (n:=n) (oc:=oc) (first:=false) (a:=u+1) hT hJ (by omega) hl
   have hok:=Z0S (t:=t) (p:=u+1) (first:=false)
   cases hz:Z1C t false (u+1) with
   | no c =>
    rw [hz] at hc h4
    dsimp only at h4
    subst h4
    clear ih
    repeat' (first|(apply T.mv;apply rfl;apply rfl)|(with_reducible first|refine Sr.nil ?_|refine S.block ?_|refine S.reg ?_|refine S.skip ?_)|(apply S.condTV;apply rfl;(first|with_reducible rfl|decide))|(with_reducible apply T.ofRet)|fail)
    refine T.call rfl rfl hc ?_
    rintro _ _ ⟨b,rfl,rfl⟩
    repeat' (first|(with_reducible apply T.diesW)|(with_reducible apply T.ofPan)|fail)
    exact ⟨_,PSub.drop (PSub.refl _),_,rfl,rfl⟩
   | to r =>
    rw [hz] at hc h4 hok
    dsimp only at h4
    obtain ⟨k1,k2⟩:=hok
    repeat' (first|(apply T.mv;apply rfl;apply rfl)|(with_reducible first|refine Sr.nil ?_|refine S.block ?_|refine S.reg ?_|refine S.skip ?_)|(apply S.condTV;apply rfl;(first|with_reducible rfl|decide))|(with_reducible apply T.ofRet)|fail)
    refine T.call rfl rfl hc ?_
    rintro _ _ ⟨s',rfl,rfl⟩
    repeat' (first|(apply T.asn;apply rfl;apply rfl)|(apply T.bs;(iterate 6 apply rfl);intro nb)|(apply T.append;apply rfl;apply rfl;infer_instance;(first|rfl|(simp;done));(first|rfl|(simp;done));apply rfl;apply rfl;(constructor<;>omega);apply rfl;intro na nc)|(with_reducible first|refine Sr.nil ?_|refine S.inBlock ?_)|(with_reducible apply T.ofRet)|fail)
    have h9:(xs++[sV s']).length=m+1:=by rw [List.length_append,h5];rfl
    exact ih _ _ _ _ ⟨r,j,m+1,nc,na,xs++[sV s'],rfl,rfl,⟨by omega,k2,by omega,h4,h9⟩,rfl⟩ (by omega) (by repeat' first|exact trivial|refine And.intro rfl ?_)
  ·rw [if_neg (fun h=>h8 (h7.1 h))] at h4
   subst h4
   rw [decide_eq_false h8,if_neg h8]
   clear ih
   repeat' (first|((first|apply T.mv|apply T.asn);apply rfl;apply rfl)|(with_reducible first|refine Sr.nil ?_|refine S.seq ?_|refine S.reg ?_)|(apply S.exit;apply rfl)|(apply S.condFV;apply rfl;(first|with_reducible rfl|decide))|(apply T.retW;apply rfl)|(with_reducible apply T.ofRet)|fail)
   exact ⟨_,PSub.take Z0 (PSub.drop (PSub.refl _)),_,_,_,rfl,rfl⟩
theorem Z2h {b:Nat} (hd:o=32 - (k:Int)) (hk:k≤32) :
  Meets Tryz.prog 60 [.pointer (some ⟨p,0,none⟩),.int .i64 b] F M (paR p t a o oa n oc H) (fun e H'=>match k with
   | 0=>e=.panicked [gFlt 11 b]∧H'=H
   | j+1=>e=.returned (.tuple ⟨[]⟩)∧H'=paR p t a (32 - (j:Int)) oa n oc H):=by
 refine Meets.enter Tryz.func60 rfl rfl ?_
 subst hd
 cases k with
 | zero =>
  repeat' (first|((first|apply T.mv|apply T.nilCheck|apply T.fieldAddrZ);apply rfl;apply rfl)|(apply T.load;apply rfl;apply rfl;infer_instance;apply rfl;apply rfl)|(apply T.eql;(iterate 3 apply rfl))|(apply T.buildL;(iterate 3 apply rfl))|(apply T.makeI;(iterate 3 apply rfl))|(with_reducible first|refine Sr.nil ?_|refine S.seq ?_|refine S.reg ?_)|(apply S.condTV;apply rfl;(first|with_reducible rfl|decide))|fail)
  refine T.panic rfl ?_
  repeat' (first|(with_reducible apply T.diesW)|fail)
  exact ⟨_,PSub.drop (PSub.refl _),rfl,rfl⟩
 | succ j =>
  have h1:(32:Int) - ((j+1:Nat):Int)+1=32 - (j:Int):=by omega
  repeat' (first|(apply T.addI;apply rfl;apply rfl;omega;apply rfl;rw [h1])|((first|apply T.mv|apply T.nilCheck|apply T.fieldAddrZ);apply rfl;apply rfl)|(apply T.load;apply rfl;apply rfl;infer_instance;apply rfl;apply rfl)|(apply T.eql;(iterate 3 apply rfl))|(apply T.store;apply rfl;apply rfl;infer_instance;(first|decide|(simp;omega)|simp);apply rfl)|(with_reducible first|refine Sr.nil ?_|refine S.seq ?_|refine S.reg ?_|refine S.skip ?_)|(apply S.condQ;apply rfl;all_goals (intro _;try (exfalso;first|omega|with_reducible contradiction)))|(apply T.doneW;apply rfl)|fail)
  exact ⟨_,PSub.refl _,rfl,rfl⟩
abbrev paT (p:Nat) (t:List UInt8) (a:Nat) (o:Int) (oa:Option Addr) (oc:Nat) (ns:List Rnd) (H:List Res):List Res:=paR p t a o oa ns.length oc (.row oa oc 95 6 ns.length (ns.flatMap rnV)::H)
theorem Z0j {ns:List Rnd} {nd:Rnd} (hn:ns.length≤100000) :
  Meets Tryz.prog 42 [.pointer (some ⟨p,0,none⟩),.agg ⟨rnV nd⟩] F M (paT p t a o oa oc ns H) (fun e H'=>∃ oa' oc',e=.returned (.int .i64 (ns.length:Nat))∧H'=paT p t a o oa' oc' (ns++[nd]) H):=by
 refine Meets.enter Tryz.func42 rfl rfl ?_
 have hL:(ns++[nd]).length=ns.length+1:=by rw [List.length_append];rfl
 unfold paT
 rw [hL]
 repeat' (first|(apply T.asn;apply rfl;apply rfl)|(apply T.box;apply rfl;apply rfl;intro nb)|(with_reducible first|refine Sr.nil ?_|refine S.seq ?_|refine S.reg ?_)|fail)
 (apply S.drawL;(case Hs=>exact [.blk nb (rnV nd) 95,.blk p (paV t a o oa ns.length oc) 73]);(case es=>exact  [6,7,10]);(case lt=>exact  [10]);(case n=>exact  11);(case hn=>rfl))
 repeat' (first|(refine T.appendF (g:=rnV) nd rfl rfl rfl inferInstance (fun _=>rfl) rfl rfl rfl (by constructor<;>omega) rfl ?_;intro oa' oc')|((first|apply T.mv|apply T.asn|apply T.len|apply T.nilCheck|apply T.fieldAddrZ);apply rfl;apply rfl)|(apply T.load;apply rfl;apply rfl;infer_instance;apply rfl;apply rfl)|(apply T.subI;apply rfl;apply rfl;omega;apply rfl)|(apply T.loadW;apply rfl;apply rfl;infer_instance;(first|rfl|(simp only [List.length_append,List.length_map,List.length_set,List.length_replicate,List.length_cons,List.length_nil];first|done|omega));apply rfl)|(apply T.store;apply rfl;apply rfl;infer_instance;(first|decide|(simp;omega)|simp);apply rfl)|(apply T.bsL;(iterate 5 apply rfl);intro nb)|(with_reducible first|refine Sr.nil ?_|refine S.seq ?_|refine S.reg ?_)|(apply T.retW;apply rfl)|(apply SA.qn;(iterate 4 apply rfl);kernel_rfl)|(apply SA.qz;(iterate 4 apply rfl);kernel_rfl)|(apply SA.qsn;(iterate 3 apply rfl);kernel_rfl;(first|exact fun _ h=>h|exact fun _ h=>St.psub h (by ((repeat (first|dsimp only [List.set_cons_zero]|dsimp only [List.set_cons_succ]));repeat' first|exact PSub.refl _|exact PSub.nil|(with_reducible apply PSub.app)|(apply PSub.take;(repeat' first|(with_reducible exact Z0)|(with_reducible apply Z1)))|(with_reducible apply PSub.drop)|((apply PSub.take);(repeat' first|exact Z0|(apply Z1)))))))|(apply SA.en;apply rfl;apply rfl;kernel_rfl)|(apply SA.done;apply rfl;kernel_rfl)|(apply SK.late;decide)|(apply SK.intro;(first|exact fun _ h=>h|exact fun _ h=>St.psub h (by ((repeat (first|dsimp only [List.set_cons_zero]|dsimp only [List.set_cons_succ]));repeat' first|exact PSub.refl _|exact PSub.nil|(with_reducible apply PSub.app)|(apply PSub.take;(repeat' first|(with_reducible exact Z0)|(with_reducible apply Z1)))|(with_reducible apply PSub.drop)|((apply PSub.take);(repeat' first|exact Z0|(apply Z1)))))))|fail)
 have h1:(((ns.length+1:Nat):Int)) - 1=(ns.length:Nat):=by omega
 skip
 exact ⟨_,PSub.drop (PSub.refl _),oa',oc',by rw [h1],rfl⟩
def GtV (p:Nat) (t:List UInt8) (o:Int) (oa:Option Addr) (n oc nb:Nat) (nd:Rnd) (H:List Res):Rz→Ending→List Res→Prop
 | .no c=>fun e H'=>∃ b:Int,e=.panicked [gFlt c b]∧H'=H
 | .to r=>fun e H'=>∃ (kd:Int) (tx:List UInt8),e=.returned (.tuple ⟨[]⟩)∧H'=paR p t r o oa n oc (.blk nb (rnV { nd with kind:=kd,text:=tx }) 95::H)
theorem Z3S {c:UInt8}:Meets Tryz.prog 76 [.int .u8 (c.toNat:Nat)] F M H (fun e H'=>e=.returned (.bool (numC c))∧H'=H):=by
 refine Meets.enter Tryz.func76 rfl rfl ?_
 unfold numC
 have hx:=Z3R c nmsL
 rw [Z8r] at hx
 have hx2:decide (c.toNat=43∨c.toNat=45∨c.toNat=46∨c.toNat=101∨c.toNat=69)=decide (0≤Lib.indexByte nmsL c):=by rw [decide_eq_decide,hx]
 rw [hx2]
 repeat' (first|((first|apply T.mv|apply T.asn);apply rfl;apply rfl)|(with_reducible first|refine Sr.nil ?_|refine S.seq ?_|refine S.reg ?_)|fail)
 refine T.call rfl rfl ZQ ?_
 rintro _ _ ⟨rfl,rfl⟩
 cases hc1:Za c with
 | true =>
  repeat' (first|((first|apply T.mv|apply T.asn);apply rfl;apply rfl)|(apply T.pickT;(iterate 3 apply rfl))|with_reducible refine Sr.nil ?_|(apply T.skip;apply rfl;(first|with_reducible rfl|decide);apply rfl)|(apply T.retW;apply rfl)|(with_reducible apply T.ofRet)|fail)
  exact ⟨_,PSub.refl _,rfl,rfl⟩
 | false =>
  repeat' (first|(apply T.pcall;apply rfl;infer_instance;apply rfl;with_reducible exact Z03 nmsL _)|((first|apply T.mv|apply T.asn);apply rfl;apply rfl)|(apply T.geq;(iterate 3 apply rfl))|(apply T.pickF;(iterate 3 apply rfl))|with_reducible refine Sr.nil ?_|(apply T.ungV;apply rfl;(first|with_reducible rfl|decide))|(apply T.retW;apply rfl)|(with_reducible apply T.ofRet)|fail)
  exact ⟨_,PSub.refl _,rfl,rfl⟩
theorem Z4D (hJ:Tabs F M) {nb:Nat} {nd:Rnd} {only:Bool} (ho:only=decide (nd.op=11)) (ha:a≤t.length) (hl:t.length≤1024) :
  Meets Tryz.prog 64 [.pointer (some ⟨p,0,none⟩),.pointer (some ⟨nb,0,none⟩)] F M (paR p t a o oa n oc (.blk nb (rnV nd) 95::H)) (GtV p t o oa n oc nb nd H (gVal t only a)):=by
 refine Meets.enter Tryz.func64 rfl rfl ?_
 unfold gVal
 have hle:=Zj (t:=t) ha
 have hss:=ZZ (t:=t) (p:=a)
 repeat' (first|(apply T.mv;apply rfl;apply rfl)|(with_reducible first|refine S.seq ?_|refine S.reg ?_)|fail)
 refine T.call rfl rfl (ZP ha hl) ?_
 rintro _ _ ⟨rfl,rfl⟩
 generalize Z2 t a=q at *
 by_cases h1:q < t.length
 ·rw [if_pos h1]
  have hu:=(t.getD q 0).toNat_lt
  by_cases h2:t.getD q 0=34
  ·rw [if_pos h2]
   have hk:=kd_str.2 ⟨h1,u8_nat.1 h2⟩
   have hc:=Z1I (F:=F) (M:=M) (H:=.blk nb (rnV nd) 95::H) (p:=p) (o:=o) (oa:=oa) (n:=n) (oc:=oc) hJ h1 hl
   cases hz:Z1M t q with
   | no c =>
    rw [hz] at hc
    repeat' (first|((first|apply T.mv|apply T.asn);apply rfl;apply rfl)|(apply T.eql;(iterate 3 apply rfl))|(with_reducible first|refine Sr.nil ?_|refine S.seq ?_|refine S.block ?_|refine S.reg ?_)|(apply S.condQ;apply rfl;all_goals (intro _;try (exfalso;first|omega|with_reducible contradiction)))|(with_reducible apply T.ofRet)|fail)
    refine T.call rfl rfl hc ?_
    rintro _ _ ⟨b,rfl,rfl⟩
    repeat' (first|(with_reducible apply T.diesW)|(with_reducible apply T.ofPan)|fail)
    exact ⟨_,(PSub.drop (PSub.refl _)),_,rfl,rfl⟩
   | to r =>
    rw [hz] at hc
    repeat' (first|((first|apply T.mv|apply T.asn);apply rfl;apply rfl)|(apply T.eql;(iterate 3 apply rfl))|(with_reducible first|refine Sr.nil ?_|refine S.seq ?_|refine S.block ?_|refine S.reg ?_)|(apply S.condQ;apply rfl;all_goals (intro _;try (exfalso;first|omega|with_reducible contradiction)))|(with_reducible apply T.ofRet)|fail)
    refine T.call rfl rfl hc ?_
    rintro _ _ ⟨s,rfl,rfl⟩
    repeat' (first|((first|apply T.nilCheck|apply T.fieldAddrZ);apply rfl;apply rfl)|(apply T.store;apply rfl;apply rfl;infer_instance;(first|decide|(simp;omega)|simp);apply rfl)|(with_reducible first|refine Sr.nil ?_|refine S.inBlock ?_)|(apply T.doneW;apply rfl)|(with_reducible apply T.ofRet)|fail)
    exact ⟨_,PSub.refl _,5,s,rfl,rfl⟩
  ·rw [if_neg h2]
   have hk:=mt kd_str.1 (fun h=>h2 (u8_nat.2 h.2))
   by_cases h0:nd.op=11
   ·rw [decide_eq_true h0] at ho
    rw [if_pos ho]
    repeat' (first|((first|apply T.mv|apply T.asn|apply T.nilCheck|apply T.fieldAddrZ);apply rfl;apply rfl)|(apply T.load;apply rfl;apply rfl;infer_instance;apply rfl;apply rfl)|(apply T.eql;(iterate 3 apply rfl))|(with_reducible first|refine Sr.nil ?_|refine S.seq ?_|refine S.block ?_|refine S.reg ?_)|(apply S.condQ;apply rfl;all_goals (intro _;try (exfalso;first|omega|with_reducible contradiction)))|(with_reducible apply T.ofRet)|fail)
    refine T.call rfl rfl Zf ?_
    rintro _ _ ⟨rfl,rfl⟩
    repeat' (first|(with_reducible apply T.diesW)|(with_reducible apply T.ofPan)|fail)
    exact ⟨_,(PSub.drop (PSub.refl _)),_,rfl,rfl⟩
   ·rw [decide_eq_false h0] at ho
    rw [if_neg (by rw [ho];simp)]
    by_cases h3:Za (t.getD q 0)=true∨(t.getD q 0).toNat=45
    ·rw [if_pos h3]
     have h4:=Z1Z (f:=numC) (t:=t) (p:=q) hle
     have h5:=Z1m (f:=numC) (t:=t) (p:=q)
     have h6:(sl t q (runE numC t q)).length=runE numC t q - q:=ZO h4
     have h7:q+(sl t q (runE numC t q)).length=runE numC t q:=by omega
     have n1:=Z2g (F:=F) (M:=M) (H:=.blk nb (rnV nd) 95::H) (p:=p) (o:=o) (oa:=oa) (n:=n) (oc:=oc) (f:=numC) (g:=76) (fun c=>Z3S) hle hl
     have n2:=Z5x (F:=F) (M:=M) (H:=paR p t q o oa n oc (.blk nb (rnV nd) 95::H)) (t:=sl t q (runE numC t q)) (by omega)
     have n3:=Zf (F:=F) (M:=M) (H:=.blk nb (rnV nd) 95::H) (p:=p) (t:=t) (a:=q) (o:=o) (oa:=oa) (n':=n) (oc:=oc)
     generalize hw:sl t q (runE numC t q)=w at *
     rw [←h7]
     clear hw
     by_cases hd:Za (t.getD q 0)=true
     ·have hk2:=kd_digs.2 ⟨h1,hd⟩
      repeat' (first|((first|apply T.mv|apply T.asn|apply T.nilCheck|apply T.fieldAddrZ);apply rfl;apply rfl)|(apply T.load;apply rfl;apply rfl;infer_instance;apply rfl;apply rfl)|(apply T.eql;(iterate 3 apply rfl))|(with_reducible first|refine Sr.nil ?_|refine S.seq ?_|refine S.block ?_|refine S.reg ?_|refine S.skip ?_)|(apply S.condQ;apply rfl;all_goals (intro _;try (exfalso;first|omega|with_reducible contradiction)))|(with_reducible apply T.ofRet)|fail)
      refine T.call rfl rfl n1 ?_
      rintro _ _ ⟨rfl,rfl⟩
      repeat' (first|((first|apply T.mv|apply T.asn);apply rfl;apply rfl)|(with_reducible first|refine Sr.nil ?_|refine S.seq ?_|refine S.reg ?_)|(with_reducible apply T.ofRet)|fail)
      refine T.call rfl rfl n2 ?_
      rintro _ _ ⟨rfl,rfl⟩
      cases h8:(numP w).isSome with
      | true =>
       rw [if_pos rfl]
       repeat' (first|((first|apply T.slen|apply T.mv|apply T.nilCheck|apply T.fieldAddrZ);apply rfl;apply rfl)|(apply T.load;apply rfl;apply rfl;infer_instance;apply rfl;apply rfl)|(apply T.addI;apply rfl;apply rfl;omega;apply rfl)|(apply T.notB;apply rfl;apply rfl)|(apply T.store;apply rfl;apply rfl;infer_instance;(first|decide|(simp;omega)|simp);apply rfl)|(with_reducible first|refine Sr.nil ?_|refine S.seq ?_|refine S.reg ?_|refine S.skip ?_|refine S.inBlock ?_)|(apply S.condFV;apply rfl;(first|with_reducible rfl|decide))|(apply T.doneW;apply rfl)|(with_reducible apply T.ofRet)|fail)
       exact ⟨_,PSub.refl _,4,w,rfl,rfl⟩
      | false =>
       rw [if_neg (by simp)]
       repeat' (first|(apply T.mv;apply rfl;apply rfl)|(apply T.notB;apply rfl;apply rfl)|(with_reducible first|refine Sr.nil ?_|refine S.reg ?_)|(apply S.condTV;apply rfl;(first|with_reducible rfl|decide))|(with_reducible apply T.ofRet)|fail)
       refine T.call rfl rfl n3 ?_
       rintro _ _ ⟨rfl,rfl⟩
       repeat' (first|(with_reducible apply T.diesW)|(with_reducible apply T.ofPan)|fail)
       exact ⟨_,(PSub.drop (PSub.refl _)),_,rfl,rfl⟩
     ·have h45:=h3.resolve_left hd
      have hk2:=mt kd_digs.1 (fun h=>hd h.2)
      have hk4:=kd_sign.2 ⟨h1,(Z2Q _).2 (by omega)⟩
      repeat' (first|(apply T.sidx;apply rfl;apply rfl;omega;apply rfl)|((first|apply T.mv|apply T.asn|apply T.nilCheck|apply T.fieldAddrZ);apply rfl;apply rfl)|(apply T.load;apply rfl;apply rfl;infer_instance;apply rfl;apply rfl)|(apply T.eql;(iterate 3 apply rfl))|(apply T.pickT;(iterate 3 apply rfl))|(with_reducible first|refine Sr.nil ?_|refine S.seq ?_|refine S.block ?_|refine S.reg ?_)|(apply S.quiet;apply rfl;kernel_rfl)|(apply T.ungV;apply rfl;(first|with_reducible rfl|decide))|(apply S.condQ;apply rfl;all_goals (intro _;try (exfalso;first|omega|with_reducible contradiction)))|(apply T.gcase;apply rfl;apply rfl;all_goals (intro _;try (exfalso;first|omega|with_reducible contradiction)))|(with_reducible apply T.ofRet)|fail)
      refine T.call rfl rfl n1 ?_
      rintro _ _ ⟨rfl,rfl⟩
      repeat' (first|((first|apply T.mv|apply T.asn);apply rfl;apply rfl)|(with_reducible first|refine Sr.nil ?_|refine S.seq ?_|refine S.reg ?_)|(with_reducible apply T.ofRet)|fail)
      refine T.call rfl rfl n2 ?_
      rintro _ _ ⟨rfl,rfl⟩
      cases h8:(numP w).isSome with
      | true =>
       rw [if_pos rfl]
       repeat' (first|((first|apply T.slen|apply T.mv|apply T.nilCheck|apply T.fieldAddrZ);apply rfl;apply rfl)|(apply T.load;apply rfl;apply rfl;infer_instance;apply rfl;apply rfl)|(apply T.addI;apply rfl;apply rfl;omega;apply rfl)|(apply T.notB;apply rfl;apply rfl)|(apply T.store;apply rfl;apply rfl;infer_instance;(first|decide|(simp;omega)|simp);apply rfl)|(with_reducible first|refine Sr.nil ?_|refine S.seq ?_|refine S.reg ?_|refine S.skip ?_|refine S.inBlock ?_)|(apply S.condFV;apply rfl;(first|with_reducible rfl|decide))|(apply T.doneW;apply rfl)|(with_reducible apply T.ofRet)|fail)
       exact ⟨_,PSub.refl _,4,w,rfl,rfl⟩
      | false =>
       rw [if_neg (by simp)]
       repeat' (first|(apply T.mv;apply rfl;apply rfl)|(apply T.notB;apply rfl;apply rfl)|(with_reducible first|refine Sr.nil ?_|refine S.reg ?_)|(apply S.condTV;apply rfl;(first|with_reducible rfl|decide))|(with_reducible apply T.ofRet)|fail)
       refine T.call rfl rfl n3 ?_
       rintro _ _ ⟨rfl,rfl⟩
       repeat' (first|(with_reducible apply T.diesW)|(with_reducible apply T.ofPan)|fail)
       exact ⟨_,(PSub.drop (PSub.refl _)),_,rfl,rfl⟩
    ·rw [if_neg h3]
     have hk2:=mt kd_digs.1 (fun h=>h3 (.inl h.2))
     have h45:¬(t.getD q 0).toNat=45:=fun h=>h3 (.inr h)
     by_cases hk4:kdX t q=4
     all_goals
      have n1:=fun w hw=>Z0k (F:=F) (M:=M) (H:=.blk nb (rnV nd) 95::H) (p:=p) (o:=o) (oa:=oa) (n:=n) (oc:=oc) (t:=t) (a:=q) (w:=w) hw hle hl
      rw [hss] at n1
      have nt:=n1 kTrue (by decide)
      have nf:=n1 kFalse (by decide)
      have nn:=n1 kNull (by decide)
      clear n1
      by_cases e1:wdX t q=kTrue
      ·rw [decide_eq_true e1,if_pos e1] at nt
       rw [if_pos e1]
       repeat' (first|(apply T.sidx;apply rfl;apply rfl;omega;apply rfl)|((first|apply T.mv|apply T.asn|apply T.nilCheck|apply T.fieldAddrZ);apply rfl;apply rfl)|(apply T.load;apply rfl;apply rfl;infer_instance;apply rfl;apply rfl)|(apply T.eql;(iterate 3 apply rfl))|(apply T.pickT;(iterate 3 apply rfl))|(apply T.pickF;(iterate 3 apply rfl))|(with_reducible first|refine Sr.nil ?_|refine S.seq ?_|refine S.block ?_|refine S.reg ?_)|(apply S.quiet;apply rfl;kernel_rfl)|(apply T.ungV;apply rfl;(first|with_reducible rfl|decide))|(apply T.skip;apply rfl;(first|with_reducible rfl|decide);apply rfl)|(apply S.condFV;apply rfl;(first|with_reducible rfl|decide))|(apply S.condQ;apply rfl;all_goals (intro _;try (exfalso;first|omega|with_reducible contradiction)))|(apply T.gcase;apply rfl;apply rfl;all_goals (intro _;try (exfalso;first|omega|with_reducible contradiction)))|(with_reducible apply T.ofRet)|fail)
       refine T.call rfl rfl nt ?_
       rintro _ _ ⟨rfl,rfl⟩
       repeat' (first|((first|apply T.mv|apply T.asn|apply T.nilCheck|apply T.fieldAddrZ);apply rfl;apply rfl)|(apply T.store;apply rfl;apply rfl;infer_instance;(first|decide|(simp;omega)|simp);apply rfl)|(with_reducible first|refine Sr.nil ?_|refine S.reg ?_|refine S.inBlock ?_)|(apply S.condTV;apply rfl;(first|with_reducible rfl|decide))|(apply T.doneW;apply rfl)|(with_reducible apply T.ofRet)|fail)
       exact ⟨_,PSub.refl _,3,nd.text,rfl,rfl⟩
      ·rw [decide_eq_false e1,if_neg e1] at nt
       rw [if_neg e1]
       by_cases e2:wdX t q=kFalse
       ·rw [decide_eq_true e2,if_pos e2] at nf
        rw [if_pos e2]
        repeat' (first|(apply T.sidx;apply rfl;apply rfl;omega;apply rfl)|((first|apply T.mv|apply T.asn|apply T.nilCheck|apply T.fieldAddrZ);apply rfl;apply rfl)|(apply T.load;apply rfl;apply rfl;infer_instance;apply rfl;apply rfl)|(apply T.eql;(iterate 3 apply rfl))|(apply T.pickT;(iterate 3 apply rfl))|(apply T.pickF;(iterate 3 apply rfl))|(with_reducible first|refine Sr.nil ?_|refine S.seq ?_|refine S.block ?_|refine S.reg ?_)|(apply S.quiet;apply rfl;kernel_rfl)|(apply T.ungV;apply rfl;(first|with_reducible rfl|decide))|(apply T.skip;apply rfl;(first|with_reducible rfl|decide);apply rfl)|(apply S.condFV;apply rfl;(first|with_reducible rfl|decide))|(apply S.condQ;apply rfl;all_goals (intro _;try (exfalso;first|omega|with_reducible contradiction)))|(apply T.gcase;apply rfl;apply rfl;all_goals (intro _;try (exfalso;first|omega|with_reducible contradiction)))|(with_reducible apply T.ofRet)|fail)
        refine T.call rfl rfl nt ?_
        rintro _ _ ⟨rfl,rfl⟩
        repeat' (first|((first|apply T.mv|apply T.asn);apply rfl;apply rfl)|(with_reducible first|refine Sr.nil ?_|refine S.seq ?_|refine S.reg ?_)|(apply S.condFV;apply rfl;(first|with_reducible rfl|decide))|(with_reducible apply T.ofRet)|fail)
        refine T.call rfl rfl nf ?_
        rintro _ _ ⟨rfl,rfl⟩
        repeat' (first|((first|apply T.mv|apply T.asn|apply T.nilCheck|apply T.fieldAddrZ);apply rfl;apply rfl)|(apply T.store;apply rfl;apply rfl;infer_instance;(first|decide|(simp;omega)|simp);apply rfl)|(with_reducible first|refine Sr.nil ?_|refine S.reg ?_|refine S.inBlock ?_)|(apply S.condTV;apply rfl;(first|with_reducible rfl|decide))|(apply T.doneW;apply rfl)|(with_reducible apply T.ofRet)|fail)
        exact ⟨_,PSub.refl _,2,nd.text,rfl,rfl⟩
       ·rw [decide_eq_false e2,if_neg e2] at nf
        rw [if_neg e2]
        by_cases e3:wdX t q=kNull
        ·rw [decide_eq_true e3,if_pos e3] at nn
         rw [if_pos e3]
         repeat' (first|(apply T.sidx;apply rfl;apply rfl;omega;apply rfl)|((first|apply T.mv|apply T.asn|apply T.nilCheck|apply T.fieldAddrZ);apply rfl;apply rfl)|(apply T.load;apply rfl;apply rfl;infer_instance;apply rfl;apply rfl)|(apply T.eql;(iterate 3 apply rfl))|(apply T.pickT;(iterate 3 apply rfl))|(apply T.pickF;(iterate 3 apply rfl))|(with_reducible first|refine Sr.nil ?_|refine S.seq ?_|refine S.block ?_|refine S.reg ?_)|(apply S.quiet;apply rfl;kernel_rfl)|(apply T.ungV;apply rfl;(first|with_reducible rfl|decide))|(apply T.skip;apply rfl;(first|with_reducible rfl|decide);apply rfl)|(apply S.condFV;apply rfl;(first|with_reducible rfl|decide))|(apply S.condQ;apply rfl;all_goals (intro _;try (exfalso;first|omega|with_reducible contradiction)))|(apply T.gcase;apply rfl;apply rfl;all_goals (intro _;try (exfalso;first|omega|with_reducible contradiction)))|(with_reducible apply T.ofRet)|fail)
         refine T.call rfl rfl nt ?_
         rintro _ _ ⟨rfl,rfl⟩
         repeat' (first|((first|apply T.mv|apply T.asn);apply rfl;apply rfl)|(with_reducible first|refine Sr.nil ?_|refine S.seq ?_|refine S.reg ?_)|(apply S.condFV;apply rfl;(first|with_reducible rfl|decide))|(with_reducible apply T.ofRet)|fail)
         refine T.call rfl rfl nf ?_
         rintro _ _ ⟨rfl,rfl⟩
         repeat' (first|((first|apply T.mv|apply T.asn);apply rfl;apply rfl)|(with_reducible first|refine Sr.nil ?_|refine S.seq ?_|refine S.reg ?_)|(apply S.condFV;apply rfl;(first|with_reducible rfl|decide))|(with_reducible apply T.ofRet)|fail)
         refine T.call rfl rfl nn ?_
         rintro _ _ ⟨rfl,rfl⟩
         repeat' (first|((first|apply T.mv|apply T.asn|apply T.nilCheck|apply T.fieldAddrZ);apply rfl;apply rfl)|(apply T.store;apply rfl;apply rfl;infer_instance;(first|decide|(simp;omega)|simp);apply rfl)|(with_reducible first|refine Sr.nil ?_|refine S.reg ?_|refine S.inBlock ?_)|(apply S.condTV;apply rfl;(first|with_reducible rfl|decide))|(apply T.doneW;apply rfl)|(with_reducible apply T.ofRet)|fail)
         exact ⟨_,PSub.refl _,1,nd.text,rfl,rfl⟩
        ·rw [decide_eq_false e3,if_neg e3] at nn
         rw [if_neg e3]
         repeat' (first|(apply T.sidx;apply rfl;apply rfl;omega;apply rfl)|((first|apply T.mv|apply T.asn|apply T.nilCheck|apply T.fieldAddrZ);apply rfl;apply rfl)|(apply T.load;apply rfl;apply rfl;infer_instance;apply rfl;apply rfl)|(apply T.eql;(iterate 3 apply rfl))|(apply T.pickT;(iterate 3 apply rfl))|(apply T.pickF;(iterate 3 apply rfl))|(with_reducible first|refine Sr.nil ?_|refine S.seq ?_|refine S.block ?_|refine S.reg ?_)|(apply S.quiet;apply rfl;kernel_rfl)|(apply T.ungV;apply rfl;(first|with_reducible rfl|decide))|(apply T.skip;apply rfl;(first|with_reducible rfl|decide);apply rfl)|(apply S.condFV;apply rfl;(first|with_reducible rfl|decide))|(apply S.condQ;apply rfl;all_goals (intro _;try (exfalso;first|omega|with_reducible contradiction)))|(apply T.gcase;apply rfl;apply rfl;all_goals (intro _;try (exfalso;first|omega|with_reducible contradiction)))|(with_reducible apply T.ofRet)|fail)
         refine T.call rfl rfl nt ?_
         rintro _ _ ⟨rfl,rfl⟩
         repeat' (first|((first|apply T.mv|apply T.asn);apply rfl;apply rfl)|(with_reducible first|refine Sr.nil ?_|refine S.seq ?_|refine S.reg ?_)|(apply S.condFV;apply rfl;(first|with_reducible rfl|decide))|(with_reducible apply T.ofRet)|fail)
         refine T.call rfl rfl nf ?_
         rintro _ _ ⟨rfl,rfl⟩
         repeat' (first|((first|apply T.mv|apply T.asn);apply rfl;apply rfl)|(with_reducible first|refine Sr.nil ?_|refine S.seq ?_|refine S.reg ?_)|(apply S.condFV;apply rfl;(first|with_reducible rfl|decide))|(with_reducible apply T.ofRet)|fail)
         refine T.call rfl rfl nn ?_
         rintro _ _ ⟨rfl,rfl⟩
         repeat' (first|((first|apply T.mv|apply T.asn);apply rfl;apply rfl)|(with_reducible first|refine Sr.nil ?_|refine S.reg ?_)|(apply S.condFV;apply rfl;(first|with_reducible rfl|decide))|(with_reducible apply T.ofRet)|fail)
         refine T.call rfl rfl Zf ?_
         rintro _ _ ⟨rfl,rfl⟩
         repeat' (first|(with_reducible apply T.diesW)|(with_reducible apply T.ofPan)|fail)
         exact ⟨_,(PSub.drop (PSub.refl _)),_,rfl,rfl⟩
 ·rw [if_neg h1]
  have hk:=kd_end.2 h1
  have n1:=fun w hw=>Z0k (F:=F) (M:=M) (H:=.blk nb (rnV nd) 95::H) (p:=p) (o:=o) (oa:=oa) (n:=n) (oc:=oc) (t:=t) (a:=q) (w:=w) hw hle hl
  rw [hss,Z33 (by omega)] at n1
  by_cases h0:nd.op=11
  ·repeat' (first|((first|apply T.mv|apply T.asn|apply T.nilCheck|apply T.fieldAddrZ);apply rfl;apply rfl)|(apply T.load;apply rfl;apply rfl;infer_instance;apply rfl;apply rfl)|(apply T.eql;(iterate 3 apply rfl))|(with_reducible first|refine Sr.nil ?_|refine S.seq ?_|refine S.block ?_|refine S.reg ?_)|(apply S.condQ;apply rfl;all_goals (intro _;try (exfalso;first|omega|with_reducible contradiction)))|(with_reducible apply T.ofRet)|fail)
   refine T.call rfl rfl Zf ?_
   rintro _ _ ⟨rfl,rfl⟩
   repeat' (first|(with_reducible apply T.diesW)|(with_reducible apply T.ofPan)|fail)
   exact ⟨_,(PSub.drop (PSub.refl _)),_,rfl,rfl⟩
  ·repeat' (first|((first|apply T.mv|apply T.asn|apply T.nilCheck|apply T.fieldAddrZ);apply rfl;apply rfl)|(apply T.load;apply rfl;apply rfl;infer_instance;apply rfl;apply rfl)|(apply T.eql;(iterate 3 apply rfl))|(apply T.pickF;(iterate 3 apply rfl))|(with_reducible first|refine Sr.nil ?_|refine S.seq ?_|refine S.block ?_|refine S.reg ?_)|(apply S.quiet;apply rfl;kernel_rfl)|(apply T.skip;apply rfl;(first|with_reducible rfl|decide);apply rfl)|(apply S.condFV;apply rfl;(first|with_reducible rfl|decide))|(apply S.condQ;apply rfl;all_goals (intro _;try (exfalso;first|omega|with_reducible contradiction)))|(apply T.gcase;apply rfl;apply rfl;all_goals (intro _;try (exfalso;first|omega|with_reducible contradiction)))|(with_reducible apply T.ofRet)|fail)
   refine T.call rfl rfl (n1 kTrue (by decide)) ?_
   rintro _ _ ⟨rfl,rfl⟩
   repeat' (first|((first|apply T.mv|apply T.asn);apply rfl;apply rfl)|(with_reducible first|refine Sr.nil ?_|refine S.seq ?_|refine S.reg ?_)|(apply S.condFV;apply rfl;(first|with_reducible rfl|decide))|(with_reducible apply T.ofRet)|fail)
   refine T.call rfl rfl (n1 kFalse (by decide)) ?_
   rintro _ _ ⟨rfl,rfl⟩
   repeat' (first|((first|apply T.mv|apply T.asn);apply rfl;apply rfl)|(with_reducible first|refine Sr.nil ?_|refine S.seq ?_|refine S.reg ?_)|(apply S.condFV;apply rfl;(first|with_reducible rfl|decide))|(with_reducible apply T.ofRet)|fail)
   refine T.call rfl rfl (n1 kNull (by decide)) ?_
   rintro _ _ ⟨rfl,rfl⟩
   repeat' (first|((first|apply T.mv|apply T.asn);apply rfl;apply rfl)|(with_reducible first|refine Sr.nil ?_|refine S.reg ?_)|(apply S.condFV;apply rfl;(first|with_reducible rfl|decide))|(with_reducible apply T.ofRet)|fail)
   refine T.call rfl rfl Zf ?_
   rintro _ _ ⟨rfl,rfl⟩
   repeat' (first|(with_reducible apply T.diesW)|(with_reducible apply T.ofPan)|fail)
   exact ⟨_,(PSub.drop (PSub.refl _)),_,rfl,rfl⟩
end
end Go.Proofs.YthomgjihagigcaaGreatDoor
/- The walk of the program's reader of rules: a comparison's sign. -/
/- guards -/
namespace Sg
open Go
abbrev OpT:=List UInt8 × Int
abbrev opV (x:OpT):List Value:=[sV x.1,.int .i64 x.2]
def opsL:List OpT:=[([33,61],6),([60,61],8),([62,61],10),([61],5),([60],7),([62],9)]
def Z4y (t:List UInt8) (q:Nat):List OpT→Option OpT
 | []=>none
 | x::l=>if kdX t q=4∧Go.Lib.hasPrefix (t.drop q) x.1=true then some x else Z4y t q l
theorem pre1 {t:List UInt8} {q:Nat} (h:q < t.length) (c:UInt8):Go.Lib.hasPrefix (t.drop q) [c]=true↔(t.getD q 0).toNat=c.toNat:=by
 rw [ZE h,←u8_nat]
 generalize t.getD q 0=x
 simp [Go.Lib.hasPrefix]
 try exact ⟨fun h=>h.symm,fun h=>h.symm⟩
theorem pre2 {t:List UInt8} {q:Nat} (h:q < t.length) (c d:UInt8):Go.Lib.hasPrefix (t.drop q) [c,d]=true↔((t.getD q 0).toNat=c.toNat∧q+1 < t.length∧(t.getD (q+1) 0).toNat=d.toNat):=by
 rw [ZE h,←u8_nat,←u8_nat]
 generalize t.getD q 0=x
 by_cases h2:q+1 < t.length
 ·rw [ZE h2]
  generalize t.getD (q+1) 0=y
  simp [Go.Lib.hasPrefix,h2]
  try exact ⟨fun h=>⟨h.1.symm,h.2.symm⟩,fun h=>⟨h.1.symm,h.2.symm⟩⟩
 ·rw [List.drop_eq_nil_of_le (by omega)]
  simp [Go.Lib.hasPrefix,h2]
theorem Z83 {t:List UInt8} {p:Nat} (h:¬wdX t (Z2 t p)=kCon):gOp t p=(Z4y t (Z2 t p) opsL).map fun x=>(false,Z2 t p+x.1.length):=by
 unfold gOp
 generalize Z2 t p=q at *
 by_cases h1:q < t.length
 ·rw [if_pos h1,if_neg h]
  have a1:=pre2 h1 33 61
  have a2:=pre2 h1 60 61
  have a3:=pre2 h1 62 61
  have a4:=pre1 h1 61
  have a5:=pre1 h1 60
  have a6:=pre1 h1 62
  have hk:kdX t q=4↔t.getD q 0∈sgnL:=by rw [kd_sign];simp [h1]
  rw [Z2Q] at hk
  have n1:(33:UInt8).toNat=33:=rfl
  have n2:(60:UInt8).toNat=60:=rfl
  have n3:(61:UInt8).toNat=61:=rfl
  have n4:(62:UInt8).toNat=62:=rfl
  rw [n1,n3] at a1
  rw [n2,n3] at a2
  rw [n4,n3] at a3
  rw [n3] at a4
  rw [n2] at a5
  rw [n4] at a6
  simp only [opsL,Z4y,a1,a2,a3,a4,a5,a6,hk]
  generalize (t.getD q 0).toNat=x
  generalize (t.getD (q+1) 0).toNat=y
  repeat' split
  all_goals first
   | rfl
   | (exfalso;omega)
 ·rw [if_neg h1]
  have hk:¬kdX t q=4:=fun hk=>h1 (kd_sign.1 hk).1
  simp [Z4y,opsL,hk]
end Sg
namespace Go.Proofs.YthomgjihagigcaaGreatDoor
open Sg Go.IntWalk
set_option maxRecDepth 100000
set_option maxHeartbeats 4000000
theorem Z2e (s w:List UInt8):PCall Tryz.prog 74 [sV s,sV w] (.bool (Lib.hasPrefix s w)):=fun c =>
 Tryz.strings_HasPrefix (ByteArray.mk s.toArray) (ByteArray.mk w.toArray) c
section
variable {F:World} {M:List Nat} {H:List Res} {t s:List UInt8} {p oc n:Nat} {a:Nat} {o:Int} {oa:Option Addr} {k:Nat}
abbrev opB (nb:Nat) (x:OpT):Res:=.blk nb (opV x) 114
def GtO (p:Nat) (t:List UInt8) (o:Int) (oa:Option Addr) (n oc:Nat) (H:List Res):Option (Bool × Nat)→Ending→List Res→Prop
 | none=>fun e H'=>∃ b:Int,e=.panicked [gFlt 180 b]∧H'=H
 | some (b,r)=>fun e H'=>∃ z:Int,e=.returned (.int .i64 z)∧b=decide (z=11)∧H'=paR p t r o oa n oc H
theorem Z2v (hT:GtT F M) (ha:a≤t.length) (hl:t.length≤1024) :
  Meets Tryz.prog 63 [.pointer (some ⟨p,0,none⟩)] F M (paR p t a o oa n oc H) (GtO p t o oa n oc H (gOp t a)):=by
 refine Meets.enter Tryz.func63 rfl rfl ?_
 obtain ⟨ka,kc,k1,k2'⟩:=hT.op
 have k2:∀ H,Rd F M H ka (opsL.flatMap opV):=k2'
 have hle:=Zj (t:=t) ha
 have hss:=ZZ (t:=t) (p:=a)
 have nk:=Z0k (F:=F) (M:=M) (H:=H) (p:=p) (o:=o) (oa:=oa) (n:=n) (oc:=oc) (t:=t) (a:=a) (w:=kCon) (by decide) ha hl
 have hsay:=@Z83 t a
 have hgo:wdX t (Z2 t a)=kCon→gOp t a=some (true,Z2 t a+8):=fun h=>by
  unfold gOp
  rw [if_pos (Zu (by decide) h).1,if_pos h]
 have n1:=fun X=>ZP (F:=F) (M:=M) (H:=X) (p:=p) (o:=o) (oa:=oa) (n:=n) (oc:=oc) (t:=t) (a:=Z2 t a) hle hl
 rw [hss] at n1
 generalize Z2 t a=q at *
 by_cases e1:wdX t q=kCon
 ·rw [decide_eq_true e1,if_pos e1] at nk
  rw [hgo e1]
  repeat' (first|((first|apply T.mv|apply T.asn);apply rfl;apply rfl)|(with_reducible first|refine Sr.nil ?_|refine S.seq ?_|refine S.reg ?_)|fail)
  refine T.call rfl rfl nk ?_
  rintro _ _ ⟨rfl,rfl⟩
  repeat' (first|(apply T.asn;apply rfl;apply rfl)|(with_reducible first|refine Sr.nil ?_|refine S.seq ?_|refine S.reg ?_)|(apply S.condTV;apply rfl;(first|with_reducible rfl|decide))|(apply T.retW;apply rfl)|(with_reducible apply T.ofRet)|fail)
  exact ⟨_,PSub.refl _,11,rfl,rfl,rfl⟩
 ·rw [decide_eq_false e1,if_neg e1] at nk
  rw [hsay e1]
  generalize hQ:Z4y t q opsL=Q
  repeat' (first|((first|apply T.mv|apply T.asn);apply rfl;apply rfl)|(with_reducible first|refine Sr.nil ?_|refine S.seq ?_|refine S.reg ?_)|fail)
  refine T.call rfl rfl nk ?_
  rintro _ _ ⟨rfl,rfl⟩
  repeat' (first|(with_reducible first|refine Sr.nil ?_|refine S.seq ?_|refine S.reg ?_|refine S.skip ?_)|(apply S.condFV;apply rfl;(first|with_reducible rfl|decide))|(with_reducible apply T.ofRet)|fail)
  refine T.loadE (j:=0) rfl rfl (k1 _) rfl rfl ?_
  repeat' (first|((first|apply T.mv|apply T.len);apply rfl;apply rfl)|(with_reducible first|refine Sr.nil ?_|refine S.block ?_)|fail)
  have hol:opsL.length=6:=rfl
  refine S.loopE 1 [0,7,8] (fun R b' μ H' e=>∃ i:Nat,H'=paR p t q o oa n oc R∧e=(9,.int .i64 i)::b'∧(i≤6∧Z4y t q (opsL.drop i)=Q)∧μ=6 - i) rfl rfl ?_ _ _ ⟨0,rfl,rfl,⟨by omega,hQ⟩,rfl⟩ (by repeat' first|exact trivial|refine And.intro rfl ?_)
  rintro _ _ _ ⟨i,rfl,rfl,⟨h1,h2⟩,rfl⟩ ih
  by_cases h3:i < 6
  ·have hd:opsL.drop i=opsL.getD i default::opsL.drop (i+1):=by
    rw [List.drop_eq_getElem_cons (by omega)]
    simp [List.getD,h3,hol]
   have hget:opsL[i]?=some (opsL.getD i default):=Zq (by omega)
   rw [hd,Z4y] at h2
   have hxl:1≤(opsL.getD i default).1.length∧(opsL.getD i default).1.length≤2∧(opsL.getD i default).2≠11:=by
    have hall:∀ j:Fin 6,1≤(opsL.getD j.val default).1.length∧(opsL.getD j.val default).1.length≤2∧(opsL.getD j.val default).2≠11:=by decide
    exact hall ⟨i,h3⟩
   repeat' (first|(apply T.lss;(iterate 3 apply rfl))|(apply T.ixF;apply rfl;apply rfl;infer_instance;exact (fun _=>rfl);apply rfl;omega;omega;apply rfl)|(apply T.loadFN;apply rfl;apply rfl;infer_instance;exact (fun _=>rfl);apply rfl;exact Zq (by omega);apply rfl)|(apply T.storeW;apply rfl;apply rfl;infer_instance;(first|rfl|(simp only [List.length_append,List.length_map,List.length_set,List.length_replicate,List.length_cons,List.length_nil];first|done|omega));(first|rfl|(simp only [List.length_append,List.length_map,List.length_set,List.length_replicate,List.length_cons,List.length_nil];first|done|omega));(first|rfl|(repeat' first|apply all_nV|apply all_bV|apply all_iV|rfl|apply all_app)))|(apply T.alloc;apply rfl;intro nb)|(with_reducible first|refine Sr.nil ?_|refine S.seq ?_|refine S.block ?_|refine S.reg ?_|refine S.skip ?_)|(apply S.condQ;apply rfl;all_goals (intro _;try (exfalso;first|omega|with_reducible contradiction)))|fail)
   generalize opsL.getD i default=x at *
   by_cases h4:kdX t q=4
   ·obtain ⟨h5,h6⟩:=kd_sign.1 h4
    cases h7:Lib.hasPrefix (t.drop q) x.1 with
    | true =>
     rw [if_pos ⟨h4,h7⟩] at h2
     subst h2
     clear ih
     refine S.front p ?_
     (apply S.draw;(case Hs=>exact opB nb x::H);(case es=>exact  [1,15]);(case n=>exact  17);(case hn=>rfl))
     repeat' (first|(apply T.call;apply rfl;apply rfl;with_reducible exact n1 _;rintro _ _ ⟨rfl,rfl⟩)|(apply T.ssliceL;apply rfl;apply rfl;omega;apply rfl)|(apply T.pcall;apply rfl;infer_instance;apply rfl;with_reducible exact Z2e _ _)|(apply T.eql;(iterate 3 apply rfl);rw [decide_eq_true (by omega)])|((first|apply T.mv|apply T.nilCheck|apply T.fieldAddrZ);apply rfl;apply rfl)|(apply T.load;apply rfl;apply rfl;infer_instance;apply rfl;apply rfl)|(apply T.pickT;(iterate 3 apply rfl))|with_reducible refine Sr.nil ?_|(apply T.ungV;apply rfl;(first|with_reducible rfl|decide))|(with_reducible apply T.ofRet)|(apply SA.gz;(iterate 4 apply rfl);(first|with_reducible rfl|decide);apply rfl;kernel_rfl)|(apply SA.gn;(iterate 4 apply rfl);(first|with_reducible rfl|decide);apply rfl;kernel_rfl)|(apply SA.qn;(iterate 4 apply rfl);kernel_rfl)|(apply SA.en;apply rfl;apply rfl;kernel_rfl)|(apply SA.done;apply rfl;kernel_rfl)|(apply SK.intro;(first|exact fun _ h=>h|exact fun _ h=>St.psub h (by ((repeat (first|dsimp only [List.set_cons_zero]|dsimp only [List.set_cons_succ]));repeat' first|exact PSub.refl _|exact PSub.nil|(with_reducible apply PSub.app)|(apply PSub.take;(repeat' first|(with_reducible exact Z0)|(with_reducible apply Z1)))|(with_reducible apply PSub.drop)|((apply PSub.take);(repeat' first|exact Z0|(apply Z1)))))))|fail)
     rw [h7]
     repeat' (first|with_reducible refine S.seq ?_|(apply S.condTV;apply rfl;(first|with_reducible rfl|decide))|fail)
     (apply S.draw;(case Hs=>exact opB nb x::H);(case es=>exact  [10]);(case n=>exact  11);(case hn=>rfl))
     repeat' (first|((first|apply T.slen|apply T.mv|apply T.asn|apply T.nilCheck|apply T.fieldAddrZ);apply rfl;apply rfl)|(apply T.load;apply rfl;apply rfl;infer_instance;apply rfl;apply rfl)|(apply T.addI;apply rfl;apply rfl;omega;apply rfl)|(apply T.store;apply rfl;apply rfl;infer_instance;(first|decide|(simp;omega)|simp);apply rfl)|(with_reducible first|refine Sr.nil ?_|refine S.seq ?_|refine S.reg ?_)|(apply T.retW;apply rfl)|(apply SA.qn;(iterate 4 apply rfl);kernel_rfl)|(apply SA.en;apply rfl;apply rfl;kernel_rfl)|(apply SA.done;apply rfl;kernel_rfl)|(apply SK.intro;(first|exact fun _ h=>h|exact fun _ h=>St.psub h (by ((repeat (first|dsimp only [List.set_cons_zero]|dsimp only [List.set_cons_succ]));repeat' first|exact PSub.refl _|exact PSub.nil|(with_reducible apply PSub.app)|(apply PSub.take;(repeat' first|(with_reducible exact Z0)|(with_reducible apply Z1)))|(with_reducible apply PSub.drop)|((apply PSub.take);(repeat' first|exact Z0|(apply Z1)))))))|fail)
     skip
     exact ⟨_,PSub.take Z0 (PSub.drop (PSub.refl _)),x.2,rfl,(decide_eq_false hxl.2.2).symm,rfl⟩
    | false =>
     rw [if_neg (fun h=>by rw [h7] at h;simp at h)] at h2
     refine S.front p ?_
     (apply S.draw;(case Hs=>exact opB nb x::H);(case es=>exact  [1,15]);(case n=>exact  17);(case hn=>rfl))
     repeat' (first|(apply T.call;apply rfl;apply rfl;with_reducible exact n1 _;rintro _ _ ⟨rfl,rfl⟩)|(apply T.ssliceL;apply rfl;apply rfl;omega;apply rfl)|(apply T.pcall;apply rfl;infer_instance;apply rfl;with_reducible exact Z2e _ _)|(apply T.eql;(iterate 3 apply rfl);rw [decide_eq_true (by omega)])|((first|apply T.mv|apply T.nilCheck|apply T.fieldAddrZ);apply rfl;apply rfl)|(apply T.load;apply rfl;apply rfl;infer_instance;apply rfl;apply rfl)|(apply T.pickT;(iterate 3 apply rfl))|with_reducible refine Sr.nil ?_|(apply T.ungV;apply rfl;(first|with_reducible rfl|decide))|(with_reducible apply T.ofRet)|(apply SA.gz;(iterate 4 apply rfl);(first|with_reducible rfl|decide);apply rfl;kernel_rfl)|(apply SA.gn;(iterate 4 apply rfl);(first|with_reducible rfl|decide);apply rfl;kernel_rfl)|(apply SA.qn;(iterate 4 apply rfl);kernel_rfl)|(apply SA.en;apply rfl;apply rfl;kernel_rfl)|(apply SA.done;apply rfl;kernel_rfl)|(apply SK.intro;(first|exact fun _ h=>h|exact fun _ h=>St.psub h (by ((repeat (first|dsimp only [List.set_cons_zero]|dsimp only [List.set_cons_succ]));repeat' first|exact PSub.refl _|exact PSub.nil|(with_reducible apply PSub.app)|(apply PSub.take;(repeat' first|(with_reducible exact Z0)|(with_reducible apply Z1)))|(with_reducible apply PSub.drop)|((apply PSub.take);(repeat' first|exact Z0|(apply Z1)))))))|fail)
     rw [h7]
     repeat' (first|(apply T.mv;apply rfl;apply rfl)|(apply T.addI;apply rfl;apply rfl;omega;apply rfl)|(with_reducible first|refine Sr.nil ?_|refine S.reg ?_|refine S.skip ?_|refine S.inBlock ?_)|(apply S.condFV;apply rfl;(first|with_reducible rfl|decide))|fail)
     refine S.sublist ?_ (PSub.take Z0 (PSub.drop (PSub.refl _)))
     exact ih _ _ _ _ ⟨i+1,rfl,rfl,⟨by omega,h2⟩,rfl⟩ (by omega) (by repeat' first|exact trivial|refine And.intro rfl ?_)
   ·rw [if_neg (fun h=>h4 h.1)] at h2
    refine S.front p ?_
    (apply S.draw;(case Hs=>exact opB nb x::H);(case es=>exact  [1,15]);(case n=>exact  17);(case hn=>rfl))
    repeat' (first|(apply T.call;apply rfl;apply rfl;with_reducible exact n1 _;rintro _ _ ⟨rfl,rfl⟩)|(apply T.eql;(iterate 3 apply rfl);rw [decide_eq_false (by omega)])|(apply T.mv;apply rfl;apply rfl)|(apply T.addI;apply rfl;apply rfl;omega;apply rfl)|(apply T.pickF;(iterate 3 apply rfl))|(with_reducible first|refine Sr.nil ?_|refine S.reg ?_|refine S.skip ?_|refine S.inBlock ?_)|(apply T.skip;apply rfl;(first|with_reducible rfl|decide);apply rfl)|(apply S.condFV;apply rfl;(first|with_reducible rfl|decide))|(with_reducible apply T.ofRet)|(apply SA.gxv;(iterate 5 apply rfl);kernel_rfl;apply rfl)|(apply SA.qn;(iterate 4 apply rfl);kernel_rfl)|(apply SA.en;apply rfl;apply rfl;kernel_rfl)|(apply SA.done;apply rfl;kernel_rfl)|(apply SK.intro;(first|exact fun _ h=>h|exact fun _ h=>St.psub h (by ((repeat (first|dsimp only [List.set_cons_zero]|dsimp only [List.set_cons_succ]));repeat' first|exact PSub.refl _|exact PSub.nil|(with_reducible apply PSub.app)|(apply PSub.take;(repeat' first|(with_reducible exact Z0)|(with_reducible apply Z1)))|(with_reducible apply PSub.drop)|((apply PSub.take);(repeat' first|exact Z0|(apply Z1)))))))|fail)
    skip
    refine S.sublist ?_ (PSub.take Z0 (PSub.drop (PSub.refl _)))
    exact ih _ _ _ _ ⟨i+1,rfl,rfl,⟨by omega,h2⟩,rfl⟩ (by omega) (by repeat' first|exact trivial|refine And.intro rfl ?_)
  ·obtain rfl:i=6:=by omega
   have h4:Q=none:=h2.symm
   subst h4
   clear ih
   repeat' (first|(apply T.mv;apply rfl;apply rfl)|(apply T.lss;(iterate 3 apply rfl))|(with_reducible first|refine Sr.nil ?_|refine S.seq ?_|refine S.reg ?_)|(apply S.exit;apply rfl)|(apply S.condFV;apply rfl;(first|with_reducible rfl|decide))|fail)
   refine T.call rfl rfl Zf ?_
   rintro _ _ ⟨rfl,rfl⟩
   repeat' (first|(with_reducible apply T.diesW)|(with_reducible apply T.ofPan)|fail)
   exact ⟨_,PSub.refl _,_,rfl,rfl⟩
end
end Go.Proofs.YthomgjihagigcaaGreatDoor
/- The walks of the program's reader of rules: going down. -/
/- guards -/
namespace Sg
theorem Z5e {t:List UInt8} {k p:Nat}:ZV t k p=if wdX t (Z2 t p)=kNot then (match k with|0=>.no 11|d+1=>ZV t d (Z2 t p+3)) else if wdX t (Z2 t p)=kHas then Z17 t (Z2 t p+3)
  else if Z2 t p < t.length∧(t.getD (Z2 t p) 0).toNat=40 then (match k with|0=>.no 11|d+1=>Z4H t (Z3l t (ZV t d) (Z2 t p+1))) else Z2i t (Z2 t p):=by
 cases k<;>rw [ZV]
end Sg
namespace Go.Proofs.YthomgjihagigcaaGreatDoor
open Sg Go.IntWalk
set_option maxRecDepth 100000
set_option maxHeartbeats 4000000
section
variable {F:World} {M:List Nat} {H:List Res} {t s:List UInt8} {p oc n:Nat} {a:Nat} {o:Int} {oa:Option Addr} {k:Nat}
def AtP (p:Nat) (t:List UInt8) (o:Int) (H:List Res) (n a:Nat):Rz→Ending→List Res→Prop
 | .no c=>fun e H'=>∃ b:Int,e=.panicked [gFlt c b]∧H'=H
 | .to r=>fun e H'=>∃ (i:Int) (oa:Option Addr) (oc:Nat) (ns:List Rnd),e=.returned (.int .i64 i)∧ns.length+a≤n+r∧H'=paT p t r o oa oc ns H
abbrev Down (f:FuncId) (F:World) (M:List Nat) (p:Nat) (t:List UInt8) (o:Int) (H:List Res) (A:Nat→Rz):Prop:=∀ (a:Nat) (ns:List Rnd) (oa:Option Addr) (oc:Nat),a≤t.length→ns.length≤a→Meets Tryz.prog f [.pointer (some ⟨p,0,none⟩)] F M (paT p t a o oa oc ns H) (AtP p t o H ns.length a (A a))
theorem Z5d (hl:t.length≤1024) {A:Nat→Rz} (hok:∀ p,p≤t.length→RzO t (p+1) (A p)) (hA:Down 54 F M p t o H A):Down 40 F M p t o H (ZW t A kAnd):=by
 intro a ns oa oc ha hn
 refine Meets.enter Tryz.func40 rfl rfl ?_
 unfold ZW
 have hc:=hA a ns oa oc ha hn
 have ho:=hok a ha
 cases hz:A a with
 | no c =>
  rw [hz] at hc
  repeat' (first|((first|apply T.mv|apply T.asn);apply rfl;apply rfl)|(with_reducible first|refine Sr.nil ?_|refine S.seq ?_|refine S.reg ?_)|fail)
  refine T.call rfl rfl hc ?_
  rintro _ _ ⟨b,rfl,rfl⟩
  repeat' (first|(with_reducible apply T.diesW)|(with_reducible apply T.ofPan)|fail)
  exact ⟨_,PSub.refl _,_,rfl,rfl⟩
 | to q =>
  rw [hz] at hc ho
  dsimp only
  obtain ⟨o1,o2⟩:=ho
  generalize hQ:Z0A t A kAnd (t.length+1) q=Q
  repeat' (first|((first|apply T.mv|apply T.asn);apply rfl;apply rfl)|(with_reducible first|refine Sr.nil ?_|refine S.seq ?_|refine S.reg ?_)|fail)
  refine T.call rfl rfl hc ?_
  rintro _ _ ⟨i,oa1,oc1,ns1,rfl,hb1,rfl⟩
  repeat' (first|(apply T.asn;apply rfl;apply rfl)|(with_reducible first|refine Sr.nil ?_|refine S.seq ?_|refine S.block ?_)|(with_reducible apply T.ofRet)|fail)
  refine S.loopE 2 [0] (fun R b' μ H' e=>∃ (q k oc2:Nat) (oa2:Option Addr) (ns2:List Rnd) (i:Int),H'=paT p t q o oa2 oc2 ns2 R∧e=(3,.int .i64 i)::b'∧(q≤t.length∧t.length < q+k∧Z0A t A kAnd k q=Q∧ns2.length+a≤ns.length+q)∧μ=k+1) rfl rfl ?_ _ _ ⟨q,t.length+1,_,_,_,_,rfl,rfl,⟨o2,by omega,hQ,hb1⟩,rfl⟩ (by repeat' first|exact trivial|refine And.intro rfl ?_)
  clear hc
  rintro _ _ _ ⟨q,k,oc2,oa2,ns2,i,rfl,rfl,⟨h1,h2,h3,h4⟩,rfl⟩ ih
  obtain ⟨j,rfl⟩:∃ j,k=j+1:=⟨k - 1,by omega⟩
  rw [Z0A] at h3
  have h6:=Zi (t:=t) (p:=q)
  have hkl:kAnd.length=3:=rfl
  have hnk:=Z0k (F:=F) (M:=M) (H:=.row oa2 oc2 95 6 ns2.length (ns2.flatMap rnV)::H) (p:=p) (o:=o) (oa:=oa2) (n:=ns2.length) (oc:=oc2) (t:=t) (a:=q) (w:=kAnd) (by decide) h1 hl
  rw [hkl] at h3 hnk
  by_cases e1:wdX t (Z2 t q)=kAnd
  ·have h7:=Zu (by decide) e1
   rw [hkl] at h7
   rw [decide_eq_true e1,if_pos e1] at hnk
   rw [if_pos e1] at h3
   generalize Z2 t q=u at *
   have hc:=hA (u+3) ns2 oa2 oc2 (by omega) (by omega)
   have ho:=hok (u+3) (by omega)
   cases hz2:A (u+3) with
   | no c =>
    rw [hz2] at hc h3
    dsimp only at h3
    subst h3
    clear ih
    repeat' (first|(apply T.mv;apply rfl;apply rfl)|(with_reducible first|refine S.seq ?_|refine S.reg ?_)|fail)
    refine T.call rfl rfl hnk ?_
    rintro _ _ ⟨rfl,rfl⟩
    repeat' (first|(apply T.mv;apply rfl;apply rfl)|(with_reducible first|refine Sr.nil ?_|refine S.seq ?_|refine S.block ?_|refine S.reg ?_|refine S.skip ?_)|(apply S.condTV;apply rfl;(first|with_reducible rfl|decide))|(with_reducible apply T.ofRet)|fail)
    refine T.call rfl rfl hc ?_
    rintro _ _ ⟨b,rfl,rfl⟩
    repeat' (first|(with_reducible apply T.diesW)|(with_reducible apply T.ofPan)|fail)
    exact ⟨_,PSub.refl _,_,rfl,rfl⟩
   | to r =>
    rw [hz2] at hc h3 ho
    dsimp only at h3
    obtain ⟨k1,k2⟩:=ho
    repeat' (first|(apply T.mv;apply rfl;apply rfl)|(with_reducible first|refine S.seq ?_|refine S.reg ?_)|fail)
    refine T.call rfl rfl hnk ?_
    rintro _ _ ⟨rfl,rfl⟩
    repeat' (first|(apply T.mv;apply rfl;apply rfl)|(with_reducible first|refine Sr.nil ?_|refine S.seq ?_|refine S.block ?_|refine S.reg ?_|refine S.skip ?_)|(apply S.condTV;apply rfl;(first|with_reducible rfl|decide))|(with_reducible apply T.ofRet)|fail)
    refine T.call rfl rfl hc ?_
    rintro _ _ ⟨i2,oa3,oc3,ns3,rfl,hb3,rfl⟩
    repeat' (first|((first|apply T.mv|apply T.asn);apply rfl;apply rfl)|(apply T.buildL;(iterate 3 apply rfl))|(with_reducible first|refine Sr.nil ?_|refine S.reg ?_)|(with_reducible apply T.ofRet)|fail)
    refine T.call rfl rfl (Z0j (ns:=ns3) (nd:=⟨1,i,i2,none,0,0,0,[]⟩) (by omega)) ?_
    rintro _ _ ⟨oa4,oc4,rfl,rfl⟩
    repeat' (first|(apply T.asn;apply rfl;apply rfl)|(with_reducible first|refine Sr.nil ?_|refine S.inBlock ?_)|(with_reducible apply T.ofRet)|fail)
    have hL:(ns3++[(⟨1,i,i2,none,0,0,0,[]⟩:Rnd)]).length=ns3.length+1:=by rw [List.length_append];rfl
    exact ih _ _ _ _ ⟨r,j,oc4,oa4,_,_,rfl,rfl,⟨k2,by omega,h3,by rw [hL];omega⟩,rfl⟩ (by omega) (by repeat' first|exact trivial|refine And.intro rfl ?_)
  ·rw [decide_eq_false e1,if_neg e1] at hnk
   rw [if_neg e1] at h3
   subst h3
   clear ih
   repeat' (first|(apply T.mv;apply rfl;apply rfl)|(with_reducible first|refine S.seq ?_|refine S.reg ?_)|fail)
   refine T.call rfl rfl hnk ?_
   rintro _ _ ⟨rfl,rfl⟩
   repeat' (first|((first|apply T.mv|apply T.asn);apply rfl;apply rfl)|(with_reducible first|refine Sr.nil ?_|refine S.seq ?_|refine S.reg ?_)|(apply S.exit;apply rfl)|(apply S.condFV;apply rfl;(first|with_reducible rfl|decide))|(apply T.retW;apply rfl)|(with_reducible apply T.ofRet)|fail)
   exact ⟨_,PSub.refl _,_,_,_,_,rfl,by omega,rfl⟩
theorem Z59 (hl:t.length≤1024) {A:Nat→Rz} (hok:∀ p,p≤t.length→RzO t (p+1) (A p)) (hA:Down 40 F M p t o H A):Down 25 F M p t o H (ZW t A kOr):=by
 intro a ns oa oc ha hn
 refine Meets.enter Tryz.func25 rfl rfl ?_
 unfold ZW
 have hc:=hA a ns oa oc ha hn
 have ho:=hok a ha
 cases hz:A a with
 | no c =>
  rw [hz] at hc
  repeat' (first|((first|apply T.mv|apply T.asn);apply rfl;apply rfl)|(with_reducible first|refine Sr.nil ?_|refine S.seq ?_|refine S.reg ?_)|fail)
  refine T.call rfl rfl hc ?_
  rintro _ _ ⟨b,rfl,rfl⟩
  repeat' (first|(with_reducible apply T.diesW)|(with_reducible apply T.ofPan)|fail)
  exact ⟨_,PSub.refl _,_,rfl,rfl⟩
 | to q =>
  rw [hz] at hc ho
  dsimp only
  obtain ⟨o1,o2⟩:=ho
  generalize hQ:Z0A t A kOr (t.length+1) q=Q
  repeat' (first|((first|apply T.mv|apply T.asn);apply rfl;apply rfl)|(with_reducible first|refine Sr.nil ?_|refine S.seq ?_|refine S.reg ?_)|fail)
  refine T.call rfl rfl hc ?_
  rintro _ _ ⟨i,oa1,oc1,ns1,rfl,hb1,rfl⟩
  repeat' (first|(apply T.asn;apply rfl;apply rfl)|(with_reducible first|refine Sr.nil ?_|refine S.seq ?_|refine S.block ?_)|(with_reducible apply T.ofRet)|fail)
  refine S.loopE 2 [0] (fun R b' μ H' e=>∃ (q k oc2:Nat) (oa2:Option Addr) (ns2:List Rnd) (i:Int),H'=paT p t q o oa2 oc2 ns2 R∧e=(3,.int .i64 i)::b'∧(q≤t.length∧t.length < q+k∧Z0A t A kOr k q=Q∧ns2.length+a≤ns.length+q)∧μ=k+1) rfl rfl ?_ _ _ ⟨q,t.length+1,_,_,_,_,rfl,rfl,⟨o2,by omega,hQ,hb1⟩,rfl⟩ (by repeat' first|exact trivial|refine And.intro rfl ?_)
  clear hc
  rintro _ _ _ ⟨q,k,oc2,oa2,ns2,i,rfl,rfl,⟨h1,h2,h3,h4⟩,rfl⟩ ih
  obtain ⟨j,rfl⟩:∃ j,k=j+1:=⟨k - 1,by omega⟩
  rw [Z0A] at h3
  have h6:=Zi (t:=t) (p:=q)
  have hkl:kOr.length=2:=rfl
  have hnk:=Z0k (F:=F) (M:=M) (H:=.row oa2 oc2 95 6 ns2.length (ns2.flatMap rnV)::H) (p:=p) (o:=o) (oa:=oa2) (n:=ns2.length) (oc:=oc2) (t:=t) (a:=q) (w:=kOr) (by decide) h1 hl
  rw [hkl] at h3 hnk
  by_cases e1:wdX t (Z2 t q)=kOr
  ·have h7:=Zu (by decide) e1
   rw [hkl] at h7
   rw [decide_eq_true e1,if_pos e1] at hnk
   rw [if_pos e1] at h3
   generalize Z2 t q=u at *
   have hc:=hA (u+2) ns2 oa2 oc2 (by omega) (by omega)
   have ho:=hok (u+2) (by omega)
   cases hz2:A (u+2) with
   | no c =>
    rw [hz2] at hc h3
    dsimp only at h3
    subst h3
    clear ih
    repeat' (first|(apply T.mv;apply rfl;apply rfl)|(with_reducible first|refine S.seq ?_|refine S.reg ?_)|fail)
    refine T.call rfl rfl hnk ?_
    rintro _ _ ⟨rfl,rfl⟩
    repeat' (first|(apply T.mv;apply rfl;apply rfl)|(with_reducible first|refine Sr.nil ?_|refine S.seq ?_|refine S.block ?_|refine S.reg ?_|refine S.skip ?_)|(apply S.condTV;apply rfl;(first|with_reducible rfl|decide))|(with_reducible apply T.ofRet)|fail)
    refine T.call rfl rfl hc ?_
    rintro _ _ ⟨b,rfl,rfl⟩
    repeat' (first|(with_reducible apply T.diesW)|(with_reducible apply T.ofPan)|fail)
    exact ⟨_,PSub.refl _,_,rfl,rfl⟩
   | to r =>
    rw [hz2] at hc h3 ho
    dsimp only at h3
    obtain ⟨k1,k2⟩:=ho
    repeat' (first|(apply T.mv;apply rfl;apply rfl)|(with_reducible first|refine S.seq ?_|refine S.reg ?_)|fail)
    refine T.call rfl rfl hnk ?_
    rintro _ _ ⟨rfl,rfl⟩
    repeat' (first|(apply T.mv;apply rfl;apply rfl)|(with_reducible first|refine Sr.nil ?_|refine S.seq ?_|refine S.block ?_|refine S.reg ?_|refine S.skip ?_)|(apply S.condTV;apply rfl;(first|with_reducible rfl|decide))|(with_reducible apply T.ofRet)|fail)
    refine T.call rfl rfl hc ?_
    rintro _ _ ⟨i2,oa3,oc3,ns3,rfl,hb3,rfl⟩
    repeat' (first|((first|apply T.mv|apply T.asn);apply rfl;apply rfl)|(apply T.buildL;(iterate 3 apply rfl))|(with_reducible first|refine Sr.nil ?_|refine S.reg ?_)|(with_reducible apply T.ofRet)|fail)
    refine T.call rfl rfl (Z0j (ns:=ns3) (nd:=⟨2,i,i2,none,0,0,0,[]⟩) (by omega)) ?_
    rintro _ _ ⟨oa4,oc4,rfl,rfl⟩
    repeat' (first|(apply T.asn;apply rfl;apply rfl)|(with_reducible first|refine Sr.nil ?_|refine S.inBlock ?_)|(with_reducible apply T.ofRet)|fail)
    have hL:(ns3++[(⟨2,i,i2,none,0,0,0,[]⟩:Rnd)]).length=ns3.length+1:=by rw [List.length_append];rfl
    exact ih _ _ _ _ ⟨r,j,oc4,oa4,_,_,rfl,rfl,⟨k2,by omega,h3,by rw [hL];omega⟩,rfl⟩ (by omega) (by repeat' first|exact trivial|refine And.intro rfl ?_)
  ·rw [decide_eq_false e1,if_neg e1] at hnk
   rw [if_neg e1] at h3
   subst h3
   clear ih
   repeat' (first|(apply T.mv;apply rfl;apply rfl)|(with_reducible first|refine S.seq ?_|refine S.reg ?_)|fail)
   refine T.call rfl rfl hnk ?_
   rintro _ _ ⟨rfl,rfl⟩
   repeat' (first|((first|apply T.mv|apply T.asn);apply rfl;apply rfl)|(with_reducible first|refine Sr.nil ?_|refine S.seq ?_|refine S.reg ?_)|(apply S.exit;apply rfl)|(apply S.condFV;apply rfl;(first|with_reducible rfl|decide))|(apply T.retW;apply rfl)|(with_reducible apply T.ofRet)|fail)
   exact ⟨_,PSub.refl _,_,_,_,_,rfl,by omega,rfl⟩
theorem Z5U (hT:GtT F M) (hJ:Tabs F M) (hl:t.length≤1024):∀ k:Nat,k≤32→Down 54 F M p t (32 - (k:Int)) H (ZV t k):=by
 intro k
 induction k using Nat.strongRecOn with
 | _ k ih =>
 intro hk a ns oa oc ha hn
 refine Meets.enter Tryz.func54 rfl rfl ?_
 rw [Z5e]
 have h6:=Zi (t:=t) (p:=a)
 have hle:=Zj (t:=t) ha
 have hss:=ZZ (t:=t) (p:=a)
 have hnx:=ZP (F:=F) (M:=M) (H:=.row oa oc 95 6 ns.length (ns.flatMap rnV)::H) (p:=p) (o:=32 - (k:Int)) (oa:=oa) (n:=ns.length) (oc:=oc) (t:=t) (a:=a) ha hl
 generalize Z2 t a=q at *
 have nk:=fun w hw=>Z0k (F:=F) (M:=M) (H:=.row oa oc 95 6 ns.length (ns.flatMap rnV)::H) (p:=p) (o:=32 - (k:Int)) (oa:=oa) (n:=ns.length) (oc:=oc) (t:=t) (a:=q) (w:=w) hw hle hl
 have ns4:=Z1B (F:=F) (M:=M) (H:=.row oa oc 95 6 ns.length (ns.flatMap rnV)::H) (p:=p) (o:=32 - (k:Int)) (oa:=oa) (n:=ns.length) (oc:=oc) (t:=t) (a:=q) (k:=40) (.inl rfl) hle hl
 rw [hss] at nk ns4
 have nn:=nk kNot (by decide)
 have nh:=nk kHas (by decide)
 clear nk
 have l3:kNot.length=3:=rfl
 have l4:kHas.length=3:=rfl
 rw [l3] at nn
 rw [l4] at nh
 by_cases e1:wdX t q=kNot
 ·have hw:=Zu (by decide) e1
  rw [l3] at hw
  rw [decide_eq_true e1,if_pos e1] at nn
  rw [if_pos e1]
  have hen:=Z2h (F:=F) (M:=M) (H:=.row oa oc 95 6 ns.length (ns.flatMap rnV)::H) (p:=p) (t:=t) (a:=q+3) (o:=32 - (k:Int)) (oa:=oa) (n:=ns.length) (oc:=oc) (k:=k) (b:=q) rfl hk
  repeat' (first|((first|apply T.mv|apply T.asn);apply rfl;apply rfl)|(with_reducible first|refine Sr.nil ?_|refine S.seq ?_|refine S.reg ?_)|fail)
  refine T.call rfl rfl hnx ?_
  rintro _ _ ⟨rfl,rfl⟩
  repeat' (first|((first|apply T.mv|apply T.asn|apply T.nilCheck|apply T.fieldAddrZ);apply rfl;apply rfl)|(apply T.load;apply rfl;apply rfl;infer_instance;apply rfl;apply rfl)|(with_reducible first|refine Sr.nil ?_|refine S.seq ?_|refine S.block ?_|refine S.reg ?_)|(with_reducible apply T.ofRet)|fail)
  refine T.call rfl rfl nn ?_
  rintro _ _ ⟨rfl,rfl⟩
  repeat' (first|((first|apply T.mv|apply T.asn);apply rfl;apply rfl)|(with_reducible first|refine Sr.nil ?_|refine S.seq ?_|refine S.reg ?_)|(apply S.condTV;apply rfl;(first|with_reducible rfl|decide))|(with_reducible apply T.ofRet)|fail)
  refine T.call rfl rfl hen ?_
  cases k with
  | zero =>
   dsimp only
   rintro _ _ ⟨rfl,rfl⟩
   repeat' (first|(with_reducible apply T.diesW)|(with_reducible apply T.ofPan)|fail)
   exact ⟨_,PSub.drop (PSub.refl _),_,rfl,rfl⟩
  | succ d =>
   dsimp only
   rintro _ _ ⟨rfl,rfl⟩
   have hc:=ih d (by omega) (by omega) (q+3) ns oa oc (by omega) (by omega)
   have ho:=Z09 (t:=t) (d:=d) (p:=q+3) (by omega)
   cases hz:ZV t d (q+3) with
   | no c =>
    rw [hz] at hc
    repeat' (first|(apply T.mv;apply rfl;apply rfl)|(with_reducible first|refine Sr.nil ?_|refine S.seq ?_|refine S.reg ?_)|(with_reducible apply T.ofRet)|fail)
    refine T.call rfl rfl hc ?_
    rintro _ _ ⟨b,rfl,rfl⟩
    repeat' (first|(with_reducible apply T.diesW)|(with_reducible apply T.ofPan)|fail)
    exact ⟨_,PSub.refl _,_,rfl,rfl⟩
   | to r =>
    rw [hz] at hc ho
    obtain ⟨k1,k2⟩:=ho
    have he:(32:Int) - (d:Int) - 1=32 - ((d+1:Nat):Int):=by omega
    repeat' (first|(apply T.mv;apply rfl;apply rfl)|(with_reducible first|refine Sr.nil ?_|refine S.seq ?_|refine S.reg ?_)|(with_reducible apply T.ofRet)|fail)
    refine T.call rfl rfl hc ?_
    rintro _ _ ⟨i,oa3,oc3,ns3,rfl,hb3,rfl⟩
    repeat' (first|(apply T.subI;apply rfl;apply rfl;omega;apply rfl;rw [he])|((first|apply T.mv|apply T.asn|apply T.nilCheck|apply T.fieldAddrZ);apply rfl;apply rfl)|(apply T.load;apply rfl;apply rfl;infer_instance;apply rfl;apply rfl)|(apply T.buildL;(iterate 3 apply rfl))|(apply T.store;apply rfl;apply rfl;infer_instance;(first|decide|(simp;omega)|simp);apply rfl)|(with_reducible first|refine Sr.nil ?_|refine S.seq ?_|refine S.reg ?_)|(with_reducible apply T.ofRet)|fail)
    refine T.call rfl rfl (Z0j (ns:=ns3) (nd:=⟨3,i,-1,none,0,0,0,[]⟩) (by omega)) ?_
    rintro _ _ ⟨oa4,oc4,rfl,rfl⟩
    repeat' (first|(apply T.asn;apply rfl;apply rfl)|with_reducible refine Sr.nil ?_|(apply T.retW;apply rfl)|(with_reducible apply T.ofRet)|fail)
    have hL:(ns3++[(⟨3,i,-1,none,0,0,0,[]⟩:Rnd)]).length=ns3.length+1:=by rw [List.length_append];rfl
    exact ⟨_,PSub.refl _,_,_,_,_,rfl,by rw [hL];omega,rfl⟩
 ·rw [decide_eq_false e1,if_neg e1] at nn
  rw [if_neg e1]
  by_cases e2:wdX t q=kHas
  ·have hw:=Zu (by decide) e2
   rw [l4] at hw
   rw [decide_eq_true e2,if_pos e2] at nh
   rw [if_pos e2]
   have hc:=Z2R (F:=F) (M:=M) (H:=.row oa oc 95 6 ns.length (ns.flatMap rnV)::H) (p:=p) (o:=32 - (k:Int)) (oa:=oa) (n:=ns.length) (oc:=oc) (t:=t) (a:=q+3) hT hJ (by omega) hl
   have ho:=gpath_ok (t:=t) (p:=q+3)
   repeat' (first|((first|apply T.mv|apply T.asn);apply rfl;apply rfl)|(with_reducible first|refine Sr.nil ?_|refine S.seq ?_|refine S.reg ?_)|fail)
   refine T.call rfl rfl hnx ?_
   rintro _ _ ⟨rfl,rfl⟩
   repeat' (first|((first|apply T.mv|apply T.asn|apply T.nilCheck|apply T.fieldAddrZ);apply rfl;apply rfl)|(apply T.load;apply rfl;apply rfl;infer_instance;apply rfl;apply rfl)|(with_reducible first|refine Sr.nil ?_|refine S.seq ?_|refine S.block ?_|refine S.reg ?_)|(with_reducible apply T.ofRet)|fail)
   refine T.call rfl rfl nn ?_
   rintro _ _ ⟨rfl,rfl⟩
   repeat' (first|((first|apply T.mv|apply T.asn);apply rfl;apply rfl)|(with_reducible first|refine Sr.nil ?_|refine S.seq ?_|refine S.reg ?_)|(apply S.condFV;apply rfl;(first|with_reducible rfl|decide))|(with_reducible apply T.ofRet)|fail)
   refine T.call rfl rfl nh ?_
   rintro _ _ ⟨rfl,rfl⟩
   repeat' (first|((first|apply T.mv|apply T.asn);apply rfl;apply rfl)|(with_reducible first|refine Sr.nil ?_|refine S.seq ?_|refine S.reg ?_)|(apply S.condTV;apply rfl;(first|with_reducible rfl|decide))|(with_reducible apply T.ofRet)|fail)
   refine T.call rfl rfl hc ?_
   cases hz:Z17 t (q+3) with
   | no c =>
    rintro _ _ ⟨b,rfl,rfl⟩
    repeat' (first|(with_reducible apply T.diesW)|(with_reducible apply T.ofPan)|fail)
    exact ⟨_,PSub.drop (PSub.refl _),_,rfl,rfl⟩
   | to r =>
    rw [hz] at ho
    obtain ⟨k1,k2⟩:=ho
    rintro _ _ ⟨la,ln,lc,rfl,rfl⟩
    repeat' (first|(apply T.buildL;(iterate 3 apply rfl))|(with_reducible apply T.ofRet)|fail)
    refine T.call rfl rfl (Z0j (ns:=ns) (nd:=⟨4,-1,-1,la,ln,lc,0,[]⟩) (by omega)) ?_
    rintro _ _ ⟨oa4,oc4,rfl,rfl⟩
    repeat' (first|(apply T.asn;apply rfl;apply rfl)|with_reducible refine Sr.nil ?_|(apply T.retW;apply rfl)|(with_reducible apply T.ofRet)|fail)
    have hL:(ns++[(⟨4,-1,-1,la,ln,lc,0,[]⟩:Rnd)]).length=ns.length+1:=by rw [List.length_append];rfl
    exact ⟨_,PSub.refl _,_,_,_,_,rfl,by rw [hL];omega,rfl⟩
  ·rw [decide_eq_false e2,if_neg e2] at nh
   rw [if_neg e2]
   by_cases e3:q < t.length∧(t.getD q 0).toNat=40
   ·rw [decide_eq_true e3,if_pos e3] at ns4
    rw [if_pos e3]
    have hen:=Z2h (F:=F) (M:=M) (H:=.row oa oc 95 6 ns.length (ns.flatMap rnV)::H) (p:=p) (t:=t) (a:=q+1) (o:=32 - (k:Int)) (oa:=oa) (n:=ns.length) (oc:=oc) (k:=k) (b:=q) rfl hk
    repeat' (first|((first|apply T.mv|apply T.asn);apply rfl;apply rfl)|(with_reducible first|refine Sr.nil ?_|refine S.seq ?_|refine S.reg ?_)|fail)
    refine T.call rfl rfl hnx ?_
    rintro _ _ ⟨rfl,rfl⟩
    repeat' (first|((first|apply T.mv|apply T.asn|apply T.nilCheck|apply T.fieldAddrZ);apply rfl;apply rfl)|(apply T.load;apply rfl;apply rfl;infer_instance;apply rfl;apply rfl)|(with_reducible first|refine Sr.nil ?_|refine S.seq ?_|refine S.block ?_|refine S.reg ?_)|(with_reducible apply T.ofRet)|fail)
    refine T.call rfl rfl nn ?_
    rintro _ _ ⟨rfl,rfl⟩
    repeat' (first|((first|apply T.mv|apply T.asn);apply rfl;apply rfl)|(with_reducible first|refine Sr.nil ?_|refine S.seq ?_|refine S.reg ?_)|(apply S.condFV;apply rfl;(first|with_reducible rfl|decide))|(with_reducible apply T.ofRet)|fail)
    refine T.call rfl rfl nh ?_
    rintro _ _ ⟨rfl,rfl⟩
    repeat' (first|((first|apply T.mv|apply T.asn);apply rfl;apply rfl)|(with_reducible first|refine Sr.nil ?_|refine S.seq ?_|refine S.reg ?_)|(apply S.condFV;apply rfl;(first|with_reducible rfl|decide))|(with_reducible apply T.ofRet)|fail)
    refine T.call rfl rfl ns4 ?_
    rintro _ _ ⟨rfl,rfl⟩
    repeat' (first|((first|apply T.mv|apply T.asn);apply rfl;apply rfl)|(with_reducible first|refine Sr.nil ?_|refine S.seq ?_|refine S.reg ?_)|(apply S.condTV;apply rfl;(first|with_reducible rfl|decide))|(with_reducible apply T.ofRet)|fail)
    refine T.call rfl rfl hen ?_
    cases k with
    | zero =>
     dsimp only
     rintro _ _ ⟨rfl,rfl⟩
     repeat' (first|(with_reducible apply T.diesW)|(with_reducible apply T.ofPan)|fail)
     exact ⟨_,PSub.drop (PSub.refl _),_,rfl,rfl⟩
    | succ d =>
     dsimp only
     rintro _ _ ⟨rfl,rfl⟩
     have hok:∀ p,p≤t.length→RzO t (p+1) (ZV t d p):=fun _ h=>Z09 h
     have hc:=Z59 hl (fun _ h=>Z1q hok h) (Z5d hl hok (ih d (by omega) (by omega))) (q+1) ns oa oc (by omega) (by omega)
     have ho:=Z1p (t:=t) (p:=q+1) hok (by omega)
     have hgr:ZW t (ZW t (ZV t d) kAnd) kOr (q+1)=Z3l t (ZV t d) (q+1):=rfl
     rw [hgr] at hc
     cases hz:Z3l t (ZV t d) (q+1) with
     | no c =>
      rw [hz] at hc
      repeat' (first|(apply T.mv;apply rfl;apply rfl)|(with_reducible first|refine Sr.nil ?_|refine S.seq ?_|refine S.reg ?_)|(with_reducible apply T.ofRet)|fail)
      refine T.call rfl rfl hc ?_
      rintro _ _ ⟨b,rfl,rfl⟩
      repeat' (first|(with_reducible apply T.diesW)|(with_reducible apply T.ofPan)|fail)
      exact ⟨_,PSub.refl _,_,rfl,rfl⟩
     | to r =>
      rw [hz] at hc ho
      obtain ⟨k1,k2⟩:=ho
      have he:(32:Int) - (d:Int) - 1=32 - ((d+1:Nat):Int):=by omega
      repeat' (first|(apply T.mv;apply rfl;apply rfl)|(with_reducible first|refine Sr.nil ?_|refine S.seq ?_|refine S.reg ?_)|(with_reducible apply T.ofRet)|fail)
      refine T.call rfl rfl hc ?_
      rintro _ _ ⟨i,oa3,oc3,ns3,rfl,hb3,rfl⟩
      have hr6:=Zi (t:=t) (p:=r)
      repeat' (first|((first|apply T.mv|apply T.asn);apply rfl;apply rfl)|(with_reducible first|refine Sr.nil ?_|refine S.seq ?_|refine S.reg ?_)|(with_reducible apply T.ofRet)|fail)
      refine T.call rfl rfl (Z1B (k:=41) (.inr (.inl rfl)) k2 hl) ?_
      rintro _ _ ⟨rfl,rfl⟩
      rw [show Z4H t (.to r)=if Z2 t r < t.length∧(t.getD (Z2 t r) 0).toNat=41 then .to (Z2 t r+1) else .no 180 from rfl]
      generalize Z2 t r=u at *
      by_cases e4:u < t.length∧(t.getD u 0).toNat=41
      ·rw [decide_eq_true e4,if_pos e4,if_pos e4]
       repeat' (first|(apply T.subI;apply rfl;apply rfl;omega;apply rfl;rw [he])|((first|apply T.mv|apply T.asn|apply T.nilCheck|apply T.fieldAddrZ);apply rfl;apply rfl)|(apply T.load;apply rfl;apply rfl;infer_instance;apply rfl;apply rfl)|(apply T.notB;apply rfl;apply rfl)|(apply T.store;apply rfl;apply rfl;infer_instance;(first|decide|(simp;omega)|simp);apply rfl)|(with_reducible first|refine Sr.nil ?_|refine S.seq ?_|refine S.reg ?_|refine S.skip ?_)|(apply S.condFV;apply rfl;(first|with_reducible rfl|decide))|(apply T.retW;apply rfl)|(with_reducible apply T.ofRet)|fail)
       exact ⟨_,PSub.refl _,_,_,_,_,rfl,by omega,rfl⟩
      ·rw [decide_eq_false e4,if_neg e4,if_neg e4]
       repeat' (first|(apply T.mv;apply rfl;apply rfl)|(apply T.notB;apply rfl;apply rfl)|(with_reducible first|refine Sr.nil ?_|refine S.reg ?_)|(apply S.condTV;apply rfl;(first|with_reducible rfl|decide))|(with_reducible apply T.ofRet)|fail)
       refine T.call rfl rfl Zf ?_
       rintro _ _ ⟨rfl,rfl⟩
       repeat' (first|(with_reducible apply T.diesW)|(with_reducible apply T.ofPan)|fail)
       exact ⟨_,PSub.drop (PSub.refl _),_,rfl,rfl⟩
   ·rw [decide_eq_false e3,if_neg e3] at ns4
    rw [if_neg e3]
    have hc:=Z2R (F:=F) (M:=M) (H:=.row oa oc 95 6 ns.length (ns.flatMap rnV)::H) (p:=p) (o:=32 - (k:Int)) (oa:=oa) (n:=ns.length) (oc:=oc) (t:=t) (a:=q) hT hJ hle hl
    have ho:=gpath_ok (t:=t) (p:=q)
    unfold Z2i
    repeat' (first|((first|apply T.mv|apply T.asn);apply rfl;apply rfl)|(with_reducible first|refine Sr.nil ?_|refine S.seq ?_|refine S.reg ?_)|fail)
    refine T.call rfl rfl hnx ?_
    rintro _ _ ⟨rfl,rfl⟩
    repeat' (first|((first|apply T.mv|apply T.asn|apply T.nilCheck|apply T.fieldAddrZ);apply rfl;apply rfl)|(apply T.load;apply rfl;apply rfl;infer_instance;apply rfl;apply rfl)|(with_reducible first|refine Sr.nil ?_|refine S.seq ?_|refine S.block ?_|refine S.reg ?_)|(with_reducible apply T.ofRet)|fail)
    refine T.call rfl rfl nn ?_
    rintro _ _ ⟨rfl,rfl⟩
    repeat' (first|((first|apply T.mv|apply T.asn);apply rfl;apply rfl)|(with_reducible first|refine Sr.nil ?_|refine S.seq ?_|refine S.reg ?_)|(apply S.condFV;apply rfl;(first|with_reducible rfl|decide))|(with_reducible apply T.ofRet)|fail)
    refine T.call rfl rfl nh ?_
    rintro _ _ ⟨rfl,rfl⟩
    repeat' (first|((first|apply T.mv|apply T.asn);apply rfl;apply rfl)|(with_reducible first|refine Sr.nil ?_|refine S.seq ?_|refine S.reg ?_)|(apply S.condFV;apply rfl;(first|with_reducible rfl|decide))|(with_reducible apply T.ofRet)|fail)
    refine T.call rfl rfl ns4 ?_
    rintro _ _ ⟨rfl,rfl⟩
    repeat' (first|((first|apply T.mv|apply T.asn);apply rfl;apply rfl)|(with_reducible first|refine Sr.nil ?_|refine S.seq ?_|refine S.reg ?_|refine S.skip ?_|refine S.inBlock ?_)|(apply S.condFV;apply rfl;(first|with_reducible rfl|decide))|(with_reducible apply T.ofRet)|fail)
    refine T.call rfl rfl hc ?_
    cases hz:Z17 t q with
    | no c =>
     rintro _ _ ⟨b,rfl,rfl⟩
     repeat' (first|(with_reducible apply T.diesW)|(with_reducible apply T.ofPan)|fail)
     exact ⟨_,PSub.drop (PSub.refl _),_,rfl,rfl⟩
    | to r =>
     rw [hz] at ho
     obtain ⟨k1,k2⟩:=ho
     rintro _ _ ⟨la,ln,lc,rfl,rfl⟩
     dsimp only
     repeat' (first|(apply T.mv;apply rfl;apply rfl)|(apply T.buildL;(iterate 3 apply rfl))|(apply T.storeW;apply rfl;apply rfl;infer_instance;(first|rfl|(simp only [List.length_append,List.length_map,List.length_set,List.length_replicate,List.length_cons,List.length_nil];first|done|omega));(first|rfl|(simp only [List.length_append,List.length_map,List.length_set,List.length_replicate,List.length_cons,List.length_nil];first|done|omega));(first|rfl|(repeat' first|apply all_nV|apply all_bV|apply all_iV|rfl|apply all_app)))|(apply T.alloc;apply rfl;intro nb)|(with_reducible first|refine Sr.nil ?_|refine S.seq ?_|refine S.reg ?_)|(with_reducible apply T.ofRet)|fail)
     refine Sr.front p ?_
     have hop:=Z2v (F:=F) (M:=M) (H:=.blk nb (rnV ⟨0,-1,-1,la,ln,lc,0,[]⟩) 95::.row oa oc 95 6 ns.length (ns.flatMap rnV)::H) (p:=p) (o:=32 - (k:Int)) (oa:=oa) (n:=ns.length) (oc:=oc) (t:=t) (a:=r) hT k2 hl
     refine T.call rfl rfl hop ?_
     cases hg:gOp t r with
     | none =>
      rintro _ _ ⟨b,rfl,rfl⟩
      repeat' (first|(with_reducible apply T.diesW)|(with_reducible apply T.ofPan)|fail)
      exact ⟨_,PSub.drop (PSub.drop (PSub.refl _)),_,rfl,rfl⟩
     | some br =>
      obtain ⟨b,u⟩:=br
      obtain ⟨u1,u2⟩:=Z6I hg
      rintro _ _ ⟨z,rfl,hbz,rfl⟩
      dsimp only
      repeat' (first|((first|apply T.mv|apply T.fieldAddrZ);apply rfl;apply rfl)|(apply T.store;apply rfl;apply rfl;infer_instance;(first|decide|(simp;omega)|simp);apply rfl)|(with_reducible first|refine Sr.nil ?_|refine S.seq ?_|refine S.reg ?_)|(with_reducible apply T.ofRet)|fail)
      have hv:=Z4D (F:=F) (M:=M) (H:=.row oa oc 95 6 ns.length (ns.flatMap rnV)::H) (p:=p) (o:=32 - (k:Int)) (oa:=oa) (n:=ns.length) (oc:=oc) (t:=t) (a:=u) (nb:=nb) (nd:=⟨z,-1,-1,la,ln,lc,0,[]⟩) (only:=b) hJ hbz u2 hl
      refine T.call rfl rfl hv ?_
      have ho2:=gval_ok (t:=t) (p:=u) (only:=b)
      cases hz2:gVal t b u with
      | no c =>
       rintro _ _ ⟨b',rfl,rfl⟩
       repeat' (first|(with_reducible apply T.diesW)|(with_reducible apply T.ofPan)|fail)
       exact ⟨_,PSub.drop (PSub.refl _),_,rfl,rfl⟩
      | to w =>
       rw [hz2] at ho2
       obtain ⟨w1,w2⟩:=ho2
       rintro _ _ ⟨kd,tx,rfl,rfl⟩
       repeat' (first|(apply T.mv;apply rfl;apply rfl)|(apply T.loadW;apply rfl;apply rfl;infer_instance;(first|rfl|(simp only [List.length_append,List.length_map,List.length_set,List.length_replicate,List.length_cons,List.length_nil];first|done|omega));apply rfl)|(with_reducible first|refine Sr.nil ?_|refine S.seq ?_|refine S.reg ?_)|(with_reducible apply T.ofRet)|fail)
       refine Sr.sublist ?_ (PSub.take Z0 (PSub.drop (PSub.refl _)))
       refine T.call rfl rfl (Z0j (ns:=ns) (nd:=⟨z,-1,-1,la,ln,lc,kd,tx⟩) (by omega)) ?_
       rintro _ _ ⟨oa4,oc4,rfl,rfl⟩
       repeat' (first|(apply T.asn;apply rfl;apply rfl)|with_reducible refine Sr.nil ?_|(apply T.retW;apply rfl)|(with_reducible apply T.ofRet)|fail)
       have hL:(ns++[(⟨z,-1,-1,la,ln,lc,kd,tx⟩:Rnd)]).length=ns.length+1:=by rw [List.length_append];rfl
       exact ⟨_,PSub.refl _,_,_,_,_,rfl,by rw [hL];omega,rfl⟩
end
end Go.Proofs.YthomgjihagigcaaGreatDoor
/- The walk of the program's reader of rules: its face. -/
/- guards -/
namespace Go.Proofs.YthomgjihagigcaaGreatDoor
open Sg Go.IntWalk
set_option maxRecDepth 100000
set_option maxHeartbeats 4000000
section
variable {F:World} {M:List Nat} {H:List Res} {t s:List UInt8} {p oc n:Nat} {a:Nat} {o:Int} {oa:Option Addr} {k:Nat}
theorem D.sub {c:Ctx} {dr:Bool} {dd:List Deferred} {e:Env} {H':List Res} {chain:List PanicEntry} (h:D c dr dd H' chain e) (hs:PSub H' H):D c dr dd H chain e:=fun w a hw ha hd=>h w a (hw.psub hs) ha hd
abbrev rsR (b:Nat):Res:=.blk b [.slice none 0 0] 45
abbrev rcR (b:Nat) (c:Int):Res:=.blk b [.int .i64 c] 32
abbrev raR (b:Nat) (c:Int):Res:=.blk b [.int .i64 c] 3
theorem Z7Z {p q r:Nat}:MeetsR Tryz.prog 24 [.pointer (some ⟨p,0,none⟩),.pointer (some ⟨q,0,none⟩),.pointer (some ⟨r,0,none⟩)] .returning .returning F M H (fun e H'=>e=.returned (.tuple #[])∧H'=H):=by
 refine MeetsR.enter Tryz.func24 rfl rfl ?_
 repeat refine SD.seq ?_
 apply SD.recoverA;rfl;rfl;rfl;rfl
 repeat' (first|(apply T.mv;apply rfl;apply rfl)|(apply T.neqNil;apply rfl;apply rfl)|(with_reducible first|refine Sr.nil ?_|refine S.seq ?_|refine S.reg ?_|refine S.skip ?_)|(apply S.condFV;apply rfl;(first|with_reducible rfl|decide))|(apply T.doneW;apply rfl)|fail)
 exact ⟨_,.refl _,rfl,rfl⟩
theorem Z6m {p q r:Nat} {x y z:Value} {c b:Int}:MeetsR Tryz.prog 24 [.pointer (some ⟨p,0,none⟩),.pointer (some ⟨q,0,none⟩),.pointer (some ⟨r,0,none⟩)] (.panicking [gFlt c b]) (.panicking [{ gFlt c b with recovered:=true }]) F M (.blk r [z] 3::.blk q [y] 32::.blk p [x] 45::H)
  (fun e H'=>e=.returned (.tuple #[])∧H'=raR r b::rcR q c::rsR p::H):=by
 refine MeetsR.enter Tryz.func24 rfl rfl ?_
 repeat refine SD.seq ?_
 apply SD.recoverA;rfl;rfl;rfl;rfl
 repeat' (first|((first|apply T.mv|apply T.asn);apply rfl;apply rfl)|(apply T.extract;(iterate 3 apply rfl))|(apply T.notB;apply rfl;apply rfl)|(apply T.assert;(iterate 4 apply rfl))|(apply T.neqIf;apply rfl;apply rfl)|(apply T.storeW;apply rfl;apply rfl;infer_instance;(first|rfl|(simp only [List.length_append,List.length_map,List.length_set,List.length_replicate,List.length_cons,List.length_nil];first|done|omega));(first|rfl|(simp only [List.length_append,List.length_map,List.length_set,List.length_replicate,List.length_cons,List.length_nil];first|done|omega));(first|rfl|(repeat' first|apply all_nV|apply all_bV|apply all_iV|rfl|apply all_app)))|(apply T.alloc;apply rfl;intro nb)|(with_reducible first|refine Sr.nil ?_|refine S.seq ?_|refine S.reg ?_|refine S.skip ?_)|(apply S.condTV;apply rfl;(first|with_reducible rfl|decide))|(apply S.condFV;apply rfl;(first|with_reducible rfl|decide))|fail)
 (apply S.draw;(case Hs=>exact .blk nb [.int .i64 c,.int .i64 b] 69::H);(case es=>exact  [4,5,6]);(case n=>exact  7);(case hn=>rfl))
 repeat' (first|(apply T.fieldAddrZ;apply rfl;apply rfl)|(apply T.load;apply rfl;apply rfl;infer_instance;apply rfl;apply rfl)|(apply T.store;apply rfl;apply rfl;infer_instance;(first|decide|(simp;omega)|simp);apply rfl)|with_reducible refine Sr.nil ?_|(apply T.doneW;apply rfl)|(apply SA.qz;(iterate 4 apply rfl);kernel_rfl)|(apply SA.qsn;(iterate 3 apply rfl);kernel_rfl;(first|exact fun _ h=>h|exact fun _ h=>St.psub h (by ((repeat (first|dsimp only [List.set_cons_zero]|dsimp only [List.set_cons_succ]));repeat' first|exact PSub.refl _|exact PSub.nil|(with_reducible apply PSub.app)|(apply PSub.take;(repeat' first|(with_reducible exact Z0)|(with_reducible apply Z1)))|(with_reducible apply PSub.drop)|((apply PSub.take);(repeat' first|exact Z0|(apply Z1)))))))|(apply SA.en;apply rfl;apply rfl;kernel_rfl)|(apply SA.done;apply rfl;kernel_rfl)|(apply SK.intro;(first|exact fun _ h=>h|exact fun _ h=>St.psub h (by ((repeat (first|dsimp only [List.set_cons_zero]|dsimp only [List.set_cons_succ]));repeat' first|exact PSub.refl _|exact PSub.nil|(with_reducible apply PSub.app)|(apply PSub.take;(repeat' first|(with_reducible exact Z0)|(with_reducible apply Z1)))|(with_reducible apply PSub.drop)|((apply PSub.take);(repeat' first|exact Z0|(apply Z1)))))))|fail)
 exact ⟨raR r b::rcR q c::rsR p::H,by ((repeat (first|dsimp only [List.set_cons_zero]|dsimp only [List.set_cons_succ]));repeat' first|exact PSub.refl _|exact PSub.nil|(with_reducible apply PSub.app)|(apply PSub.take;(repeat' first|(with_reducible exact Z0)|(with_reducible apply Z1)))|(with_reducible apply PSub.drop)|((apply PSub.take);(repeat' first|exact Z0|(apply Z1)))),rfl,rfl⟩
theorem Z4E (hT:GtT F M) (hJ:Tabs F M):Meets Tryz.prog 17 [sV t] F M H (fun e H'=>∃ (ra:Option Addr) (rn rc:Nat) (b:Int),e=.returned (.tuple ⟨[.slice ra rn rc,.int .i64 (Z4p t),.int .i64 b]⟩)∧H'=H):=by
 refine Meets.enter Tryz.func17 rfl rfl ?_
 unfold Z4p
 by_cases hl:1024 < t.length
 ·rw [if_pos hl]
  repeat' (first|((first|apply T.slen|apply T.mv);apply rfl;apply rfl)|(apply T.gtr;(iterate 3 apply rfl))|(apply T.store;apply rfl;apply rfl;infer_instance;(first|decide|(simp;omega)|simp);apply rfl)|(apply T.alloc;apply rfl;intro nb)|(with_reducible first|refine Sr.nil ?_|refine S.seq ?_|refine S.reg ?_)|(apply S.condQ;apply rfl;all_goals (intro _;try (exfalso;first|omega|with_reducible contradiction)))|(apply T.retC;apply rfl;((repeat' first|apply RV.nil|(apply RV.tmp;apply rfl)|(apply RV.cellW;apply rfl;apply rfl;infer_instance;(first|rfl|(simp only [List.length_append,List.length_map,List.length_set,List.length_replicate,List.length_cons,List.length_nil];first|done|omega)))|(apply RV.cellP;apply rfl;apply rfl;infer_instance;apply rfl)));apply rfl)|fail)
  exact ⟨_,PSub.drop (PSub.drop (PSub.drop (PSub.refl _))),none,0,0,0,rfl,rfl⟩
 ·rw [if_neg hl]
  have hl2:t.length≤1024:=by omega
  have hfl:Tryz.f17.results=(#[.cell 2 45,.cell 3 32,.cell 4 3]:Array ResultVar):=rfl
  have hok:∀ p,p≤t.length→RzO t (p+1) (ZV t 32 p):=fun _ h=>Z09 h
  have hc:=fun p H=>Z59 hl2 (fun _ h=>Z1q hok h) (Z5d hl2 hok (Z5U (F:=F) (M:=M) (H:=H) (p:=p) hT hJ hl2 32 (Nat.le_refl _))) 0 [] none 0 (Nat.zero_le _) (Nat.zero_le _)
  have h0:(32:Int) - ((32:Nat):Int)=0:=by decide
  have hgr:ZW t (ZW t (ZV t 32) kAnd) kOr 0=Z3l t (ZV t 32) 0:=rfl
  rw [h0,hgr] at hc
  have ho:=Z1p (t:=t) (p:=0) hok (Nat.zero_le _)
  repeat' (first|((first|apply T.slen|apply T.mv|apply T.asn);apply rfl;apply rfl)|(apply T.gtr;(iterate 3 apply rfl))|(apply T.buildL;(iterate 3 apply rfl))|(apply T.alloc;apply rfl;intro nb)|(apply T.box;apply rfl;apply rfl;intro nb)|(apply S.deferM;apply rfl;apply rfl)|(with_reducible first|refine Sr.nil ?_|refine S.seq ?_|refine S.reg ?_|refine S.skip ?_)|(apply S.condQ;apply rfl;all_goals (intro _;try (exfalso;first|omega|with_reducible contradiction)))|fail)
  refine Sr.nilrow 95 6 ?_
  refine Sr.front nb ?_
  refine T.call rfl rfl (hc nb _) ?_
  cases hz:Z3l t (ZV t 32) 0 with
  | no c =>
   rintro _ _ ⟨b,rfl,rfl⟩
   refine T.ofPan ?_
   refine D.recovered HFn.h hfl rfl rfl Z6m ?_
   rintro _ _ ⟨rfl,rfl⟩
   refine ⟨⟨_,rfl⟩,[.slice none 0 0,.int .i64 c,.int .i64 b],?_,H,fun w h=>h.psub (PSub.drop (PSub.drop (PSub.drop (PSub.refl _)))),none,0,0,b,rfl,rfl⟩
   (repeat' first|apply RV.nil|(apply RV.cellP;apply rfl;apply rfl;infer_instance;apply rfl))
  | to q =>
   rw [hz] at ho
   rintro _ _ ⟨i,oa,oc,ns,rfl,hb,rfl⟩
   dsimp only
   repeat' (first|(apply T.mv;apply rfl;apply rfl)|(with_reducible first|refine Sr.nil ?_|refine S.seq ?_|refine S.reg ?_)|(with_reducible apply T.ofRet)|fail)
   refine T.call rfl rfl (ZP ho.2 hl2) ?_
   rintro _ _ ⟨rfl,rfl⟩
   have hend:=@kd_end t (Z2 t q)
   by_cases h1:Z2 t q < t.length
   ·rw [if_pos h1]
    have h2:kdX t (Z2 t q)≠0:=fun h=>hend.1 h h1
    repeat' (first|(apply T.mv;apply rfl;apply rfl)|(apply T.neq;(iterate 3 apply rfl))|(with_reducible first|refine Sr.nil ?_|refine S.reg ?_)|(apply S.condQ;apply rfl;all_goals (intro _;try (exfalso;first|omega|with_reducible contradiction)))|(with_reducible apply T.ofRet)|fail)
    refine T.call rfl rfl Zf ?_
    rintro _ _ ⟨rfl,rfl⟩
    refine T.ofPan ?_
    refine D.sub ?_ (PSub.drop (PSub.refl _))
    refine D.recovered HFn.h hfl rfl rfl Z6m ?_
    rintro _ _ ⟨rfl,rfl⟩
    refine ⟨⟨_,rfl⟩,[.slice none 0 0,.int .i64 180,.int .i64 (Z2 t q:Nat)],?_,H,fun w h=>h.psub (PSub.drop (PSub.drop (PSub.drop (PSub.refl _)))),none,0,0,_,rfl,rfl⟩
    (repeat' first|apply RV.nil|(apply RV.cellP;apply rfl;apply rfl;infer_instance;apply rfl))
   ·rw [if_neg h1]
    have h2:=hend.2 h1
    repeat' (first|((first|apply T.mv|apply T.nilCheck|apply T.fieldAddrZ);apply rfl;apply rfl)|(apply T.load;apply rfl;apply rfl;infer_instance;apply rfl;apply rfl)|(apply T.neq;(iterate 3 apply rfl))|(apply T.store;apply rfl;apply rfl;infer_instance;(first|decide|(simp;omega)|simp);apply rfl)|(with_reducible first|refine Sr.nil ?_|refine S.seq ?_|refine S.reg ?_|refine S.skip ?_)|(apply S.condQ;apply rfl;all_goals (intro _;try (exfalso;first|omega|with_reducible contradiction)))|(with_reducible apply T.ofRet)|fail)
    refine T.retDr hfl rfl rfl Z7Z ?_
    rintro _ _ ⟨rfl,rfl⟩
    refine ⟨⟨_,rfl⟩,[.slice oa ns.length oc,.int .i64 0,.int .i64 0],?_,H,fun w h=>h.psub (PSub.drop (PSub.drop (PSub.drop (PSub.drop (PSub.drop (PSub.refl _)))))),oa,_,oc,0,rfl,rfl⟩
    (repeat' first|apply RV.nil|(apply RV.cellP;apply rfl;apply rfl;infer_instance;apply rfl))
end
end Go.Proofs.YthomgjihagigcaaGreatDoor
