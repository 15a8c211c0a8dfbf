/- Texts put together by a program: JrfL JrfM JrfN PlnC. -/
import Derived.Test.YtjajcmedipjfhaaGreatDoorMr
import Derived.Test.YtjajcmedipjfhaaGreatDoorMb
import Derived.Test.YtjajcmedipjfhaaGreatDoorMl
/- The walks of the document's reader of JSON: items and rows. -/
namespace Go.Proofs.YtjajcmedipjfhaaGreatDoor
open Sg Go.IntWalk
set_option maxRecDepth 100000
set_option maxHeartbeats 4000000
section
variable {F:World} {M:List Nat} {H:List Res} {t:List UInt8} {p:Nat}
theorem Z5v {na:Option Addr} {nc n:Nat} {ns:List (List UInt8)} {s:List UInt8} [Rd F M H na (ns.map sV)] (hn:ns.length=n) (hl:n≤1000000000):Meets Tryz.prog 86 [.slice na n nc,sV s] F M H (fun e H'=>e=.returned (.bool (decide (s∈ns)))∧H'=H):=by
 subst hn
 refine Meets.enter Tryz.func86 rfl rfl ?_
 repeat' (first|refine Sg.Y1 ?_|fail)
 refine S.loopE 0 [0,1] (fun R b' μ H' e=>∃ i:Nat,H'=R∧e=(5,.int .i64 i)::b'∧(i≤ns.length∧decide (s∈ns)=decide (s∈ns.drop i))∧μ=ns.length - i) rfl rfl ?_ _ _ ⟨0,rfl,rfl,⟨Nat.zero_le _,rfl⟩,rfl⟩ (by repeat' first|exact trivial|refine And.intro rfl ?_)
 rintro _ _ _ ⟨i,rfl,rfl,⟨h1,h2⟩,rfl⟩ ih
 by_cases h3:i < ns.length
 ·have hd:ns.drop i=ns.getD i []::ns.drop (i+1):=by
   rw [List.drop_eq_getElem_cons h3]
   simp [List.getD,h3]
  by_cases h4:ns.getD i []=s
  ·rw [h2,decide_eq_true (by rw [hd,h4];exact List.mem_cons_self ..)]
   repeat' (first|refine Sg.Y3 ?_|(apply S.condQ;apply rfl;all_goals intro _)|fail)
   exact ⟨_,PSub.refl _,rfl,rfl⟩
  ·have hs:decide (s∈ns.drop i)=decide (s∈ns.drop (i+1)):=by
    rw [hd]
    simp only [List.mem_cons,eq_comm (a:=s),h4,false_or]
   repeat' (first|refine Sg.Y3 ?_|(apply S.condQ;apply rfl;all_goals intro _)|fail)
   exact ih _ _ _ _ ⟨i+1,rfl,rfl,⟨by omega,h2.trans hs⟩,rfl⟩ (by omega) (by repeat' first|exact trivial|refine And.intro rfl ?_)
 ·obtain rfl:i=ns.length:=by omega
  rw [h2,List.drop_length]
  repeat' (first|refine Sg.Y3 ?_|(apply S.condQ;apply rfl;all_goals intro _)|fail)
  exact ⟨_,PSub.refl _,rfl,rfl⟩
def ItE (obj:Bool) (H:List Res):Gt (List Nd × List UInt8)→Ending→List Res→Prop
 | .ok a g=>fun e H'=>∃ oa oc s,e=.returned (.agg ⟨goV a (.slice oa g.1.length oc) s 0 0⟩)∧H'=ouR oa oc g.1::H∧(obj=true→s=g.2)
 | .bad c b=>fun e H'=>∃ s,e=.returned (.agg ⟨goV 0 noL s c b⟩)∧H'=H
theorem Z6c {val:Nat→Gt (List Nd)} {o:Nat} {obj:Bool} {na:Option Addr} {nc n:Nat} {ns:List (List UInt8)} [Rd F M H na (ns.map sV)] (hR:ValR t val)
  (hv:∀ {X:List Res} {q:Nat},q≤t.length→Meets Tryz.prog 90 [sV t,.int .i64 q,.int .i64 o] F M X (VaE X (val q)))
  (hn:ns.length=n) (hln:n≤1000000000) (hp:p≤t.length) (hl:t.length≤262144) :
  Meets Tryz.prog 142 [sV t,.int .i64 p,.bool obj,.slice na n nc,.int .i64 o] F M H (ItE obj H (Z0O val t obj p ns)):=by
 refine Meets.enter Tryz.func142 rfl rfl ?_
 unfold Z0O
 cases obj with
 | false =>
  rw [if_neg (by decide)]
  repeat' (first|(apply T.alloc;apply rfl;intro nb)|refine Sg.Y1 ?_|fail)
  refine T.call rfl rfl (hv hp) ?_
  have hnm:=hR.named p hp
  cases hx:val p with
  | bad c b =>
   rintro _ _ ⟨s,rfl,rfl⟩
   repeat' (first|refine Sg.Y2 ?_|fail)
   exact ⟨_,PSub.drop (PSub.refl _),s,rfl,rfl⟩
  | ok a l =>
   rintro _ _ ⟨oa,oc,s,rfl,rfl⟩
   repeat' (first|refine Sg.Y2 ?_|fail)
   exact ⟨_,PSub.take Z0 (PSub.drop (PSub.refl _)),oa,oc,s,rfl,rfl,fun h=>by cases h⟩
 | true =>
  rw [if_pos rfl,ZO (by decide)]
  by_cases h1:bAt t p=34
  ·have hlt:=Zd (t:=t) (p:=p) (by omega)
   have e1:(p:Int)+1=((p+1:Nat):Int):=by omega
   have hI:=Z0q h1 (by omega)
   rw [if_pos (by rw [decide_eq_true_eq];exact h1)]
   repeat' (first|(apply T.alloc;apply rfl;intro nb)|refine Sg.Y1 ?_|fail)
   refine T.call rfl rfl Z9 ?_
   rintro _ _ ⟨rfl,rfl⟩
   rw [hI]
   repeat' (first|(apply T.addI;apply rfl;apply rfl;omega;apply rfl;rw [e1])|refine Sg.Y1 ?_|fail)
   refine T.call rfl rfl (Z2f (p:=p+1) (by omega) hl) ?_
   have hqn:=Z0V (t:=t) (p:=p+1) (by omega)
   have hqf:=ZF (t:=t) (p:=p+1) (by omega)
   cases hx:ZB t (p+1) with
   | bad c b =>
    have hc:=hqn c b hx
    rintro _ _ ⟨⟨s,rfl⟩,rfl⟩
    repeat' (first|(apply T.alloc;apply rfl;intro nb)|refine Sg.Y3 ?_|(apply S.condQ;apply rfl;all_goals intro _)|fail)
    exact ⟨_,PSub.drop (PSub.drop (PSub.refl _)),s,rfl,rfl⟩
   | ok a s =>
    obtain ⟨hf1,hf2⟩:=hqf a s hx
    rintro _ _ ⟨rfl,rfl⟩
    repeat' (first|(apply T.alloc;apply rfl;intro nb)|refine Sg.Y1 ?_|fail)
    refine T.call rfl rfl (Z5v hn hln) ?_
    rintro _ _ ⟨rfl,rfl⟩
    show Sr _ _ _ _ _ _ _ _
    by_cases hm:s∈ns
    ·rw [decide_eq_true hm]
     show Sr _ _ _ _ _ _ _ _
     simp only [Gt.bind,hm,if_true]
     repeat' (first|refine Sg.Y1 ?_|fail)
     refine T.call rfl rfl Zc ?_
     rintro _ _ ⟨rfl,rfl⟩
     repeat' (first|refine Sg.Y2 ?_|fail)
     exact ⟨_,PSub.drop (PSub.drop (PSub.refl _)),[],rfl,rfl⟩
    ·rw [decide_eq_false hm]
     simp only [Gt.bind,hm,if_false]
     have hs1:=Zh hf2
     have hs2:=Zp t a
     repeat' (first|refine Sg.Y1 ?_|fail)
     refine T.call rfl rfl (ZT hf2 (by omega)) ?_
     rintro _ _ ⟨rfl,rfl⟩
     generalize hw:Z3 t a=w at *
     repeat' (first|refine Sg.Y1 ?_|fail)
     refine T.call rfl rfl Z9 ?_
     rintro _ _ ⟨rfl,rfl⟩
     rw [ZO (by decide)]
     by_cases h2:bAt t w=58
     ·have hlt2:=Zd (t:=t) (p:=w) (by omega)
      have e2:(w:Int)+1=((w+1:Nat):Int):=by omega
      have hs3:=Zh (t:=t) (p:=w+1) (by omega)
      rw [Z0q h2 (by omega)]
      simp only [show bAt t w=(58:UInt8).toNat from h2,decide_true,if_true]
      repeat' (first|(apply T.addI;apply rfl;apply rfl;omega;apply rfl;rw [e2])|refine Sg.Y1 ?_|fail)
      refine T.call rfl rfl (ZT (p:=w+1) (by omega) (by omega)) ?_
      rintro _ _ ⟨rfl,rfl⟩
      generalize Z3 t (w+1)=u at *
      repeat' (first|(apply T.mv;apply rfl;apply rfl)|(with_reducible apply T.ofRet)|fail)
      refine T.call rfl rfl (hv hs3) ?_
      have hnm:=hR.named u hs3
      cases hy:val u with
      | bad c b =>
       have hc:=hnm c b hy
       rintro _ _ ⟨s',rfl,rfl⟩
       repeat' (first|(apply T.alloc;apply rfl;intro nb)|refine Sg.Y3 ?_|(apply S.condQ;apply rfl;all_goals intro _)|fail)
       exact ⟨_,PSub.drop (PSub.drop (PSub.drop (PSub.refl _))),s',rfl,rfl⟩
      | ok d l =>
       obtain ⟨nd0,m0,l0,rfl,-,-⟩:=(hR.fo hy).one_inv
       rintro _ _ ⟨oa,oc,s',rfl,rfl⟩
       have hln:(nd0::l0).length=l0.length+1:=rfl
       repeat' (first|(refine T.ixF (g:=ndV) (sz:=6) (i:=0) (xs:=nd0::l0) rfl rfl inferInstance (fun _=>rfl) rfl (by omega) (by omega) rfl ?_)|(refine T.storeF (g:=ndV) (nd0.named s) rfl rfl inferInstance (fun _=>rfl) rfl rfl rfl rfl ?_)|(apply T.alloc;apply rfl;intro nb)|refine Sg.Y1 ?_|fail)
       exact ⟨_,PSub.drop (PSub.take Z0 (PSub.drop (PSub.drop (PSub.refl _)))),oa,oc,s,rfl,rfl,fun _=>rfl⟩
     ·have hI:=ZY h2
      simp only [show ¬bAt t w=(58:UInt8).toNat from h2,decide_false,Bool.false_eq_true,if_false]
      repeat' (first|refine Sg.Y3 ?_|(apply S.condQ;apply rfl;all_goals intro _)|fail)
      refine T.call rfl rfl Zc ?_
      rintro _ _ ⟨rfl,rfl⟩
      repeat' (first|refine Sg.Y2 ?_|fail)
      exact ⟨_,PSub.drop (PSub.drop (PSub.refl _)),[],rfl,rfl⟩
  ·have hI:=ZY h1
   rw [if_neg (by rw [decide_eq_true_eq];exact h1)]
   repeat' (first|(apply T.alloc;apply rfl;intro nb)|refine Sg.Y1 ?_|fail)
   refine T.call rfl rfl Z9 ?_
   rintro _ _ ⟨rfl,rfl⟩
   repeat' (first|refine Sg.Y3 ?_|(apply S.condQ;apply rfl;all_goals intro _)|fail)
   refine T.call rfl rfl Zc ?_
   rintro _ _ ⟨rfl,rfl⟩
   repeat' (first|refine Sg.Y2 ?_|fail)
   exact ⟨_,PSub.drop (PSub.refl _),[],rfl,rfl⟩
end
end Go.Proofs.YtjajcmedipjfhaaGreatDoor
/- The walks of the document's reader of JSON: what stands in brackets. -/
namespace Go.Proofs.YtjajcmedipjfhaaGreatDoor
open Sg Go.IntWalk
set_option maxRecDepth 100000
set_option maxHeartbeats 4000000
section
variable {F:World} {M:List Nat} {H:List Res} {t:List UInt8} {p:Nat}
def Z2T (obj:Bool):Int:=if obj=true then 7 else 6
def Z56 (obj:Bool):Int:=if obj=true then 125 else 93
theorem Z79 {val:Nat→Gt (List Nd)} {o:Nat} {obj:Bool} (hR:ValR t val)
  (hv:∀ {X:List Res} {q:Nat},q≤t.length→Meets Tryz.prog 90 [sV t,.int .i64 q,.int .i64 o] F M X (VaE X (val q)))
  (hp:p < t.length) (hl:t.length≤262144) :
  Meets Tryz.prog 118 [sV t,.int .i64 p,.bool obj,.int .i64 o] F M H (VaE H (if atB t (Z3 t (p+1)) (Z06 obj) then .ok (Z3 t (p+1)+1) [nd (Z2T obj)] else rowX val t obj (t.length+1) (Z3 t (p+1)) [] (nd (Z2T obj)) [])):=by
 refine Meets.enter Tryz.func118 rfl rfl ?_
 have hcl:∀ q,atB t q (Z06 obj)=decide (bAt t q=(Z06 obj).toNat):=fun q=>ZO (by cases obj<;>decide)
 have hcz:((Z06 obj).toNat:Int)=Z56 obj:=by cases obj<;>rfl
 have hcp:0 < (Z06 obj).toNat:=by cases obj<;>decide
 refine S.seq ?_
 repeat' (first|(apply T.alloc;apply rfl;intro nb)|with_reducible refine Sr.nil ?_|with_reducible refine S.reg ?_|fail)
 revert nb
 intro b8
 refine S.seq ?_
 repeat' (first|refine Sg.Y10 ?_|fail)
 refine S.seq ?_
 refine S.cut (fun H' e'=>H'=.blk b8 (goV 0 noL [] 0 0) 139::H∧e'=[(0,sV t),(1,.int .i64 p),(2,.bool obj),(3,.int .i64 o),(8,.pointer (some ⟨b8,0,none⟩)),(9,.int .i64 (Z2T obj)),(10,.int .i64 (Z56 obj))]) ?_ ?_
 ·intro k' hrest
  cases obj with
  | true =>
   repeat' (first|refine Sg.Y9 ?_|fail)
   exact hrest _ _ _ ⟨rfl,rfl⟩ (by repeat' first|exact trivial|refine And.intro rfl ?_)
  | false =>
   repeat' (first|refine Sg.Y9 ?_|fail)
   exact hrest _ _ _ ⟨rfl,rfl⟩ (by repeat' first|exact trivial|refine And.intro rfl ?_)
 rintro _ _ ⟨rfl,rfl⟩
 have e1:(p:Int)+1=((p+1:Nat):Int):=by omega
 have hs1:=Zh (t:=t) (p:=p+1) hp
 have hs2:=Zp t (p+1)
 repeat' (first|(apply T.addI;apply rfl;apply rfl;omega;apply rfl;rw [e1])|(apply T.bsL;(iterate 5 apply rfl);intro nb)|refine Sg.Y9 ?_|fail)
 refine T.call rfl rfl (ZT (p:=p+1) hp (by omega)) ?_
 rintro _ _ ⟨rfl,rfl⟩
 generalize Z3 t (p+1)=w at *
 repeat' (first|(refine Sr.rowOfN (n:=1) (sz:=6) rfl (by decide) ?_)|refine Sg.Y9 ?_|fail)
 refine T.call rfl rfl Z9 ?_
 rintro _ _ ⟨rfl,rfl⟩
 rw [hcl]
 by_cases h1:bAt t w=(Z06 obj).toNat
 ·have hI:Z2Z t w=Z56 obj:=by rw [Z0q h1 hcp,hcz]
  have hlt:=Zd (t:=t) (p:=w) (by omega)
  rw [if_pos (decide_eq_true h1)]
  repeat' (first|refine Sg.Y8 ?_|(apply S.condQ;apply rfl;all_goals intro _)|fail)
  exact ⟨_,PSub.take Z0 (PSub.drop (PSub.refl _)),_,_,[],rfl,rfl⟩
 have hI:¬Z2Z t w=Z56 obj:=by rw [←hcz];exact ZY h1
 rw [if_neg (by rw [decide_eq_true_eq];exact h1)]
 generalize hQ:rowX val t obj (t.length+1) w [] (nd (Z2T obj)) []=Q
 have hr0:([nd (Z2T obj)]:List Nd).flatMap ndV=ndV (nd (Z2T obj)):=by simp
 refine Sr.nilrow 9 1 ?_
 repeat' (first|refine Sg.Y8 ?_|(apply S.condQ;apply rfl;all_goals intro _)|fail)
 refine S.loopE 2 [0,2,3,8,10] (fun R b' μ H' e=>∃ (q f m nc rc:Nat) (na ra:Option Addr) (ns nms:List (List UInt8)) (hd:Nd) (out:List Nd),H'=.row na nc 9 1 m (ns.map sV)::ouR ra rc (hd::out)::R∧e=(1,.int .i64 q)::(11,.slice ra (hd::out).length rc)::(12,.slice na m nc)::b'∧(q≤t.length∧t.length < q+f∧ns.length=m∧m≤q∧out.length≤q∧(0≤hd.kids∧hd.kids≤(q:Int))∧rowX val t obj f q nms hd out=Q∧(obj=true→nms=ns))∧μ=t.length - q) rfl rfl ?_ _ _ ⟨w,t.length+1,0,0,1,none,_,[],[],nd (Z2T obj),[],rfl,rfl,⟨hs1,by omega,rfl,Nat.zero_le _,Nat.zero_le _,⟨(by decide:(0:Int)≤0),(show (0:Int)≤(w:Int) by omega)⟩,hQ,fun _=>rfl⟩,rfl⟩ (by repeat' first|exact trivial|refine And.intro rfl ?_)
 clear hQ h1 hI hs1 hs2 hr0
 rintro _ _ _ ⟨q,f,m,nc,rc,na,ra,ns,nms,hd,out,rfl,rfl,⟨h1,h2,h3,h4,h5,⟨h6,h7⟩,h8,h9⟩,rfl⟩ ih
 obtain ⟨f,rfl⟩:∃ g,f=g+1:=⟨f - 1,by omega⟩
 have hit:Z0O val t obj q nms=Z0O val t obj q ns:=by
  cases obj with
  | false=>rfl
  | true=>rw [h9 rfl]
 rw [rowX,hit] at h8
 have hfit:=Z3Y (names:=ns) (obj:=obj) hR h1
 have hnam:=Z4Y (names:=ns) (obj:=obj) hR h1
 repeat' (first|refine Sg.Y9 ?_|fail)
 refine T.call rfl rfl (Z6c (ns:=ns) hR hv h3 (by omega) h1 hl) ?_
 cases hi:Z0O val t obj q ns with
 | bad c b =>
  have hc:=hnam c b hi
  rw [hi] at h8
  rw [←h8]
  rintro _ _ ⟨s,rfl,rfl⟩
  repeat' (first|(apply T.alloc;apply rfl;intro nb)|refine Sg.Y8 ?_|(apply S.condQ;apply rfl;all_goals intro _)|fail)
  exact ⟨_,PSub.drop (PSub.drop (PSub.drop (PSub.drop (PSub.refl _)))),s,rfl,rfl⟩
 | ok a g =>
  obtain ⟨hf1,hf2⟩:=hfit a g hi
  obtain ⟨hz,-⟩:=Zax (fun {p a l}=>hR.sz) h1 hi
  have hz1:=hz.1
  rw [hi] at h8
  have h8':rowE t obj (fun p'=>rowX val t obj f p' (nms++[g.2]) hd.more (out++g.1)) a (hd.more::(out++g.1))=Q:=h8
  clear h8
  rintro _ _ ⟨oa,oc,s,rfl,rfl,hs⟩
  have hs1:=Zh hf2
  have hs2:=Zp t a
  have hln:(hd::out).length=out.length+1:=rfl
  have hla:(hd::out++g.1).length=out.length+1+g.1.length:=by rw [List.length_append];rfl
  repeat' (first|(refine T.appendAllF (g:=ndV) (xs:=hd::out) (us:=g.1) rfl rfl inferInstance inferInstance rfl (fun _=>rfl) (fun _=>rfl) rfl rfl (by constructor<;>omega) rfl ?_;intro ra' rc')|(refine T.ixF (g:=ndV) (sz:=6) (i:=0) (xs:=hd::out++g.1) rfl rfl inferInstance (fun _=>rfl) rfl (by omega) (by rw [List.length_append];omega) rfl ?_)|(refine T.loadF (g:=ndV) (sz:=6) (i:=0) (f:=5) (xs:=hd::out++g.1) (a:=hd) rfl rfl inferInstance (fun _=>rfl) rfl rfl rfl rfl ?_)|(refine T.storeF (g:=ndV) hd.more rfl rfl inferInstance (fun _=>rfl) rfl rfl rfl rfl ?_)|(apply T.alloc;apply rfl;intro nb)|(apply T.bs;(iterate 6 apply rfl);intro nb)|(apply T.append;apply rfl;apply rfl;infer_instance;(first|rfl|(simp;done));(first|rfl|(simp;done));apply rfl;apply rfl;(constructor<;>omega);apply rfl;intro na nc)|refine Sg.Y9 ?_|fail)
  refine T.call rfl rfl (ZT hf2 (by omega)) ?_
  rintro _ _ ⟨rfl,rfl⟩
  unfold rowE at h8'
  generalize Z3 t a=w2 at *
  repeat' (first|refine Sg.Y9 ?_|fail)
  refine T.call rfl rfl Z9 ?_
  rintro _ _ ⟨rfl,rfl⟩
  rw [hcl] at h8'
  have hlm:(hd.more::(out++g.1)).length=(hd::out).length+g.1.length:=by simp only [List.length_cons,List.length_append];omega
  rw [←hlm,show ns.map sV++[sV s]=(ns++[s]).map sV from by rw [List.map_append];rfl,show (hd::out++g.1).set 0 hd.more=hd.more::(out++g.1) from rfl]
  by_cases k1:bAt t w2=(Z06 obj).toNat
  ·have hI:Z2Z t w2=Z56 obj:=by rw [Z0q k1 hcp,hcz]
   have hlt:=Zd (t:=t) (p:=w2) (by omega)
   rw [if_pos (decide_eq_true k1)] at h8'
   rw [←h8']
   repeat' (first|refine Sg.Y8 ?_|(apply S.condQ;apply rfl;all_goals intro _)|fail)
   exact ⟨_,PSub.drop (PSub.drop (PSub.drop (PSub.take Z0 (PSub.drop (PSub.refl _))))),ra',rc',[],rfl,rfl⟩
  have hI:¬Z2Z t w2=Z56 obj:=by rw [←hcz];exact ZY k1
  rw [if_neg (by rw [decide_eq_true_eq];exact k1),ZO (by decide)] at h8'
  by_cases k2:bAt t w2=44
  ·have hlt:=Zd (t:=t) (p:=w2) (by omega)
   have e2:(w2:Int)+1=((w2+1:Nat):Int):=by omega
   have hs3:=Zh (t:=t) (p:=w2+1) (by omega)
   have hs4:=Zp t (w2+1)
   have hI2:=Z0q k2 (by omega)
   rw [if_pos (by rw [decide_eq_true_eq];exact k2)] at h8'
   repeat' (first|(apply T.addI;apply rfl;apply rfl;omega;apply rfl;rw [e2])|refine Sg.Y8 ?_|(apply S.condQ;apply rfl;all_goals intro _)|fail)
   refine T.call rfl rfl (ZT (p:=w2+1) (by omega) (by omega)) ?_
   rintro _ _ ⟨rfl,rfl⟩
   generalize Z3 t (w2+1)=u at *
   repeat' (first|refine Sg.Y10 ?_|fail)
   refine S.sublist ?_ (PSub.drop (PSub.drop (PSub.refl _)))
   exact ih _ _ _ _ ⟨u,f,m+1,nc,rc',na,ra',ns++[s],nms++[g.2],hd.more,out++g.1,rfl,rfl,⟨hs3,by omega,by rw [List.length_append,h3];rfl,by omega,by rw [List.length_append];omega,⟨by simp only [Nd.more];omega,by simp only [Nd.more];omega⟩,h8',fun ho=>by rw [h9 ho,hs ho]⟩,rfl⟩ (by omega) (by repeat' first|exact trivial|refine And.intro rfl ?_)
  ·have hI2:=ZY k2
   rw [if_neg (by rw [decide_eq_true_eq];exact k2)] at h8'
   rw [←h8']
   repeat' (first|refine Sg.Y8 ?_|(apply S.condQ;apply rfl;all_goals intro _)|fail)
   refine T.call rfl rfl Zc ?_
   rintro _ _ ⟨rfl,rfl⟩
   repeat' (first|refine Sg.Y10 ?_|fail)
   exact ⟨_,PSub.drop (PSub.drop (PSub.drop (PSub.drop (PSub.drop (PSub.refl _))))),[],rfl,rfl⟩
end
end Go.Proofs.YtjajcmedipjfhaaGreatDoor
/- The walks of the document's reader of JSON: values; the whole. -/
namespace Go.Proofs.YtjajcmedipjfhaaGreatDoor
open Sg Go.IntWalk
set_option maxRecDepth 100000
set_option maxHeartbeats 4000000
section
variable {F:World} {M:List Nat} {H:List Res} {t:List UInt8} {p o:Nat}
theorem Zba {c d:UInt8}:c=d↔c.toNat=d.toNat:=UInt8.toNat_inj.symm
theorem Z6d (hp:p < t.length) (hl:t.length≤262144) (h91:¬(t.getD p 0).toNat=91) (h123:¬(t.getD p 0).toNat=123) :
  Meets Tryz.prog 90 [sV t,.int .i64 p,.int .i64 o] F M H (VaE H (Z0m Z6 t p (t.getD p 0))):=by
 refine Meets.enter Tryz.func90 rfl rfl ?_
 have hb:bAt t p=(t.getD p 0).toNat:=rfl
 have hI:Z2Z t p=((t.getD p 0).toNat:Int):=Z04 hp
 unfold Z0m
 simp only [Zba,digitB_iff]
 generalize (t.getD p 0).toNat=c at *
 repeat' (first|(apply T.alloc;apply rfl;intro nb)|refine Sg.Y1 ?_|fail)
 refine T.call rfl rfl Z9 ?_
 rintro _ _ ⟨rfl,rfl⟩
 rw [hI]
 by_cases h1:c=34
 ·have e1:(p:Int)+1=((p+1:Nat):Int):=by omega
  have hqn:=Z0V (t:=t) (p:=p+1) (by omega)
  rw [if_pos (show c=(34:UInt8).toNat from h1)]
  repeat' (first|(apply T.addI;apply rfl;apply rfl;omega;apply rfl;rw [e1])|refine Sg.Y3 ?_|(apply S.condQ;apply rfl;all_goals intro _)|(apply T.gcase;apply rfl;apply rfl;all_goals intro _)|fail)
  refine T.call rfl rfl (Z2f (p:=p+1) (by omega) hl) ?_
  cases hx:ZB t (p+1) with
  | bad e b =>
   have hc:=hqn e b hx
   rintro _ _ ⟨⟨s,rfl⟩,rfl⟩
   repeat' (first|(apply T.alloc;apply rfl;intro nb)|refine Sg.Y3 ?_|(apply S.condQ;apply rfl;all_goals intro _)|fail)
   exact ⟨_,PSub.drop (PSub.drop (PSub.refl _)),s,rfl,rfl⟩
  | ok a s =>
   rintro _ _ ⟨rfl,rfl⟩
   repeat' (first|(refine Sr.rowOfN (n:=1) (sz:=6) rfl (by decide) ?_)|(apply T.alloc;apply rfl;intro nb)|(apply T.bsL;(iterate 5 apply rfl);intro nb)|refine Sg.Y1 ?_|fail)
   exact ⟨_,PSub.take Z0 (PSub.drop (PSub.drop (PSub.refl _))),_,_,s,rfl,rfl⟩
 rw [if_neg (show ¬c=(34:UInt8).toNat from h1)]
 by_cases h2:c=45∨(48≤c∧c≤57)
 ·rw [if_pos (show c=(45:UInt8).toNat∨(48≤c∧c≤57) from h2)]
  rcases h2 with h2|⟨h2,h3⟩
  all_goals
   repeat' (first|refine Sg.Y3 ?_|(apply S.condQ;apply rfl;all_goals intro _)|(apply T.gcase;apply rfl;apply rfl;all_goals intro _)|fail)
   refine T.call rfl rfl (Z4g hp hl) ?_
   cases hx:numX t p with
   | bad e b =>
    rintro _ _ ⟨s,rfl,rfl⟩
    repeat' (first|refine Sg.Y2 ?_|fail)
    exact ⟨_,PSub.drop (PSub.refl _),s,rfl,rfl⟩
   | ok a u =>
    rintro _ _ ⟨oa,oc,s,rfl,rfl⟩
    repeat' (first|refine Sg.Y2 ?_|fail)
    exact ⟨_,PSub.take Z0 (PSub.drop (PSub.refl _)),oa,oc,s,rfl,rfl⟩
 rw [if_neg (show ¬(c=(45:UInt8).toNat∨(48≤c∧c≤57)) from h2)]
 have h45:¬c=45:=fun h=>h2 (.inl h)
 have hdg:¬(48≤c∧c≤57):=fun h=>h2 (.inr h)
 clear h2
 have hcase:c < 48∨57 < c:=by omega
 by_cases h3:c=110
 ·rw [if_pos (show c=(110:UInt8).toNat from h3)]
  repeat' (first|refine Sg.Y3 ?_|(apply S.condQ;apply rfl;all_goals intro _)|(apply T.gcase;apply rfl;apply rfl;all_goals intro _)|fail)
  refine T.call rfl rfl (Z0M (w:=[110,117,108,108]) (kd:=1) (by decide) (by decide) (by omega) hl) ?_
  cases hx:Z0t t p [110,117,108,108] with
  | bad e b =>
   rintro _ _ ⟨s,rfl,rfl⟩
   repeat' (first|refine Sg.Y2 ?_|fail)
   exact ⟨_,PSub.drop (PSub.refl _),s,rfl,rfl⟩
  | ok a u =>
   rintro _ _ ⟨oa,oc,s,rfl,rfl⟩
   repeat' (first|refine Sg.Y2 ?_|fail)
   exact ⟨_,PSub.take Z0 (PSub.drop (PSub.refl _)),oa,oc,s,rfl,rfl⟩
 rw [if_neg (show ¬c=(110:UInt8).toNat from h3)]
 by_cases h4:c=102
 ·rw [if_pos (show c=(102:UInt8).toNat from h4)]
  repeat' (first|refine Sg.Y3 ?_|(apply S.condQ;apply rfl;all_goals intro _)|(apply T.gcase;apply rfl;apply rfl;all_goals intro _)|fail)
  refine T.call rfl rfl (Z0M (w:=[102,97,108,115,101]) (kd:=2) (by decide) (by decide) (by omega) hl) ?_
  cases hx:Z0t t p [102,97,108,115,101] with
  | bad e b =>
   rintro _ _ ⟨s,rfl,rfl⟩
   repeat' (first|refine Sg.Y2 ?_|fail)
   exact ⟨_,PSub.drop (PSub.refl _),s,rfl,rfl⟩
  | ok a u =>
   rintro _ _ ⟨oa,oc,s,rfl,rfl⟩
   repeat' (first|refine Sg.Y2 ?_|fail)
   exact ⟨_,PSub.take Z0 (PSub.drop (PSub.refl _)),oa,oc,s,rfl,rfl⟩
 rw [if_neg (show ¬c=(102:UInt8).toNat from h4)]
 by_cases h5:c=116
 ·rw [if_pos (show c=(116:UInt8).toNat from h5)]
  repeat' (first|refine Sg.Y3 ?_|(apply S.condQ;apply rfl;all_goals intro _)|(apply T.gcase;apply rfl;apply rfl;all_goals intro _)|fail)
  refine T.call rfl rfl (Z0M (w:=[116,114,117,101]) (kd:=3) (by decide) (by decide) (by omega) hl) ?_
  cases hx:Z0t t p [116,114,117,101] with
  | bad e b =>
   rintro _ _ ⟨s,rfl,rfl⟩
   repeat' (first|refine Sg.Y2 ?_|fail)
   exact ⟨_,PSub.drop (PSub.refl _),s,rfl,rfl⟩
  | ok a u =>
   rintro _ _ ⟨oa,oc,s,rfl,rfl⟩
   repeat' (first|refine Sg.Y2 ?_|fail)
   exact ⟨_,PSub.take Z0 (PSub.drop (PSub.refl _)),oa,oc,s,rfl,rfl⟩
 rw [if_neg (show ¬c=(116:UInt8).toNat from h5)]
 repeat' (first|refine Sg.Y3 ?_|(apply S.condQ;apply rfl;all_goals intro _)|(apply T.gcase;apply rfl;apply rfl;all_goals intro _)|fail)
 all_goals
  refine T.call rfl rfl Zc ?_
  rintro _ _ ⟨rfl,rfl⟩
  repeat' (first|refine Sg.Y2 ?_|fail)
  exact ⟨_,PSub.drop (PSub.refl _),[],rfl,rfl⟩
theorem Z6a (hp:¬p < t.length) (hp2:p≤t.length) :
  Meets Tryz.prog 90 [sV t,.int .i64 p,.int .i64 o] F M H (VaE H (.bad 31 p)):=by
 refine Meets.enter Tryz.func90 rfl rfl ?_
 repeat' (first|(apply T.alloc;apply rfl;intro nb)|refine Sg.Y1 ?_|fail)
 refine T.call rfl rfl Z9 ?_
 rintro _ _ ⟨rfl,rfl⟩
 rw [Z0I hp]
 repeat' (first|refine Sg.Y1 ?_|fail)
 refine T.call rfl rfl Zc ?_
 rintro _ _ ⟨rfl,rfl⟩
 repeat' (first|refine Sg.Y2 ?_|fail)
 exact ⟨_,PSub.drop (PSub.refl _),[],rfl,rfl⟩
theorem Z5s (hl:t.length≤262144):∀ (d o:Nat),o+d=32→∀ {X:List Res} {q:Nat},q≤t.length→Meets Tryz.prog 90 [sV t,.int .i64 q,.int .i64 o] F M X (VaE X (valX Z6 t d q)):=by
 have key:∀ (d o:Nat),o+d=32→(∀ d',d=d'+1→∀ {X:List Res} {q:Nat},q≤t.length→Meets Tryz.prog 90 [sV t,.int .i64 q,.int .i64 ((o+1:Nat):Int)] F M X (VaE X (valX Z6 t d' q))) →
   ∀ {X:List Res} {q:Nat},q≤t.length→Meets Tryz.prog 90 [sV t,.int .i64 q,.int .i64 o] F M X (VaE X (valX Z6 t d q)):=by
  intro d o hod IH X q hq
  by_cases hlt:q < t.length
  ·have hc:t[q]?=some (t.getD q 0):=by simp [List.getD,hlt]
   have hI:Z2Z t q=((t.getD q 0).toNat:Int):=Z04 hlt
   have hbr:((t.getD q 0)=91∨(t.getD q 0)=123)↔((t.getD q 0).toNat=91∨(t.getD q 0).toNat=123):=or_congr Zba Zba
   by_cases hb:(t.getD q 0).toNat=91∨(t.getD q 0).toNat=123
   ·cases d with
    | zero =>
     have hX:valX Z6 t 0 q=.bad 11 q:=by
      rw [valX]
      simp only [hc]
      rw [if_pos (hbr.2 hb)]
     rw [hX]
     obtain rfl:o=32:=by omega
     refine Meets.enter Tryz.func90 rfl rfl ?_
     repeat' (first|(apply T.alloc;apply rfl;intro nb)|refine Sg.Y1 ?_|fail)
     refine T.call rfl rfl Z9 ?_
     rintro _ _ ⟨rfl,rfl⟩
     rw [hI]
     rcases hb with hb|hb
     all_goals
      rw [hb]
      repeat' (first|refine Sg.Y1 ?_|fail)
      refine T.call rfl rfl Zc ?_
      rintro _ _ ⟨rfl,rfl⟩
      repeat' (first|refine Sg.Y2 ?_|fail)
      exact ⟨_,PSub.drop (PSub.refl _),[],rfl,rfl⟩
    | succ d =>
     have e1:(o:Int)+1=((o+1:Nat):Int):=by omega
     obtain ⟨obj,hobj,hbo⟩:∃ obj:Bool,decide (t.getD q 0=123)=obj∧decide ((((t.getD q 0).toNat:Nat):Int)=123)=obj:=by
      refine ⟨_,rfl,?_⟩
      rw [decide_eq_decide,Zba]
      exact ⟨fun h=>by simpa using Int.ofNat.inj h,fun h=>by rw [h];rfl⟩
     have hX:valX Z6 t (d+1) q=if atB t (Z3 t (q+1)) (Z06 obj) then .ok (Z3 t (q+1)+1) [nd (Z2T obj)] else rowX (valX Z6 t d) t obj (t.length+1) (Z3 t (q+1)) [] (nd (Z2T obj)) []:=by
      rw [valX]
      simp only [hc]
      rw [if_pos (hbr.2 hb),hobj]
      have hk:(if t.getD q 0=123 then (7:Int) else 6)=Z2T obj:=by
       unfold Z2T
       rw [←hobj]
       simp only [decide_eq_true_eq]
      rw [hk]
     rw [hX]
     refine Meets.enter Tryz.func90 rfl rfl ?_
     repeat' (first|(apply T.alloc;apply rfl;intro nb)|refine Sg.Y1 ?_|fail)
     refine T.call rfl rfl Z9 ?_
     rintro _ _ ⟨rfl,rfl⟩
     rw [hI]
     have ho:¬((o:Int)=32):=by omega
     have hrow:=fun {X:List Res}=>Z79 (F:=F) (M:=M) (H:=X) (o:=o+1) (obj:=obj) (Z5f (wh:=Z6) (t:=t) d) (IH d rfl) hlt hl
     generalize (if atB t (Z3 t (q+1)) (Z06 obj) then (.ok (Z3 t (q+1)+1) [nd (Z2T obj)]:Gt (List Nd)) else rowX (valX Z6 t d) t obj (t.length+1) (Z3 t (q+1)) [] (nd (Z2T obj)) [])=R at *
     have hb2:((t.getD q 0).toNat=91∧obj=false)∨((t.getD q 0).toNat=123∧obj=true):=by
      rcases hb with hb|hb
      ·exact .inl ⟨hb,by rw [←hbo,hb];rfl⟩
      ·exact .inr ⟨hb,by rw [←hbo,hb];rfl⟩
     rcases hb2 with ⟨hb,rfl⟩|⟨hb,rfl⟩
     all_goals
      repeat' (first|(apply T.addI;apply rfl;apply rfl;omega;apply rfl;rw [e1])|(apply T.eql;(iterate 3 apply rfl);try rw [hbo])|refine Sg.Y3 ?_|(apply S.condQ;apply rfl;all_goals intro _)|(apply T.gcase;apply rfl;apply rfl;all_goals intro _)|fail)
      refine T.call rfl rfl hrow ?_
      cases R with
      | bad c b =>
       rintro _ _ ⟨s,rfl,rfl⟩
       repeat' (first|refine Sg.Y2 ?_|fail)
       exact ⟨_,PSub.drop (PSub.refl _),s,rfl,rfl⟩
      | ok a l =>
       rintro _ _ ⟨oa,oc,s,rfl,rfl⟩
       repeat' (first|refine Sg.Y2 ?_|fail)
       exact ⟨_,PSub.take Z0 (PSub.drop (PSub.refl _)),oa,oc,s,rfl,rfl⟩
   ·have hX:valX Z6 t d q=Z0m Z6 t q (t.getD q 0):=by
     rw [valX]
     simp only [hc]
     rw [if_neg (fun h=>hb (hbr.1 h))]
    rw [hX]
    exact Z6d hlt hl (fun h=>hb (.inl h)) (fun h=>hb (.inr h))
  ·have hX:valX Z6 t d q=.bad 31 q:=by
    rw [valX]
    simp only [List.getElem?_eq_none (show t.length≤q by omega)]
   rw [hX]
   exact Z6a hlt hq
 intro d
 induction d with
 | zero=>exact fun o ho=>key 0 o ho (fun d' h=>by omega)
 | succ d IH=>exact fun o ho=>key (d+1) o ho (fun d' h=>by
   obtain rfl:d=d':=by omega
   exact IH (o+1) (by omega))
theorem Z5t {t:List UInt8}:Meets Tryz.prog 58 [sV t] F M H (ParP H (Z05 Z6 t)):=by
 refine Meets.enter Tryz.func58 rfl rfl ?_
 unfold Z05
 by_cases hl:262144 < t.length
 ·rw [if_pos hl]
  repeat' (first|refine Sg.Y3 ?_|(apply S.condQ;apply rfl;all_goals intro _)|fail)
  exact ⟨_,PSub.refl _,rfl,rfl⟩
 rw [if_neg hl]
 have hs1:=Zh (t:=t) (p:=0) (Nat.zero_le _)
 have hR:=Z5f (wh:=Z6) (t:=t) 32
 have hnm:=hR.named (Z3 t 0) hs1
 have hft:=hR.fits (Z3 t 0) hs1
 repeat' (first|refine Sg.Y3 ?_|(apply S.condQ;apply rfl;all_goals intro _)|fail)
 refine T.call rfl rfl (ZT (p:=0) (Nat.zero_le _) (by omega)) ?_
 rintro _ _ ⟨rfl,rfl⟩
 repeat' (first|(with_reducible apply T.ofRet)|fail)
 refine T.call rfl rfl (Z5s (by omega) 32 0 rfl hs1) ?_
 cases hx:valX Z6 t 32 (Z3 t 0) with
 | bad c b =>
  have hc:=hnm c b hx
  rintro _ _ ⟨s,rfl,rfl⟩
  repeat' (first|(apply T.alloc;apply rfl;intro nb)|refine Sg.Y3 ?_|(apply S.condQ;apply rfl;all_goals intro _)|fail)
  exact ⟨_,PSub.drop (PSub.refl _),rfl,rfl⟩
 | ok a l =>
  obtain ⟨hf1,hf2⟩:=hft a l hx
  have hs2:=Zh hf2
  rintro _ _ ⟨oa,oc,s,rfl,rfl⟩
  simp only [Gt.bind]
  repeat' (first|(apply T.alloc;apply rfl;intro nb)|refine Sg.Y1 ?_|fail)
  refine T.call rfl rfl (ZT hf2 (by omega)) ?_
  rintro _ _ ⟨rfl,rfl⟩
  generalize Z3 t a=w at *
  by_cases h1:w < t.length
  ·rw [if_pos h1]
   repeat' (first|refine Sg.Y3 ?_|(apply S.condQ;apply rfl;all_goals intro _)|fail)
   exact ⟨_,PSub.drop (PSub.drop (PSub.refl _)),rfl,rfl⟩
  ·rw [if_neg h1]
   repeat' (first|refine Sg.Y3 ?_|(apply S.condQ;apply rfl;all_goals intro _)|fail)
   exact ⟨_,PSub.drop (PSub.refl _),oa,oc,rfl,rfl⟩
end
end Go.Proofs.YtjajcmedipjfhaaGreatDoor
/- The law of SdPlain: walked, the whole of it. -/
namespace Go.Proofs.YtjajcmedipjfhaaGreatDoor
open Sg Go Go.RowKit Go.IntWalk
set_option maxRecDepth 100000
set_option maxHeartbeats 4000000
section
variable {F:World} {M:List Nat} {H:List Res}
theorem Z6j {t:List UInt8} {a:Nat} {v:List Nd} (h:Z05 Z6 t=.ok a v):v.length≤262144∧AllB v∧(∀ n∈v,n.kids≤9223372036854775807):=by
 obtain ⟨h1,h2,h3⟩:=Z5y h
 refine ⟨by omega,fun n hn=>⟨Nat.le_trans (h2 n hn).text (by omega),Nat.le_trans (h2 n hn).key (by omega)⟩,fun n hn=>?_⟩
 have:=(Z5z h).kids_le n hn
 omega
end
end Go.Proofs.YtjajcmedipjfhaaGreatDoor
