/- Texts put together by a program: RvlG RvlH. -/
import Derived.Test.YtjajcmedipjfhaaGreatDoorMm
import Derived.Test.YtjajcmedipjfhaaGreatDoorMk
/- The walk of the document's look at one object. -/
namespace Sg
open Go
theorem Z9v {P:Program} {g:FuncId} {args:List Value} {F:World} {M:List Nat} {H:List Res} {post post':Ending→List Res→Prop} (h:Meets P g args F M H post) (hp:∀ e H',post e H'→∃ H'',post' e H''∧∀ w,St F M w H'→St F M w H''):Meets P g args F M H post':=fun w hw=>(h w hw).mono fun e w' ⟨H',h1,h2⟩ =>
 let ⟨H'',a,b⟩:=hp e H' h1
 ⟨H'',a,b w' h2⟩
def plV (p:Plc):List Value:=[sV p.1,.bool p.2]
end Sg
namespace Go.Proofs.YtjajcmedipjfhaaGreatDoor
open Sg Go.IntWalk
set_option maxRecDepth 100000
set_option maxHeartbeats 4000000
abbrev plR (a:Option Addr) (c:Nat) (l:List Plc):Res:=.row a c 80 2 l.length (l.flatMap plV)
abbrev lkV (a:Option Addr) (c:Nat) (o:Lk):List Value:=[.slice a o.2.length c,.bool o.1]
def LkP (H:List Res) (o:Lk) (e:Ending) (H':List Res):Prop:=∃ pa pc,e=.returned (.agg ⟨lkV pa pc o⟩)∧H'=plR pa pc o.2::H
def LkQ (H:List Res) (o:Lk) (e:Ending) (H':List Res):Prop:=LkP H o e H'∨∃ b p,e=.returned (.agg ⟨lkV (some ⟨b,0,none⟩) 1 o⟩)∧o.2=[p]∧H'=.blk b (plV p) 80::H
theorem LkQ.to {P:Program} {g:FuncId} {args:List Value} {F:World} {M:List Nat} {H H0:List Res} {o:Lk} (h:Meets P g args F M H0 (LkQ H o)):Meets P g args F M H0 (LkP H o):=Z9v h fun e H' h=>by
 rcases h with h|⟨b,p,rfl,h2,rfl⟩
 ·exact ⟨H',h,fun _ h=>h⟩
 ·refine ⟨_,⟨some ⟨b,0,none⟩,1,rfl,rfl⟩,fun w hw=>?_⟩
  rw [h2]
  exact hw.blkRowN (n:=1) (sz:=2) rfl (by decide)
section
variable {F:World} {M:List Nat} {H:List Res} {xs:List SdR}
theorem Z2m {ks:List (List Nd)} {i:Nat} (h:i < ks.length):Zx (ks.take (i+1))=if (Z2 (ks.getD i [])).key=sdN then Zx (ks.take i) else Zx (ks.take i)++[(Z2 (ks.getD i [])).key]:=by
 rw [List.take_succ_eq_append_getElem h]
 have e:ks.getD i []=ks[i]:=by simp [List.getD,h]
 rw [e]
 unfold Zx
 rw [List.map_append,List.filter_append]
 by_cases hk:(Z2 ks[i]).key=sdN
 ·rw [if_pos hk]
  simp [hk]
 ·rw [if_neg hk]
  simp [hk]
theorem Z7a {v:List Nd} {va la:Option Addr} {vc lc q:Nat} {listed:Bool} [Rd F M H va (v.flatMap ndV)] [Rd F M H la (xs.flatMap sdV)] (hg:NGood v) (ha:IsAt v q) (k7:(v.getD q default).kind=7) (hxl:xs.length≤2200000) (hla:xs≠[]→∃ g,la=some ⟨g,0,none⟩) :
  Meets Tryz.prog 95 [.slice va v.length vc,.int .i64 q,.bool listed,.slice la xs.length lc] F M H (LkP H (objK (xs.map (·.s)) listed (Za v q))):=by
 refine LkQ.to (Meets.enter Tryz.func95 rfl rfl ?_)
 have hlt:=ha.lt
 have hvl:=hg.len
 obtain ⟨hk1,hk2⟩:=ha.kids_len
 have hkk:kidsOf (Za v q) 0=kidsOf v q:=Zv ha
 generalize hQ:objK (xs.map (·.s)) listed (Za v q)=Q
 unfold objK at hQ
 rw [hkk] at hQ
 repeat' (first|(apply T.alloc;apply rfl;intro nb)|refine Sg.Y1 ?_|fail)
 refine T.call rfl rfl (Z02 (v:=v) rfl hvl ha) ?_
 rintro _ _ ⟨ka,kc,rfl,rfl⟩
 repeat' (first|refine Sg.Y1 ?_|fail)
 refine T.call rfl rfl (ZU (v:=v) (key:=Z0o) rfl hvl ha) ?_
 rintro _ _ ⟨rfl,rfl⟩
 rcases Z0l ha Z0o with ⟨m1,m2⟩|⟨qd,m1,md,m2⟩
 ·rw [m2] at hQ
  rw [m1]
  have hol2:(offs (q+1) (kidsOf v q)).length=(kidsOf v q).length:=Z0g ..
  refine Sr.nilrow 9 1 ?_
  repeat' (first|refine Sg.Y1 ?_|fail)
  refine S.loopE 1 [0,1,3,8,9,10] (fun R b' μ H' e=>∃ (i:Nat) (na:Option Addr) (nc:Nat) (ns:List (List UInt8)),H'=txR na nc ns::R∧e=(12,.slice na ns.length nc)::(13,.int .i64 i)::b'∧(i≤(kidsOf v q).length∧ns=Zx ((kidsOf v q).take i)∧ns.length≤i)∧μ=(kidsOf v q).length - i) rfl rfl ?_ _ _ ⟨0,none,0,[],rfl,rfl,⟨Nat.zero_le _,rfl,Nat.le_refl _⟩,rfl⟩ (by repeat' first|exact trivial|refine And.intro rfl ?_)
  rintro _ _ _ ⟨i,na,nc,ns,rfl,rfl,⟨g1,g2,g3⟩,rfl⟩ ih
  by_cases h1:i < (kidsOf v q).length
  ·have hi2:=Z2i ha h1
   have hva:=Z0A ha h1
   have hqlt:=hi2.lt
   have e2:Z2 (Za v ((offs (q+1) (kidsOf v q)).getD i 0))=v.getD ((offs (q+1) (kidsOf v q)).getD i 0) default:=Z4 hqlt
   have hsn:=Z2m h1
   rw [show (kidsOf v q).getD i []=Za v ((offs (q+1) (kidsOf v q)).getD i 0) by rw [hva];simp only [List.getD,List.getElem?_eq_getElem h1,Option.getD_some],e2,←g2] at hsn
   by_cases c1:(v.getD ((offs (q+1) (kidsOf v q)).getD i 0) default).key=[95,115,100]
   ·rw [if_pos (show (v.getD ((offs (q+1) (kidsOf v q)).getD i 0) default).key=sdN from c1)] at hsn
    repeat' (first|refine Sg.Y3 ?_|(apply S.condQ;apply rfl;all_goals intro _)|fail)
    exact ih _ _ _ _ ⟨i+1,na,nc,ns,rfl,rfl,⟨by omega,hsn.symm,by omega⟩,rfl⟩ (by omega) (by repeat' first|exact trivial|refine And.intro rfl ?_)
   ·rw [if_neg (show ¬(v.getD ((offs (q+1) (kidsOf v q)).getD i 0) default).key=sdN from c1)] at hsn
    repeat' (first|(apply T.bs;(iterate 6 apply rfl);intro nb)|(apply T.append;apply rfl;apply rfl;infer_instance;(first|rfl|(simp;done));(first|rfl|(simp;done));apply rfl;apply rfl;(constructor<;>omega);apply rfl;intro na nc)|refine Sg.Y3 ?_|(apply S.condQ;apply rfl;all_goals intro _)|fail)
    have hnl:ns.length+1=(ns++[(v.getD ((offs (q+1) (kidsOf v q)).getD i 0) default).key]).length:=by rw [List.length_append];rfl
    refine S.rowEq (ys:=(ns++[(v.getD ((offs (q+1) (kidsOf v q)).getD i 0) default).key]).map sV) (by rw [List.map_append];rfl) ?_
    rw [hnl]
    exact ih _ _ _ _ ⟨i+1,_,_,_,rfl,rfl,⟨by omega,hsn.symm,by rw [←hnl];omega⟩,rfl⟩ (by omega) (by repeat' first|exact trivial|refine And.intro rfl ?_)
  ·obtain rfl:i=(kidsOf v q).length:=by omega
   clear ih
   rw [List.take_length] at g2
   repeat' (first|refine Sg.Y3 ?_|(apply S.condQ;apply rfl;all_goals intro _)|fail)
   refine T.call rfl rfl (ZU (v:=v) (key:=sdN) rfl hvl ha) ?_
   rintro _ _ ⟨rfl,rfl⟩
   rcases Z0l ha sdN with ⟨n1,n2⟩|⟨qs,n1,ms,n2⟩
   ·rw [n2] at hQ
    simp only at hQ
    subst hQ
    rw [n1]
    refine Sr.nilrow 80 2 ?_
    repeat' (first|refine Sg.Y1 ?_|fail)
    exact ⟨_,PSub.take Z0 (by repeat (first|exact PSub.refl _|apply PSub.drop)),.inl ⟨none,0,rfl,rfl⟩⟩
   ·rw [n2] at hQ
    simp only at hQ
    rw [n1]
    have es:Z2 (Za v qs)=v.getD qs default:=Z4 ms.lt
    have hqs:=ms.lt
    rw [es,Zv ms,←g2] at hQ
    by_cases c6:(v.getD qs default).kind=6
    ·rw [if_pos c6] at hQ
     obtain ⟨hk3,hk4⟩:=ms.kids_len
     have hns:ns.length≤(kidsOf v q).length:=g3
     repeat' (first|refine Sg.Y3 ?_|(apply S.condQ;apply rfl;all_goals intro _)|fail)
     refine T.call rfl rfl (Z02 (v:=v) rfl hvl ms) ?_
     rintro _ _ ⟨ia,ic,rfl,rfl⟩
     have hol3:(offs (qs+1) (kidsOf v qs)).length=(kidsOf v qs).length:=Z0g ..
     refine Sr.frontR na ?_
     refine Sr.nilrow 80 2 ?_
     refine Sr.front nb ?_
     generalize nb=ob
     repeat' (first|refine Sg.Y1 ?_|fail)
     refine S.loopE 3 [0,3,8,9,15] (fun R b' μ H' e=>∃ (i:Nat) (na:Option Addr) (nc:Nat) (nx:List (List UInt8)) (pa:Option Addr) (pc:Nat) (bad:Bool) (P:List Plc),H'=.blk ob [.slice pa P.length pc,.bool bad] 76::plR pa pc P::txR na nc nx::R∧e=(12,.slice na nx.length nc)::(16,.int .i64 i)::b' ∧
      (i≤(kidsOf v qs).length∧sdX (xs.map (·.s)) nx (bad,P) ((kidsOf v qs).drop i)=Q∧P.length≤i∧nx.length≤ns.length+i)∧μ=(kidsOf v qs).length - i) rfl rfl ?_ _ _ ⟨0,na,nc,ns,none,0,false,[],rfl,rfl,⟨Nat.zero_le _,hQ,Nat.le_refl _,Nat.le_refl _⟩,rfl⟩ (by repeat' first|exact trivial|refine And.intro rfl ?_)
     rintro _ _ _ ⟨i,na,nc,nx,pa,pc,bad,P,rfl,rfl,⟨g4,g5,g6,g7⟩,rfl⟩ ih
     by_cases h1:i < (kidsOf v qs).length
     ·rw [Z1r ms h1,sdX] at g5
      have hi2:=Z2i ms h1
      have hqlt:=hi2.lt
      have e2:Z2 (Za v ((offs (qs+1) (kidsOf v qs)).getD i 0))=v.getD ((offs (qs+1) (kidsOf v qs)).getD i 0) default:=Z4 hqlt
      rw [e2] at g5
      by_cases c5:(v.getD ((offs (qs+1) (kidsOf v qs)).getD i 0) default).kind=5
      ·rw [if_pos c5] at g5
       repeat' (first|(apply Sr.same;refine T.appendF (g:=plV) ((v.getD ((offs (qs+1) (kidsOf v qs)).getD i 0) default).text,true) rfl rfl rfl inferInstance (fun _=>rfl) rfl rfl rfl (by constructor<;>omega) rfl ?_;intro pa2 pc2)|(apply T.alloc;apply rfl;intro nb)|(apply T.bsL;(iterate 5 apply rfl);intro nb)|refine Sg.Y3 ?_|(apply S.condQ;apply rfl;all_goals intro _)|fail)
       have hpl:P.length+1=(P++[((v.getD ((offs (qs+1) (kidsOf v qs)).getD i 0) default).text,true)]).length:=by rw [List.length_append];rfl
       have hg5:P.length+1≤i+1:=by omega
       generalize (v.getD ((offs (qs+1) (kidsOf v qs)).getD i 0) default).text=tx at *
       refine T.call rfl rfl (Z1L (xs:=xs) rfl hxl) ?_
       rintro _ _ ⟨z,hz,rfl,hH⟩
       have hH2:=hH.symm
       subst hH2
       rcases hz with ⟨rfl,hf⟩|⟨j,rfl,hj,hf,-⟩
       ·rw [hf] at g5
        simp only at g5
        repeat' (first|refine Sg.Y1 ?_|fail)
        refine S.sublist ?_ (PSub.drop (PSub.refl _))
        rw [hpl]
        exact ih _ _ _ _ ⟨i+1,na,nc,nx,pa2,pc2,bad,P++[(tx,true)],rfl,rfl,⟨by omega,g5,by rw [←hpl];exact hg5,by omega⟩,rfl⟩ (by omega) (by repeat' first|exact trivial|refine And.intro rfl ?_)
       ·rw [hf] at g5
        simp only at g5
        obtain ⟨g,rfl⟩:=hla (fun e=>by rw [e] at hj;exact absurd hj (by simp))
        repeat' (first|refine Sg.Y3 ?_|(apply S.condQ;apply rfl;all_goals intro _)|fail)
        refine S.front ob ?_
        dsimp only [List.set_cons_zero]
        refine S.loopE 1 [0,3,8,9,12,15,16,18] (fun R b' μ H' e=>∃ (k:Nat) (b:Bool),H'=.blk ob [.slice pa2 (P.length+1) pc2,.bool b] 76::R∧e=(19,.int .i64 k)::b'∧(k≤nx.length∧b=(bad || ((xs.getD j default).s.member&&decide ((xs.getD j default).s.name∈nx.take k))))∧μ=nx.length - k) rfl rfl ?_ _ _ ⟨0,bad,rfl,rfl,⟨Nat.zero_le _,by simp⟩,rfl⟩ (by repeat' first|exact trivial|refine And.intro rfl ?_)
        rintro _ _ _ ⟨k,b,rfl,rfl,⟨h2,h3⟩,rfl⟩ ih2
        by_cases h4:k < nx.length
        ·have hm1:decide ((xs.getD j default).s.name∈nx.take (k+1))=(decide ((xs.getD j default).s.name∈nx.take k) || decide (nx.getD k []=(xs.getD j default).s.name)):=by
          rw [List.take_succ_eq_append_getElem h4,show nx.getD k []=nx[k] by simp [List.getD,h4]]
          rw [←Bool.decide_or,decide_eq_decide,List.mem_append,List.mem_singleton,eq_comm (a:=(xs.getD j default).s.name)]
         have go:∀ b2:Bool,b2=(b || ((xs.getD j default).s.member&&decide (nx.getD k []=(xs.getD j default).s.name)))→b2=(bad || ((xs.getD j default).s.member&&decide ((xs.getD j default).s.name∈nx.take (k+1)))):=fun b2 hb2=>by
          rw [hb2,hm1,h3]
          cases bad<;>cases (xs.getD j default).s.member<;>simp
         cases b with
         | true =>
          repeat' (first|refine Sg.Y3 ?_|(apply S.condQ;apply rfl;all_goals intro _)|fail)
          (apply S.drawL;(case Hs=>exact [.blk ob [.slice pa2 (P.length+1) pc2,.bool true] 76]);(case es=>exact  [22]);(case lt=>exact  [22]);(case n=>exact  23);(case hn=>rfl))
          repeat' (first|(apply SA.gxu;(iterate 4 apply rfl);kernel_rfl;apply rfl)|(apply SA.gxv;(iterate 5 apply rfl);kernel_rfl;apply rfl)|(apply SA.qn;(iterate 4 apply rfl);kernel_rfl)|(apply SA.done;apply rfl;kernel_rfl)|(apply SK.late;decide)|refine Sg.Y2 ?_|fail)
          exact ih2 _ _ _ _ ⟨k+1,true,rfl,rfl,⟨by omega,go true (by simp)⟩,rfl⟩ (by omega) (by repeat' first|exact trivial|refine And.intro rfl ?_)
         | false =>
          cases hm:(xs.getD j default).s.member with
          | false =>
           repeat' (first|refine Sg.Y3 ?_|(apply S.condQ;apply rfl;all_goals intro _)|fail)
           (apply S.drawL;(case Hs=>exact .blk ob [.slice pa2 (P.length+1) pc2,.bool false] 76::txR na nc nx::H);(case es=>exact  [22]);(case lt=>exact  [22]);(case n=>exact  23);(case hn=>rfl))
           repeat' (first|(refine T.loadF (g:=sdV) (i:=j) (f:=2) (xs:=xs) rfl rfl inferInstance (fun _=>rfl) rfl (Zb hj) rfl rfl ?_;rw [hm])|(apply SA.gxv;(iterate 5 apply rfl);kernel_rfl;apply rfl)|(apply SA.gz;(iterate 4 apply rfl);(first|with_reducible rfl|decide);apply rfl;kernel_rfl)|(apply SA.gn;(iterate 4 apply rfl);(first|with_reducible rfl|decide);apply rfl;kernel_rfl)|(apply SA.qn;(iterate 4 apply rfl);kernel_rfl)|(apply SA.done;apply rfl;kernel_rfl)|(apply SK.late;decide)|refine Sg.Y15 ?_|fail)
           exact ih2 _ _ _ _ ⟨k+1,false,rfl,rfl,⟨by omega,go false (by rw [hm];rfl)⟩,rfl⟩ (by omega) (by repeat' first|exact trivial|refine And.intro rfl ?_)
          | true =>
           repeat' (first|refine Sg.Y3 ?_|(apply S.condQ;apply rfl;all_goals intro _)|fail)
           (apply S.drawL;(case Hs=>exact .blk ob [.slice pa2 (P.length+1) pc2,.bool false] 76::txR na nc nx::H);(case es=>exact  [22]);(case lt=>exact  [22]);(case n=>exact  23);(case hn=>rfl))
           repeat' (first|(refine T.loadF (g:=sdV) (i:=j) (f:=2) (xs:=xs) rfl rfl inferInstance (fun _=>rfl) rfl (Zb hj) rfl rfl ?_;rw [hm])|(apply SA.gz;(iterate 4 apply rfl);(first|with_reducible rfl|decide);apply rfl;kernel_rfl)|(apply SA.gn;(iterate 4 apply rfl);(first|with_reducible rfl|decide);apply rfl;kernel_rfl)|(apply SA.qn;(iterate 4 apply rfl);kernel_rfl)|(apply SA.done;apply rfl;kernel_rfl)|(apply SK.late;decide)|refine Sg.Y15 ?_|fail)
           exact ih2 _ _ _ _ ⟨k+1,_,rfl,rfl,⟨by omega,go _ (by rw [hm];simp)⟩,rfl⟩ (by omega) (by repeat' first|exact trivial|refine And.intro rfl ?_)
        ·obtain rfl:k=nx.length:=by omega
         clear ih2
         rw [List.take_length] at h3
         rw [←h3] at g5
         repeat' (first|(apply T.bs;(iterate 6 apply rfl);intro nb)|(apply T.append;apply rfl;apply rfl;infer_instance;(first|rfl|(simp;done));(first|rfl|(simp;done));apply rfl;apply rfl;(constructor<;>omega);apply rfl;intro na nc)|refine Sg.Y3 ?_|(apply S.condQ;apply rfl;all_goals intro _)|fail)
         refine S.sublist ?_ (PSub.take Z0 (PSub.drop (PSub.refl _)))
         have hnl:nx.length+1=(nx++[(xs.getD j default).s.name]).length:=by rw [List.length_append];rfl
         rw [show List.map sV nx++[sV (xs.getD j default).s.name]=(nx++[(xs.getD j default).s.name]).map sV by rw [List.map_append];rfl,hnl,hpl]
         exact ih _ _ _ _ ⟨i+1,na,nc,_,pa2,pc2,b,P++[(tx,true)],rfl,rfl,⟨by omega,g5,by rw [←hpl];exact hg5,by rw [←hnl];omega⟩,rfl⟩ (by omega) (by repeat' first|exact trivial|refine And.intro rfl ?_)
      ·rw [if_neg c5] at g5
       subst g5
       refine S.nilrow 80 2 ?_
       repeat' (first|(apply T.alloc;apply rfl;intro nb)|refine Sg.Y3 ?_|(apply S.condQ;apply rfl;all_goals intro _)|fail)
       exact ⟨plR none 0 []::H,PSub.drop (PSub.take Z0 (by repeat (first|exact PSub.refl _|apply PSub.drop))),.inl ⟨none,0,rfl,rfl⟩⟩
     ·obtain rfl:i=(kidsOf v qs).length:=by omega
      rw [List.drop_length] at g5
      obtain rfl:Q=(bad,P):=g5.symm
      clear ih
      repeat' (first|refine Sg.Y3 ?_|(apply S.condQ;apply rfl;all_goals intro _)|fail)
      exact ⟨plR pa pc P::H,by ((repeat (first|dsimp only [List.set_cons_zero]|dsimp only [List.set_cons_succ]));repeat' first|exact PSub.refl _|exact PSub.nil|(apply PSub.take;(repeat' first|(with_reducible exact Z0)|(with_reducible apply Z1)))|(with_reducible apply PSub.drop)|((apply PSub.take);(repeat' first|exact Z0|(apply Z1)))),.inl ⟨pa,pc,rfl,rfl⟩⟩
    ·rw [if_neg c6] at hQ
     subst hQ
     refine Sr.nilrow 80 2 ?_
     repeat' (first|refine Sg.Y3 ?_|(apply S.condQ;apply rfl;all_goals intro _)|fail)
     exact ⟨_,PSub.take Z0 (by repeat (first|exact PSub.refl _|apply PSub.drop)),.inl ⟨none,0,rfl,rfl⟩⟩
 ·rw [m2] at hQ
  rw [m1]
  simp only at hQ
  have e2:Z2 (Za v qd)=v.getD qd default:=Z4 md.lt
  have hqd:=md.lt
  rw [e2] at hQ
  by_cases c1:(kidsOf v q).length=1
  ·by_cases c2:(v.getD qd default).kind=5
   ·cases listed with
    | true =>
     obtain rfl:Q=(false,[((v.getD qd default).text,false)]):=by rw [←hQ,c1,c2];rfl
     repeat' (first|(apply T.bsL;(iterate 5 apply rfl);intro nb)|refine Sg.Y3 ?_|(apply S.condQ;apply rfl;all_goals intro _)|(apply T.gcase;apply rfl;apply rfl;all_goals intro _)|fail)
     exact ⟨_,PSub.take Z0 (by repeat (first|exact PSub.refl _|apply PSub.drop)),.inr ⟨nb,_,by rw [decide_eq_false (fun h=>h c2)];rfl,rfl,rfl⟩⟩
    | false =>
     obtain rfl:Q=(true,[((v.getD qd default).text,false)]):=by rw [←hQ];rfl
     repeat' (first|(apply T.bsL;(iterate 5 apply rfl);intro nb)|refine Sg.Y3 ?_|(apply S.condQ;apply rfl;all_goals intro _)|fail)
     exact ⟨_,PSub.take Z0 (by repeat (first|exact PSub.refl _|apply PSub.drop)),.inr ⟨nb,_,rfl,rfl,rfl⟩⟩
   ·obtain rfl:Q=(true,[((v.getD qd default).text,false)]):=by rw [←hQ,decide_eq_true (show (v.getD qd default).kind≠5 from c2),Bool.or_true,Bool.or_true]
    cases listed with
    | true =>
     repeat' (first|(apply T.bsL;(iterate 5 apply rfl);intro nb)|refine Sg.Y3 ?_|(apply S.condQ;apply rfl;all_goals intro _)|(apply T.gcase;apply rfl;apply rfl;all_goals intro _)|fail)
     exact ⟨_,PSub.take Z0 (by repeat (first|exact PSub.refl _|apply PSub.drop)),.inr ⟨nb,_,by rw [decide_eq_true c2];rfl,rfl,rfl⟩⟩
    | false =>
     repeat' (first|(apply T.bsL;(iterate 5 apply rfl);intro nb)|refine Sg.Y3 ?_|(apply S.condQ;apply rfl;all_goals intro _)|fail)
     exact ⟨_,PSub.take Z0 (by repeat (first|exact PSub.refl _|apply PSub.drop)),.inr ⟨nb,_,rfl,rfl,rfl⟩⟩
  ·obtain rfl:Q=(true,[((v.getD qd default).text,false)]):=by rw [←hQ,decide_eq_true (show (kidsOf v q).length≠1 from c1),Bool.true_or,Bool.or_true]
   have c1':¬((kidsOf v q).length:Int)=1:=by omega
   cases listed with
   | true =>
    repeat' (first|(apply T.bsL;(iterate 5 apply rfl);intro nb)|refine Sg.Y3 ?_|(apply S.condQ;apply rfl;all_goals intro _)|(apply T.gcase;apply rfl;apply rfl;all_goals intro _)|fail)
    exact ⟨_,PSub.take Z0 (by repeat (first|exact PSub.refl _|apply PSub.drop)),.inr ⟨nb,_,rfl,rfl,rfl⟩⟩
   | false =>
    repeat' (first|(apply T.bsL;(iterate 5 apply rfl);intro nb)|refine Sg.Y3 ?_|(apply S.condQ;apply rfl;all_goals intro _)|fail)
    exact ⟨_,PSub.take Z0 (by repeat (first|exact PSub.refl _|apply PSub.drop)),.inr ⟨nb,_,rfl,rfl,rfl⟩⟩
end
end Go.Proofs.YtjajcmedipjfhaaGreatDoor
/- The walk of the document's look at a value and all that stands in it. -/
namespace Sg
section
open Go Go.RowKit
variable {c:Ctx} {ds:List Deferred} {H:List Res} {e:Env} {k:List Item}
theorem S.rdSome {ad:Option Addr} {vs:List Value} [hr:Rd c.F c.M H ad vs] (hn:0 < vs.length) (h:∀ g,ad=some g→S c ds H k e):S c ds H k e:=by
 unfold S at h ⊢
 intro w ac hw ha hd
 obtain ⟨g,rfl⟩:=Z7b hr hw hn
 exact h g rfl w ac hw ha hd
theorem T.fieldAddrQ {q:Sg.Mode} {ops:Array Oper} {l:List Oper} {κ:List Res→Env→Prop} {ty:TypeId} {pos:String} {aft:Array Edge} {x:Operand} {d:Tmp} {g:Addr} {i sz f fi fo:Nat} {t:TypeId} [hf:HFd c.P t fi fo] (hx:ev e x=some (.pointer (faddr (some g) i sz f))) (hlt:Nat.blt d c.fn.ntmps=true) (hk:Sr q c ds H ops l κ ((d,.pointer (faddr (some g) i sz (f+fo)))::e)) :
  Sr q c ds H ops (⟨some d,.fieldAddr t x fi,ty,pos,aft,none⟩::l) κ e:=by
 have hp:Pu c H e ⟨some d,.fieldAddr t x fi,ty,pos,aft,none⟩ (.pointer (faddr (some g) i sz (f+fo))):=fun w a _ ha=>by
  have h:=hf.h
  unfold Z2J at h
  split at h
  ·rename_i fs hu
   split at h
   ·rename_i fl hfi
    obtain ⟨inf,hi,hx2⟩:=Option.map_eq_some_iff.1 h
    simp only [Prod.mk.injEq,beq_eq_false_iff_ne,ne_eq] at hx2
    obtain ⟨rfl,hsz⟩:=hx2
    have hsize:(Go.sizeOf fl.type).run c.P w=.ok inf.size w:=by simp [Go.sizeOf,typeInfo,program,Sem.run,hi]
    have hx':ev e x=some (.pointer (some (g.add (i*sz+f)))):=hx
    simp [execOp,ha.ev hx',Instr.fieldAt,run_underlying hu,hfi,Instr.sureAddr,fieldPlace,hsize,hsz,faddr,eaddr,Z47,Z1S,Nat.add_assoc]
   ·cases h
  ·cases h
 exact Sr.p hp rfl hlt rfl hk
end
theorem Z5p {L:List Said}:∀ (r:List (List Nd)) (ns:List (List UInt8)) (o:Lk),(sdX L ns o r).2.length≤o.2.length+r.length
 | [],_,o=>by rw [sdX];simp
 | x::r,ns,o=>by
  rw [sdX]
  split
  ·split
   ·have:=Z5p (L:=L) r ns (o.1,o.2++[((Z2 x).text,true)])
    simp only [List.length_append,List.length_cons,List.length_nil] at this ⊢
    omega
   ·rename_i s _
    have:=Z5p (L:=L) r (ns++[s.name]) (o.1 || (s.member&&decide (s.name∈ns)),o.2++[((Z2 x).text,true)])
    simp only [List.length_append,List.length_cons,List.length_nil] at this ⊢
    omega
  ·simp
theorem Zcm {xs:List (List Nd)} (h:∀ y∈xs,Fo 1 y):xs.length≤xs.flatten.length:=by
 induction xs with
 | nil=>simp
 | cons x r ih =>
  have h1:=(h x (List.mem_cons_self ..)).pos
  have h2:=ih fun y hy=>h y (List.mem_cons_of_mem _ hy)
  rw [Z5,List.length_cons]
  omega
theorem ZcR {L:List Said} {b:Bool} {x:List Nd} (hx:Fo 1 x):(ownX L b x).2.length≤x.length:=by
 have hpos:=hx.pos
 unfold ownX
 split
 ·rename_i k7
  unfold objK
  split
  ·simp only [List.length_cons,List.length_nil]
   omega
  ·split
   ·exact Nat.zero_le _
   ·rename_i h hs
    split
    ·have h1:=Z5p (L:=L) (kidsOf h 0) (Zx (kidsOf x 0)) (false,[])
     obtain ⟨hm,-⟩:=Z3i hs
     obtain ⟨k1,k2,-,-⟩:=Zu hx
     have hf:=k2 h hm
     obtain ⟨k3,k4,-,-⟩:=Zu hf
     have h2:=ZW hm
     have h3:=Zcm k4
     simp only [List.length_nil] at h1
     omega
    ·exact Nat.zero_le _
 ·exact Nat.zero_le _
theorem Z6u {val:List Nd→Lk} {obj:Bool}:∀ (r:List (List Nd)) (o:Lk),(∀ y∈r,(val y).2.length≤y.length)→(Z0j val obj o r).2.length≤o.2.length+(if obj=true then (r.filter fun x=>!((Z2 x).key==sdN)).flatten.length else r.flatten.length)
 | [],o,_=>by rw [Z0j];simp
 | y::r,o,h=>by
  have h1:=h y (List.mem_cons_self ..)
  have ih:=fun o=>Z6u (obj:=obj) r o fun z hz=>h z (List.mem_cons_of_mem _ hz)
  rw [Z0j]
  cases obj with
  | false =>
   have:=ih (o.1 || (val y).1,o.2++(val y).2)
   rw [if_neg (by simp),if_neg (by simp),Z5]
   rw [if_neg (by simp)] at this
   simp only [List.length_append] at this
   omega
  | true =>
   by_cases hk:(Z2 y).key=sdN
   ·have:=ih o
    rw [if_pos ⟨rfl,hk⟩]
    rw [if_pos rfl] at this ⊢
    rw [List.filter_cons_of_neg (by simp [hk])]
    exact this
   ·have:=ih (o.1 || (val y).1,o.2++(val y).2)
    rw [if_neg (fun e=>hk e.2)]
    rw [if_pos rfl] at this ⊢
    rw [List.filter_cons_of_pos (by simp [hk]),Z5]
    simp only [List.length_append] at this
    omega
theorem Z3j:∀ (f:Nat) {L:List Said} {b:Bool} {x:List Nd},Fo 1 x→(Zn f L b x).2.length≤x.length
 | 0,L,b,x,_=>Nat.zero_le _
 | f+1,L,b,x,hx=>by
  obtain ⟨k1,k2,-,-⟩:=Zu hx
  have hpos:=hx.pos
  have h1:=Z6u (obj:=decide ((Z2 x).kind=7)) (kidsOf x 0) (ownX L b x) (val:=Zn f L (decide ((Z2 x).kind=6))) fun y hy=>Z3j f (k2 y hy)
  have hle:=Z0z (fun x=>!((Z2 x).key==sdN)) (kidsOf x 0)
  rw [Zn]
  refine Nat.le_trans h1 ?_
  unfold ownX
  by_cases k7:(Z2 x).kind=7
  ·rw [if_pos k7,decide_eq_true k7,if_pos rfl]
   unfold objK
   split
   ·simp only [List.length_cons,List.length_nil]
    omega
   ·split
    ·simp only [List.length_nil]
     omega
    ·rename_i h hs
     split
     ·have h1:=Z5p (L:=L) (kidsOf h 0) (Zx (kidsOf x 0)) (false,[])
      obtain ⟨hm,hkey⟩:=Z3i hs
      have hf:=k2 h hm
      obtain ⟨k3,k4,-,-⟩:=Zu hf
      have h2:h.length≤((kidsOf x 0).filter fun x=>(Z2 x).key==sdN).flatten.length:=ZW (List.mem_filter.2 ⟨hm,by simp [hkey]⟩)
      have h3:=Zcm k4
      have h6:=Z0Q (fun x=>(Z2 x).key==sdN) (kidsOf x 0)
      simp only [List.length_nil] at h1
      omega
     ·simp only [List.length_nil]
      omega
  ·rw [if_neg k7,decide_eq_false k7,if_neg (by simp)]
   simp only [List.length_nil]
   omega
end Sg
namespace Go.Proofs.YtjajcmedipjfhaaGreatDoor
open Sg Go.IntWalk
set_option maxRecDepth 100000
set_option maxHeartbeats 4000000
section
variable {F:World} {M:List Nat} {xs:List SdR}
def ZdK (F:World) (M:List Nat) (xs:List SdR) (la:Option Addr) (lc f:Nat):Prop:=∀ (H:List Res) (v:List Nd) (va:Option Addr) (vc q:Nat) (listed:Bool),Rd F M H va (v.flatMap ndV)→Rd F M H la (xs.flatMap sdV)→NGood v→IsAt v q→(Za v q).length < f →
 Meets Tryz.prog 61 [.slice va v.length vc,.int .i64 q,.bool listed,.slice la xs.length lc] F M H (LkP H (Zn f (xs.map (·.s)) listed (Za v q)))
theorem _root_.Sg.Y18 {P R:Prop} (k:R) (h:Sg.Kp R→P:=by intro k;(first|((with_reducible apply T.mulNK 6);apply rfl;apply rfl;omega;apply rfl)|(apply T.fieldAddrQ;apply rfl;apply rfl)|(apply T.orU64;apply rfl;apply rfl;omega;omega;apply rfl)|((with_reducible apply T.mulNK 3);apply rfl;apply rfl;omega;apply rfl)|((with_reducible apply T.addKN 2);apply rfl;apply rfl;omega;apply rfl)|((with_reducible apply T.mulNK 4);apply rfl;apply rfl;omega;apply rfl)|(apply T.sadd;apply rfl;apply rfl;omega;apply rfl)|(apply T.sslice;(iterate 3 apply rfl);omega;apply rfl)|(apply T.mapLook;apply rfl;apply rfl;infer_instance;(first|assumption|(simp only [maxLen];omega)|omega);apply rfl)|(apply T.slen;apply rfl;apply rfl)|(apply T.sidx;apply rfl;apply rfl;omega;apply rfl)|(apply T.convS;apply rfl;infer_instance;(first|rfl|assumption|exact beN_len _ _|(simp;done)|(simp;omega));apply rfl)|(apply T.eqlP;apply rfl;apply rfl)|(apply T.eqlP0;apply rfl;apply rfl)|(apply T.neqP0;apply rfl;apply rfl)|(apply T.ptrLook;apply rfl;apply rfl;infer_instance;(first|assumption|(simp only [maxLen];omega)|omega);apply rfl)|(apply T.mv;apply rfl;apply rfl)|(apply T.asn;apply rfl;apply rfl)|(apply T.len;apply rfl;apply rfl)|(apply T.nilCheck;apply rfl;apply rfl)|(apply T.fieldAddrZ;apply rfl;apply rfl)|(apply T.load;apply rfl;apply rfl;infer_instance;apply rfl;apply rfl)|(apply T.lss;(iterate 3 apply rfl))|(apply T.gtr;(iterate 3 apply rfl))|(apply T.geq;(iterate 3 apply rfl))|(apply T.eql;(iterate 3 apply rfl))|(apply T.neq;(iterate 3 apply rfl))|(apply T.addI;apply rfl;apply rfl;omega;apply rfl)|(apply T.subI;apply rfl;apply rfl;omega;apply rfl)|(apply T.mulI;apply rfl;apply rfl;omega;apply rfl)|(apply T.extract;(iterate 3 apply rfl))|(apply T.ixC;apply rfl;infer_instance;omega;(first|omega|(simp only [List.length_map];omega)|(simp;omega));apply rfl)|(apply T.ixN;apply rfl;apply rfl;infer_instance;omega;(first|omega|(simp only [List.length_map];omega)|(simp;omega));apply rfl)|(apply T.ixF;apply rfl;apply rfl;infer_instance;exact (fun _=>rfl);apply rfl;omega;omega;apply rfl)|(apply T.fieldAddrF;apply rfl;infer_instance;exact (fun _=>rfl);apply rfl;omega;apply rfl)|(apply T.loadF;apply rfl;apply rfl;infer_instance;exact (fun _=>rfl);apply rfl;exact Zb (by omega);apply rfl;apply rfl)|(apply T.loadFN;apply rfl;apply rfl;infer_instance;exact (fun _=>rfl);apply rfl;exact Zb (by omega);apply rfl)|(apply T.loadB;apply rfl;infer_instance;omega;apply rfl)|(apply T.loadNat;apply rfl;infer_instance;(first|omega|(simp only [List.length_map];omega)|(simp;omega));apply rfl)|(apply T.not;apply rfl;apply rfl)|(apply T.notB;apply rfl;apply rfl)|(apply T.pickT;(iterate 3 apply rfl))|(apply T.pickF;(iterate 3 apply rfl))|(apply T.convI64;apply rfl;omega;apply rfl)|(apply T.buildL;(iterate 3 apply rfl))|(apply T.loadW;apply rfl;apply rfl;infer_instance;(first|rfl|(simp only [List.length_append,List.length_map,List.length_set,List.length_replicate,List.length_cons,List.length_nil];first|done|omega));apply rfl)|(apply T.sliceHK;apply rfl;apply rfl;omega;apply rfl)|(apply T.assert;(iterate 4 apply rfl))|(apply T.neqIf;apply rfl;apply rfl)|(apply T.neqNil;apply rfl;apply rfl)|(apply T.storeW;apply rfl;apply rfl;infer_instance;(first|rfl|(simp only [List.length_append,List.length_map,List.length_set,List.length_replicate,List.length_cons,List.length_nil];first|done|omega));(first|rfl|(simp only [List.length_append,List.length_map,List.length_set,List.length_replicate,List.length_cons,List.length_nil];first|done|omega));(first|rfl|(repeat' first|apply all_nV|apply Z0s|apply all_iV|rfl|apply all_app)))|(apply T.store;apply rfl;apply rfl;infer_instance;(first|decide|(simp;omega)|simp);apply rfl)|(apply T.makeI;(iterate 3 apply rfl))|(with_reducible refine Sr.nil ?_)|(with_reducible refine S.seq ?_)|(with_reducible refine S.block ?_)|(with_reducible refine S.reg ?_)|(with_reducible refine S.skip ?_)|(with_reducible refine S.inBlock ?_)|(apply S.exit;apply rfl)|(apply S.quiet;apply rfl;kernel_rfl)|(apply T.ungV;apply rfl;(first|with_reducible rfl|decide))|(apply T.skip;apply rfl;(first|with_reducible rfl|decide);apply rfl)|(apply T.skipU;apply rfl;apply rfl)|(apply S.condTV;apply rfl;(first|with_reducible rfl|decide))|(apply S.condFV;apply rfl;(first|with_reducible rfl|decide))|(apply T.retW;apply rfl)|(apply T.doneW;apply rfl)|(with_reducible apply T.ofRet)|(apply T.retC;apply rfl;((repeat' first|apply RV.nil|(apply RV.tmp;apply rfl)|(apply RV.cellW;apply rfl;apply rfl;infer_instance;(first|rfl|(simp only [List.length_append,List.length_map,List.length_set,List.length_replicate,List.length_cons,List.length_nil];first|done|omega)))|(apply RV.cellP;apply rfl;apply rfl;infer_instance;apply rfl)));apply rfl)|(apply SA.en;apply rfl;apply rfl;kernel_rfl)|(apply T.ung;apply rfl)|fail);exact k.h):P:=h ⟨k⟩
theorem Z6q {la:Option Addr} {lc:Nat} (hxl:xs.length≤2200000) (hla:xs≠[]→∃ g,la=some ⟨g,0,none⟩):∀ f,ZdK F M xs la lc f
 | 0=>fun _ _ _ _ _ _ _ _ _ _ h=>absurd h (Nat.not_lt_zero _)
 | f+1=>fun H v va vc q listed hRv hRl hg ha hf=>by
  have IH:ZdK F M xs la lc f:=Z6q hxl hla f
  refine Meets.enter Tryz.func61 rfl rfl ?_
  have hlt:=ha.lt
  refine S.rdSome (ad:=va) (vs:=v.flatMap ndV) (by rw [Z0y (g:=ndV) (sz:=6) (fun _=>rfl)];omega) fun vg hvg=>?_
  subst hvg
  have hvl:=hg.len
  obtain ⟨hk1,hk2⟩:=ha.kids_len
  have hkk:kidsOf (Za v q) 0=kidsOf v q:=Zv ha
  have e0:Z2 (Za v q)=v.getD q default:=Z4 hlt
  have hfo:=Z3e ha
  have hol2:(offs (q+1) (kidsOf v q)).length=(kidsOf v q).length:=Z0g ..
  generalize hL:xs.map (·.s)=L at *
  generalize hQ:Zn (f+1) L listed (Za v q)=Q
  rw [Zn,hkk,e0] at hQ
  obtain ⟨o,ho⟩:∃ o,o=ownX L listed (Za v q):=⟨_,rfl⟩
  have hol:o.2.length≤(Za v q).length:=by rw [ho];exact ZcR hfo
  rw [←ho] at hQ
  have hvl2:=Z5R ha
  refine S.seq ?_
  repeat' (first|(apply T.alloc;apply rfl;intro nb)|with_reducible refine Sr.nil ?_|with_reducible refine S.reg ?_|fail)
  revert nb
  intro b8
  refine S.seq ?_
  repeat' (first|(apply T.alloc;apply rfl;intro nb)|with_reducible refine Sr.nil ?_|with_reducible refine S.reg ?_|fail)
  revert nb
  intro b9
  refine S.seq ?_
  refine S.cut (fun H' e'=>∃ pa pc,H'=.blk b9 [.slice pa o.2.length pc,.bool o.1] 76::plR pa pc o.2::.blk b8 [.slice none 0 0,.bool false] 76::H∧e'=[(0,.slice (some vg) v.length vc),(1,.int .i64 q),(3,.slice la xs.length lc),(8,.pointer (some ⟨b8,0,none⟩)),(9,.pointer (some ⟨b9,0,none⟩))]) ?_ ?_
  ·intro k' hrest
   unfold ownX at ho
   rw [e0] at ho
   by_cases k7:(v.getD q default).kind=7
   ·rw [if_pos k7] at ho
    repeat' (first|refine Sg.Y3 ?_|(apply S.condQ;apply rfl;all_goals intro _)|fail)
    refine T.call rfl rfl (Z7a (xs:=xs) (v:=v) (q:=q) (listed:=listed) hg ha k7 hxl hla) ?_
    rw [hL,←ho]
    rintro _ _ ⟨pa,pc,rfl,rfl⟩
    repeat' (first|refine Sg.Y2 ?_|fail)
    refine S.front b9 ?_
    exact hrest _ _ _ ⟨pa,pc,rfl,rfl⟩ (by repeat' first|exact trivial|refine And.intro rfl ?_)
   ·rw [if_neg k7] at ho
    subst ho
    refine S.nilrow 80 2 ?_
    refine S.front b9 ?_
    repeat' (first|refine Sg.Y3 ?_|(apply S.condQ;apply rfl;all_goals intro _)|fail)
    exact hrest _ _ _ ⟨none,0,rfl,rfl⟩ (by repeat' first|exact trivial|refine And.intro rfl ?_)
  ·rintro _ _ ⟨pa,pc,rfl,rfl⟩
   have hfl:(Za v q).length=(kidsOf v q).flatten.length+1:=rfl
   repeat' (first|refine Sg.Y1 ?_|fail)
   refine T.call rfl rfl (Z02 (v:=v) rfl hvl ha) ?_
   rintro _ _ ⟨ka,kc,rfl,rfl⟩
   refine Sr.frontR pa ?_
   refine Sr.front b9 ?_
   repeat' (first|refine Sg.Y1 ?_|fail)
   refine S.loopE 2 [0,1,3,8,9,10] (fun R b' μ H' e=>∃ (i:Nat) (pa:Option Addr) (pc:Nat) (bad:Bool) (P:List Plc),H'=.blk b9 [.slice pa P.length pc,.bool bad] 76::plR pa pc P::R∧e=(11,.int .i64 i)::b' ∧
    (i≤(kidsOf v q).length∧Z0j (Zn f L (decide ((v.getD q default).kind=6))) (decide ((v.getD q default).kind=7)) (bad,P) ((kidsOf v q).drop i)=Q∧P.length+((kidsOf v q).drop i).flatten.length≤2*v.length)∧μ=(kidsOf v q).length - i) rfl rfl ?_ _ _
    ⟨0,pa,pc,o.1,o.2,rfl,rfl,⟨Nat.zero_le _,hQ,by rw [List.drop_zero];omega⟩,rfl⟩ (by repeat' first|exact trivial|refine And.intro rfl ?_)
   rintro _ _ _ ⟨i,pa,pc,bad,P,rfl,rfl,⟨g1,g2,g3⟩,rfl⟩ ih
   by_cases h1:i < (kidsOf v q).length
   ·rw [Z1r ha h1] at g2 g3
    rw [Z5] at g3
    rw [Z0j] at g2
    have hi2:=Z2i ha h1
    have hqlt:=hi2.lt
    have e2:Z2 (Za v ((offs (q+1) (kidsOf v q)).getD i 0))=v.getD ((offs (q+1) (kidsOf v q)).getD i 0) default:=Z4 hqlt
    have hklt:(Za v ((offs (q+1) (kidsOf v q)).getD i 0)).length < f:=by
     have h5:=ZW (x:=Za v ((offs (q+1) (kidsOf v q)).getD i 0)) (r:=kidsOf v q) (by rw [Z0A ha h1];exact List.getElem_mem h1)
     omega
    rw [e2] at g2
    have n1:∀ {X:List Res} [Rd F M X (some vg) (v.flatMap ndV)] [Rd F M X la (xs.flatMap sdV)],Meets Tryz.prog 61 [.slice (some vg) v.length vc,.int .i64 ((offs (q+1) (kidsOf v q)).getD i 0),.bool (decide ((v.getD q default).kind=6)),.slice la xs.length lc] F M X (LkP X (Zn f L (decide ((v.getD q default).kind=6)) (Za v ((offs (q+1) (kidsOf v q)).getD i 0)))):=fun {X} _ _=>by
     have h:=IH X v (some vg) vc ((offs (q+1) (kidsOf v q)).getD i 0) (decide ((v.getD q default).kind=6)) inferInstance inferInstance hg hi2 hklt
     rwa [hL] at h
    have hzl:=Z3j f (L:=L) (b:=decide ((v.getD q default).kind=6)) (Z3e hi2)
    by_cases k7:(v.getD q default).kind=7
    ·by_cases ks:(v.getD ((offs (q+1) (kidsOf v q)).getD i 0) default).key=[95,115,100]
     ·rw [if_pos ⟨decide_eq_true k7,show (v.getD ((offs (q+1) (kidsOf v q)).getD i 0) default).key=sdN from ks⟩] at g2
      repeat' (first|refine Sg.Y3 ?_|(apply S.condQ;apply rfl;all_goals intro _)|(apply T.gcase;apply rfl;apply rfl;all_goals intro _)|fail)
      exact ih _ _ _ _ ⟨i+1,pa,pc,bad,P,rfl,rfl,⟨by omega,g2,by omega⟩,rfl⟩ (by omega) (by repeat' first|exact trivial|refine And.intro rfl ?_)
     ·rw [if_neg (fun h=>ks h.2)] at g2
      repeat' (first|refine Sg.Y3 ?_|(apply S.condQ;apply rfl;all_goals intro _)|(apply T.gcase;apply rfl;apply rfl;all_goals intro _)|fail)
      (apply S.draw;(case Hs=>exact .row ka kc 3 1 (kidsOf v q).length ((offs (q+1) (kidsOf v q)).map nV)::H);(case es=>exact  [12,13,14]);(case n=>exact  15);(case hn=>rfl))
      repeat' (first|(apply Sr.same;refine T.call rfl rfl (by with_reducible exact n1) ?_;rintro _ _ ⟨pb,pd,rfl,rfl⟩)|(apply T.alloc;apply rfl;intro nb)|(apply SA.qz;(iterate 4 apply rfl);kernel_rfl)|(apply SA.qsn;(iterate 3 apply rfl);kernel_rfl;(first|exact fun _ h=>h|exact fun _ h=>St.psub h (by ((repeat (first|dsimp only [List.set_cons_zero]|dsimp only [List.set_cons_succ]));repeat' first|exact PSub.refl _|exact PSub.nil|(apply PSub.take;(repeat' first|(with_reducible exact Z0)|(with_reducible apply Z1)))|(with_reducible apply PSub.drop)|((apply PSub.take);(repeat' first|exact Z0|(apply Z1)))))))|(apply SA.e2;(iterate 3 apply rfl);kernel_rfl)|(apply SA.done;apply rfl;kernel_rfl)|(apply SK.intro;(first|exact fun _ h=>h|exact fun _ h=>St.psub h (by ((repeat (first|dsimp only [List.set_cons_zero]|dsimp only [List.set_cons_succ]));repeat' first|exact PSub.refl _|exact PSub.nil|(apply PSub.take;(repeat' first|(with_reducible exact Z0)|(with_reducible apply Z1)))|(with_reducible apply PSub.drop)|((apply PSub.take);(repeat' first|exact Z0|(apply Z1)))))))|refine Sg.Y18 ?_|fail)
      all_goals
       refine Sr.front nb ?_
       generalize Zn f L (decide ((v.getD q default).kind=6)) (Za v ((offs (q+1) (kidsOf v q)).getD i 0))=z at *
       obtain ⟨zb,zp⟩:=z
       dsimp only [lkV,plR] at hzl g2 ⊢
       cases bad with
       | true =>
        repeat' (first|(apply Sr.same;refine T.appendAllF (g:=plV) (xs:=P) (us:=zp) rfl rfl inferInstance inferInstance rfl (fun _=>rfl) (fun _=>rfl) rfl rfl (by constructor<;>omega) rfl ?_;intro pe pf)|refine Sg.Y2 ?_|fail)
        refine S.sublist ?_ (PSub.drop (PSub.drop (PSub.refl _)))
        rw [←List.length_append]
        exact ih _ _ _ _ ⟨i+1,pe,pf,true,P++zp,rfl,rfl,⟨by omega,g2,by rw [List.length_append];omega⟩,rfl⟩ (by omega) (by repeat' first|exact trivial|refine And.intro rfl ?_)
       | false =>
        repeat' (first|(apply Sr.same;refine T.appendAllF (g:=plV) (xs:=P) (us:=zp) rfl rfl inferInstance inferInstance rfl (fun _=>rfl) (fun _=>rfl) rfl rfl (by constructor<;>omega) rfl ?_;intro pe pf)|refine Sg.Y2 ?_|fail)
        refine S.sublist ?_ (PSub.drop (PSub.drop (PSub.refl _)))
        rw [←List.length_append]
        exact ih _ _ _ _ ⟨i+1,pe,pf,zb,P++zp,rfl,rfl,⟨by omega,g2,by rw [List.length_append];omega⟩,rfl⟩ (by omega) (by repeat' first|exact trivial|refine And.intro rfl ?_)
    ·rw [if_neg (fun h=>k7 (of_decide_eq_true h.1))] at g2
     repeat' (first|refine Sg.Y3 ?_|(apply S.condQ;apply rfl;all_goals intro _)|(apply T.gcase;apply rfl;apply rfl;all_goals intro _)|fail)
     (apply S.draw;(case Hs=>exact .row ka kc 3 1 (kidsOf v q).length ((offs (q+1) (kidsOf v q)).map nV)::H);(case es=>exact  [12,13,14]);(case n=>exact  15);(case hn=>rfl))
     repeat' (first|(apply Sr.same;refine T.call rfl rfl (by with_reducible exact n1) ?_;rintro _ _ ⟨pb,pd,rfl,rfl⟩)|(apply T.alloc;apply rfl;intro nb)|(apply SA.qz;(iterate 4 apply rfl);kernel_rfl)|(apply SA.qsn;(iterate 3 apply rfl);kernel_rfl;(first|exact fun _ h=>h|exact fun _ h=>St.psub h (by ((repeat (first|dsimp only [List.set_cons_zero]|dsimp only [List.set_cons_succ]));repeat' first|exact PSub.refl _|exact PSub.nil|(apply PSub.take;(repeat' first|(with_reducible exact Z0)|(with_reducible apply Z1)))|(with_reducible apply PSub.drop)|((apply PSub.take);(repeat' first|exact Z0|(apply Z1)))))))|(apply SA.e2;(iterate 3 apply rfl);kernel_rfl)|(apply SA.done;apply rfl;kernel_rfl)|(apply SK.intro;(first|exact fun _ h=>h|exact fun _ h=>St.psub h (by ((repeat (first|dsimp only [List.set_cons_zero]|dsimp only [List.set_cons_succ]));repeat' first|exact PSub.refl _|exact PSub.nil|(apply PSub.take;(repeat' first|(with_reducible exact Z0)|(with_reducible apply Z1)))|(with_reducible apply PSub.drop)|((apply PSub.take);(repeat' first|exact Z0|(apply Z1)))))))|refine Sg.Y18 ?_|fail)
     all_goals
      refine Sr.front nb ?_
      generalize Zn f L (decide ((v.getD q default).kind=6)) (Za v ((offs (q+1) (kidsOf v q)).getD i 0))=z at *
      obtain ⟨zb,zp⟩:=z
      dsimp only [lkV,plR] at hzl g2 ⊢
      cases bad with
      | true =>
       repeat' (first|(apply Sr.same;refine T.appendAllF (g:=plV) (xs:=P) (us:=zp) rfl rfl inferInstance inferInstance rfl (fun _=>rfl) (fun _=>rfl) rfl rfl (by constructor<;>omega) rfl ?_;intro pe pf)|refine Sg.Y2 ?_|fail)
       refine S.sublist ?_ (PSub.drop (PSub.drop (PSub.refl _)))
       rw [←List.length_append]
       exact ih _ _ _ _ ⟨i+1,pe,pf,true,P++zp,rfl,rfl,⟨by omega,g2,by rw [List.length_append];omega⟩,rfl⟩ (by omega) (by repeat' first|exact trivial|refine And.intro rfl ?_)
      | false =>
       repeat' (first|(apply Sr.same;refine T.appendAllF (g:=plV) (xs:=P) (us:=zp) rfl rfl inferInstance inferInstance rfl (fun _=>rfl) (fun _=>rfl) rfl rfl (by constructor<;>omega) rfl ?_;intro pe pf)|refine Sg.Y2 ?_|fail)
       refine S.sublist ?_ (PSub.drop (PSub.drop (PSub.refl _)))
       rw [←List.length_append]
       exact ih _ _ _ _ ⟨i+1,pe,pf,zb,P++zp,rfl,rfl,⟨by omega,g2,by rw [List.length_append];omega⟩,rfl⟩ (by omega) (by repeat' first|exact trivial|refine And.intro rfl ?_)
   ·obtain rfl:i=(kidsOf v q).length:=by omega
    rw [List.drop_length] at g2
    obtain rfl:Q=(bad,P):=g2.symm
    clear ih
    repeat' (first|refine Sg.Y3 ?_|(apply S.condQ;apply rfl;all_goals intro _)|fail)
    exact ⟨plR pa pc P::H,by ((repeat (first|dsimp only [List.set_cons_zero]|dsimp only [List.set_cons_succ]));repeat' first|exact PSub.refl _|exact PSub.nil|(apply PSub.take;(repeat' first|(with_reducible exact Z0)|(with_reducible apply Z1)))|(with_reducible apply PSub.drop)|((apply PSub.take);(repeat' first|exact Z0|(apply Z1)))),pa,pc,rfl,rfl⟩
end
end Go.Proofs.YtjajcmedipjfhaaGreatDoor
