/- Texts put together by a program: RvlK RvlL LawS SdT. -/
import Derived.Test.YtjajcmedipjfhaaGreatDoorMo
import Derived.Test.YtjajcmedipjfhaaGreatDoorMt
import Derived.Test.YtjajcmedipjfhaaGreatDoorMu
import Derived.Test.YtjajcmedipjfhaaGreatDoorMm
import Derived.Test.YtjajcmedipjfhaaGreatDoorMa
import Derived.Handed
import Derived.Shelf.Vars
import Derived.Test.YtjajcmedipjfhaaGreatDoorMk
import Derived.Test.YtjajcmedipjfhaaGreatDoorMd
import Derived.Test.YtjajcmedipjfhaaGreatDoorRows
import Derived.Lay
import Derived.ChangeMaps5
/- The walk of the document's Reveal: it answers what the program's does. -/
/- guards -/
namespace Sg
open Go
theorem S.rowAll {c:Ctx} {ds:List Deferred} {H:List Res} {k:List Item} {e:Env} {a:Option Addr} {cp n sz:Nat} {E:TypeId} {xs:List Value} (h:(n≠0→∃ g,a=some ⟨g,0,none⟩)→S c ds (.row a cp E sz n xs::H) k e):S c ds (.row a cp E sz n xs::H) k e:=by
 by_cases hn:n=0
 ·exact h fun h0=>absurd hn h0
 ·exact S.rowSome hn fun g hg=>h fun _=>⟨g,hg⟩
theorem Z6X {α:Type} {f g:α→Nat}:∀ {l:List α},(∀ x∈l,f x≤g x)→(l.map f).sum≤(l.map g).sum
 | [],_=>Nat.le_refl _
 | x::l,h=>by
  have h1:=h x (List.mem_cons_self ..)
  have h2:=Z6X fun y hy=>h y (List.mem_cons_of_mem _ hy)
  simp only [List.map_cons,List.sum_cons]
  omega
theorem Zat {α:Type} {f:α→Nat} {x:α}:∀ {l:List α},x∈l→f x≤(l.map f).sum
 | y::l,h=>by
  simp only [List.map_cons,List.sum_cons]
  rcases List.mem_cons.1 h with rfl|h
  ·omega
  ·have:=Zat (f:=f) h
   omega
theorem Z6F {α:Type} {g:α→List UInt8} {k:List UInt8} {y:α}:∀ {xs:List α},(xs.map g).Nodup→y∈xs→g y=k→(xs.find? fun x=>g x==k)=some y
 | x::r,h,hy,hk=>by
  rw [List.map_cons,List.nodup_cons] at h
  rcases List.mem_cons.1 hy with rfl|hy
  ·rw [List.find?_cons_of_pos (by simp [hk])]
  ·have hne:g x≠k:=fun e=>h.1 (by rw [e,←hk];exact List.mem_map_of_mem hy)
   rw [List.find?_cons_of_neg (by simp [hne])]
   exact Z6F h.2 hy hk
theorem ZbW {v:List Nd} (hv:VO v) (k7:(Z2 v).kind=7) (ha:¬ZS v):∀ y∈kidsOf v 0,(Z2 y).key=algN→(Z2 y).kind=5:=fun y hy hk=>by
 have h1:=Z6F (g:=fun x:List Nd=>(Z2 x).key) (hv.names k7) hy hk
 have h2:memV v algN=some y:=by
  unfold memV
  rw [if_pos k7]
  exact h1
 unfold ZS at ha
 rw [h2] at ha
 simp only at ha
 exact (Decidable.not_not.1 ha).1
theorem ZaQ {g:Nat} {L:List Said} {top:Bool} {x y:List Nd} (h:ZZ g L top x=some y):ZJ y []=y:=by
 cases g with
 | zero=>cases h
 | succ g =>
  rw [ZZ] at h
  simp only at h
  repeat' (split at h)
  all_goals (cases h;try rfl)
theorem Zc8 (f:Nat) (L0 O:List Said):∀ L:List Said,(∀ s∈L,VO s.value)→(L.map fun s=>if s.dig∈O.map (·.dig) then 0 else (plc f L0 s).length).sum≤(L.map fun s=>s.value.length).sum
 | [],_=>Nat.le_refl _
 | s::L,h=>by
  have h1:=Zc8 f L0 O L fun t ht=>h t (List.mem_cons_of_mem _ ht)
  have h2:(plc f L0 s).length≤s.value.length:=Z3j f (L:=L0) (b:=false) (h s (List.mem_cons_self ..)).fo
  simp only [List.map_cons (l:=L),List.sum_cons]
  split<;>omega
theorem Zbt (L:List Said):pend L []=(L.map fun s=>s.value.length+1).sum:=by simp [pend]
theorem Z6l {α:Type} [Inhabited α] {g:α→Dg} {xs:List α} {i j:Nat} (hi:i < xs.length) (hj:j < i) (h:g (xs.getD i default)=g (xs.getD j default)):¬(xs.map g).Nodup:=fun hn=>by
 have h1 : (xs.map g)[i]'(by simpa using hi) = (xs.map g)[j]'(by simp; omega) := by
  simpa [List.getD,hi,show j < xs.length by omega] using h
 have:=(List.getElem_inj hn).1 h1
 omega
theorem Z4R {α:Type} [Inhabited α] {g:α→Dg} {xs:List α} (h:∀ i j,i < xs.length→j < i→g (xs.getD i default)≠g (xs.getD j default)):(xs.map g).Nodup:=by
 rw [List.nodup_iff_pairwise_ne,List.pairwise_map,List.pairwise_iff_getElem]
 intro i j hi hj hij e
 exact h j i hj hij (by simpa [List.getD,hi,hj] using e.symm)
end Sg
namespace Go.Proofs.YtjajcmedipjfhaaGreatDoor
open Sg Go.IntWalk
set_option maxRecDepth 100000
set_option maxHeartbeats 4000000
section
variable {F:World} {M:List Nat} {H:List Res}
theorem Z2e (hS:ShT F M) {v:List Nd} {ts:List (List UInt8)} {va ta:Option Addr} {vc tc:Nat} (hRv:Rd F M H va (v.flatMap ndV)) (hRt:Rd F M H ta (ts.map sV)) (hb:AllB v) (hk:∀ n∈v,n.kids≤9223372036854775807) (hsz:v.length+(ts.map List.length).sum≤2200000) (htl:ts.length≤2200000) :
  Meets Tryz.prog 12 [.slice va v.length vc,.slice ta ts.length tc] F M H (RvP H (Z10 Lib.validD Z12 v ts)):=by
 refine Meets.enter Tryz.func12 rfl rfl ?_
 generalize hQ:Z10 Lib.validD Z12 v ts=Q
 unfold Z10 at hQ
 have hvl:v.length≤2200000:=by omega
 refine S.nilrow 34 6 ?_
 repeat' (first|refine Sg.Y1 ?_|fail)
 refine T.call rfl rfl (Z2d (v:=v) rfl hvl fun x hx=>⟨(hb x hx).1,(hb x hx).2⟩) ?_
 rintro _ _ ⟨rfl,rfl⟩
 cases hs:ZH Lib.validD v with
 | false =>
  rw [if_pos (.inl hs)] at hQ
  subst hQ
  repeat' (first|refine Sg.Y1 ?_|fail)
  exact ⟨_,PSub.refl _,none,0,rfl,rfl⟩
 | true =>
  obtain ⟨hf,hg⟩:=Z1C hs hb hvl
  have hvo:VO v:=⟨_,_,Z8N hs⟩
  have ha:=IsAt.of_fo hf
  have hlt:=ha.lt
  have e0:Z2 v=v.getD 0 default:=by
   rw [←Z4 hlt]
   have:=Zj hf
   rw [←ZA,this]
  by_cases k7:(v.getD 0 default).kind=7
  ·rw [if_neg (fun h=>h.elim (fun h=>by rw [hs] at h;cases h) (fun h=>h (by rw [e0];exact k7)))] at hQ
   have k7':(Z2 v).kind=7:=by rw [e0];exact k7
   repeat' (first|refine Sg.Y3 ?_|(apply S.condQ;apply rfl;all_goals intro _)|fail)
   refine T.call rfl rfl (ZU (v:=v) (key:=algN) rfl hvl ha) ?_
   rintro _ _ ⟨rfl,rfl⟩
   have hm:=Z0l ha algN
   rw [Zj hf] at hm
   repeat' (first|refine Sg.Y2 ?_|fail)
   refine S.seq ?_
   refine S.cut (fun H' e'=>¬ZS v∧H'=noR none 0 []::H∧e'=[(0,.slice va v.length vc),(1,.slice ta ts.length tc)]) (fun k' hk'=>?_) (fun H' e' hJ=>?_)
   ·rcases hm with ⟨m1,m2⟩|⟨qa,m1,md,m2⟩
    ·have hna:¬ZS v:=by unfold ZS;rw [m2];exact id
     rw [m1]
     repeat' (first|refine Sg.Y1 ?_|fail)
     exact hk' _ _ _ ⟨hna,rfl,rfl⟩ (by repeat' first|exact trivial|refine And.intro rfl ?_)
    ·have e1:Z2 (Za v qa)=v.getD qa default:=Z4 md.lt
     have hqa:=md.lt
     rw [m1]
     by_cases k5:(v.getD qa default).kind=5
     ·by_cases kt:(v.getD qa default).text=[115,104,97,45,50,53,54]
      ·have hna:¬ZS v:=by unfold ZS;rw [m2];simp only;rw [e1];exact fun h=>h ⟨k5,kt⟩
       repeat' (first|refine Sg.Y3 ?_|(apply S.condQ;apply rfl;all_goals intro _)|(apply T.gcase;apply rfl;apply rfl;all_goals intro _)|fail)
       exact hk' _ _ _ ⟨hna,rfl,rfl⟩ (by repeat' first|exact trivial|refine And.intro rfl ?_)
      ·have hna:ZS v:=by unfold ZS;rw [m2];simp only;rw [e1];exact fun h=>kt h.2
       rw [if_pos hna] at hQ
       subst hQ
       repeat' (first|refine Sg.Y3 ?_|(apply S.condQ;apply rfl;all_goals intro _)|(apply T.gcase;apply rfl;apply rfl;all_goals intro _)|fail)
       exact ⟨_,PSub.refl _,none,0,rfl,rfl⟩
     ·have hna:ZS v:=by unfold ZS;rw [m2];simp only;rw [e1];exact fun h=>k5 h.1
      rw [if_pos hna] at hQ
      subst hQ
      repeat' (first|refine Sg.Y3 ?_|(apply T.gcase;apply rfl;apply rfl;all_goals intro _)|fail)
      exact ⟨_,PSub.refl _,none,0,rfl,rfl⟩
   ·obtain ⟨hna,rfl,rfl⟩:=hJ
    rw [if_neg hna] at hQ
    generalize hQ1:allO Z12 ts=Q1 at hQ
    obtain ⟨base,hbase⟩:∃ base,base=noR none 0 []::H:=⟨_,rfl⟩
    have hRt2:Rd F M base ta (ts.map sV):=by rw [hbase];exact Rd.tl
    have hRv2:Rd F M base va (v.flatMap ndV):=by rw [hbase];exact Rd.tl
    have hps:PSub (noR none 0 []::H) base:=by rw [hbase];exact PSub.refl _
    rw [←hbase]
    refine S.nilrow 69 4 ?_
    repeat' (first|refine Sg.Y1 ?_|fail)
    refine S.loopE 1 [0,1] (fun R b' μ H' e=>∃ (i:Nat) (la:Option Addr) (lc:Nat) (xs:List SdR) (rws:List Res),H'=.row la lc 69 4 xs.length (xs.flatMap sdV)::(rws++base)∧e=(8,.slice la xs.length lc)::(9,.int .i64 i)::b' ∧
     (i≤ts.length∧xs.length=i∧addQ (xs.map (·.s)) (allO Z12 (ts.drop i))=Q1∧(∀ x∈xs,(∀ F M X,Rd F M (rws++X) x.a (x.s.value.flatMap ndV))∧VO x.s.value∧AllB x.s.value∧x.s.name.length≤2200000)∧(xs.map fun x=>x.s.value.length+2).sum≤((ts.take i).map List.length).sum)∧μ=ts.length - i) rfl rfl ?_ _ _
     ⟨0,none,0,[],[],rfl,rfl,⟨Nat.zero_le _,rfl,by rw [List.drop_zero,List.map_nil,Z8D];exact hQ1,fun x hx=>(by cases hx),by simp⟩,rfl⟩ (by repeat' first|exact trivial|refine And.intro rfl ?_)
    rintro _ _ _ ⟨i,la,lc,xs,rws,rfl,rfl,⟨g1,g2,g3,g4,g5⟩,rfl⟩ ih
    by_cases h1:i < ts.length
    ·have hdr:ts.drop i=ts.getD i []::ts.drop (i+1):=by
      rw [List.drop_eq_getElem_cons h1]
      simp [List.getD,h1]
     have htk:((ts.take (i+1)).map List.length).sum=((ts.take i).map List.length).sum+(ts.getD i []).length:=by
      rw [List.take_succ_eq_append_getElem h1,List.map_append,List.sum_append]
      simp [List.getD,h1]
     have hle:((ts.take (i+1)).map List.length).sum≤(ts.map List.length).sum:=by
      conv=>rhs;rw [←List.take_append_drop (i+1) ts,List.map_append,List.sum_append]
      omega
     rw [hdr] at g3
     repeat' (first|refine Sg.Y3 ?_|(apply S.condQ;apply rfl;all_goals intro _)|fail)
     refine T.call rfl rfl (Z8Q (t:=ts.getD i []) hS (by omega)) ?_
     cases hr:Z12 (ts.getD i []) with
     | none =>
      rw [Zb2 hr] at g3
      subst g3
      subst hQ
      rintro _ _ ⟨rfl,hH⟩
      have hH2:=hH.symm
      subst hH2
      repeat' (first|(apply T.alloc;apply rfl;intro nb)|refine Sg.Y1 ?_|fail)
      exact ⟨_,PSub.drop (PSub.drop (PSub.trans hps (Z0J base rws))),none,0,rfl,rfl⟩
     | some s =>
      rw [Zb3 hr] at g3
      rintro _ _ ⟨xa,xc,r,rfl,q1,q2,q3,rfl⟩
      obtain ⟨q4,q5,q6,q7,q8⟩:=Z5w hr
      repeat' (first|(apply Sr.same;refine T.appendF (g:=sdV) (⟨s,xa,xc⟩:SdR) rfl rfl rfl inferInstance (fun _=>rfl) rfl rfl rfl (by constructor<;>omega) rfl ?_;intro la2 lc2)|(apply T.alloc;apply rfl;intro nb)|(apply T.bsL;(iterate 5 apply rfl);intro nb)|refine Sg.Y1 ?_|fail)
      refine S.sublist ?_ (PSub.drop (PSub.refl _))
      refine S.perm ?_ (List.Perm.swap _ _ _)
      have hxl1:xs.length+1=(xs++[(⟨s,xa,xc⟩:SdR)]).length:=by rw [List.length_append];rfl
      rw [hxl1]
      refine ih _ _ _ _ ⟨i+1,la2,lc2,xs++[⟨s,xa,xc⟩],r::rws,rfl,rfl,⟨by omega,by omega,by rw [List.map_append];exact g3,fun x hx=>?_,?_⟩,rfl⟩ (by omega) (by repeat' first|exact trivial|refine And.intro rfl ?_)
      ·rcases List.mem_append.1 hx with hx|hx
       ·obtain ⟨p1,p2⟩:=g4 x hx
        exact ⟨fun F M X=>by have:=p1 F M X;exact Rd.tl,p2⟩
       ·obtain rfl:=List.mem_singleton.1 hx
        exact ⟨fun F M X=>q1 F M (rws++X),q2,q3,q8⟩
      ·rw [List.map_append,List.sum_append,htk]
       simp only [List.map_cons,List.map_nil,List.sum_cons,List.sum_nil]
       omega
    ·obtain rfl:i=ts.length:=by omega
     clear ih
     rw [List.drop_length] at g3
     rw [List.take_length] at g5
     have hq1:Q1=some (xs.map (·.s)):=by rw [←g3];simp [allO,addQ]
     clear g3
     subst hq1
     simp only at hQ
     rw [List.map_map,show ((fun x:Said=>x.dig) ∘ fun x:SdR=>x.s)=fun x=>x.s.dig from rfl] at hQ
     repeat' (first|refine Sg.Y3 ?_|(apply S.condQ;apply rfl;all_goals intro _)|fail)
     have hxlen:xs.length≤2200000:=by omega
     have hps2:∀ (r:Res),PSub (noR none 0 []::H) (r::(rws++base)):=fun r=>PSub.drop (PSub.trans hps (Z0J base rws))
     refine S.loopE 0 [0,8] (fun R b' μ H' e=>∃ i:Nat,H'=R∧e=(12,.int .i64 i)::b'∧(i≤xs.length∧∀ a b,a < i→b < a→(xs.getD a default).s.dig≠(xs.getD b default).s.dig)∧μ=xs.length - i) rfl rfl ?_ _ _ ⟨0,rfl,rfl,⟨Nat.zero_le _,fun a b h=>absurd h (Nat.not_lt_zero _)⟩,rfl⟩ (by repeat' first|exact trivial|refine And.intro rfl ?_)
     rintro _ _ _ ⟨i,hR1,rfl,⟨k1,k2⟩,rfl⟩ ih
     have hR2:=hR1.symm
     subst hR2
     by_cases h2:i < xs.length
     ·repeat' (first|refine Sg.Y3 ?_|(apply S.condQ;apply rfl;all_goals intro _)|fail)
      refine T.call rfl rfl (Z1L (xs:=xs) rfl hxlen) ?_
      rintro _ _ ⟨z,hz0,rfl,hH⟩
      have hH2:=hH.symm
      subst hH2
      rcases hz0 with ⟨rfl,hf⟩|⟨k,rfl,hkl,hf,hfirst⟩
      ·exfalso
       unfold Zi at hf
       have:=List.find?_eq_none.1 hf (xs.getD i default).s (List.mem_map_of_mem (by rw [List.getD_eq_getElem?_getD,List.getElem?_eq_getElem h2];exact List.getElem_mem h2))
       simp at this
      ·have hki:k≤i:=by
        refine Nat.le_of_not_lt fun h=>?_
        exact hfirst i h rfl
       by_cases hke:k=i
       ·subst hke
        repeat' (first|refine Sg.Y7 ?_|(apply S.condQ;apply rfl;all_goals intro _)|fail)
        refine ih _ _ _ _ ⟨k+1,rfl,rfl,⟨by omega,fun a b ha hb=>?_⟩,rfl⟩ (by omega) (by repeat' first|exact trivial|refine And.intro rfl ?_)
        by_cases hak:a=k
        ·subst hak
         exact fun e=>hfirst b hb e.symm
        ·exact k2 a b (by omega) hb
       ·have hnd:¬(xs.map (·.s.dig)).Nodup:=Z6l (g:=fun x:SdR=>x.s.dig) h2 (show k < i by omega) (Zl hf).2.symm
        rw [if_pos (by simp [dupL,hnd])] at hQ
        subst hQ
        repeat' (first|refine Sg.Y3 ?_|(apply S.condQ;apply rfl;all_goals intro _)|fail)
        exact ⟨_,hps2 _,none,0,rfl,rfl⟩
     ·obtain rfl:i=xs.length:=by omega
      clear ih
      have hnd:(xs.map (·.s.dig)).Nodup:=Z4R (g:=fun x:SdR=>x.s.dig) k2
      rw [if_neg (by simp [dupL,hnd])] at hQ
      refine S.rowAll fun hla0=>?_
      have hla:xs≠[]→∃ g,la=some ⟨g,0,none⟩:=fun h=>hla0 fun h0=>h (List.eq_nil_of_length_eq_zero h0)
      haveI hRS:RdS F M (rws++base) xs:=⟨fun x hx=>(g4 x hx).1 F M base⟩
      obtain ⟨f,hff⟩:∃ f,f=4000000:=⟨_,rfl⟩
      have hvf:v.length < f:=by omega
      have hxv:∀ x∈xs,x.s.value.length+2≤2200000:=fun x hx=>by
       have:=Zat (f:=fun x:SdR=>x.s.value.length+2) hx
       omega
      have hxs:Z9q f xs:=fun x hx=>by
       obtain ⟨-,p2,p3,-⟩:=g4 x hx
       have:=hxv x hx
       exact ⟨p2,⟨p2.vl.2,fun n hn=>⟨Nat.le_trans (p3 n hn).2 (by omega),Nat.le_trans (p3 n hn).1 (by omega)⟩,by omega⟩,by omega⟩
      have hLv:LVo f (xs.map (·.s)):=fun s hs=>by
       obtain ⟨x,hx,rfl⟩:=List.mem_map.1 hs
       exact ⟨(hxs x hx).1,(hxs x hx).2.2⟩
      have hLk:LOk (xs.map (·.s)):=fun s hs=>by
       obtain ⟨x,hx,rfl⟩:=List.mem_map.1 hs
       obtain ⟨-,p2,p3,p4⟩:=g4 x hx
       exact ⟨p2.vl,p3,p4⟩
      have hs1:=Z6X (l:=xs) (f:=fun x=>x.s.value.length) (g:=fun x=>x.s.value.length+2) fun x _=>by omega
      have hs2:=Z6X (l:=xs) (f:=fun x=>x.s.value.length+1) (g:=fun x=>x.s.value.length+2) fun x _=>by omega
      have hpn:=Zbt (xs.map (·.s))
      rw [List.map_map,show ((fun s:Said=>s.value.length+1) ∘ fun x:SdR=>x.s)=fun x=>x.s.value.length+1 from rfl] at hpn
      have hrm:=Zc8 f (xs.map (·.s)) [] (xs.map (·.s)) fun s hs=>(hLv s hs).1
      rw [List.map_map (f:=fun x:SdR=>x.s) (g:=fun s:Said=>s.value.length),show ((fun s:Said=>s.value.length) ∘ fun x:SdR=>x.s)=fun x=>x.s.value.length from rfl] at hrm
      have hll:=Z3j f (L:=xs.map (·.s)) (b:=false) hf
      have hK:(Zn f (xs.map (·.s)) false v).2.length+remP f (xs.map (·.s)) []≤10000000:=by
       unfold remP
       omega
      have hnd2:((xs.map (·.s)).map (·.dig)).Nodup:=by rw [List.map_map];exact hnd
      repeat' (first|refine Sg.Y3 ?_|(apply S.condQ;apply rfl;all_goals intro _)|fail)
      refine T.call rfl rfl (Z6f (v:=v) (xs:=xs) (f:=f) hxlen hla hg hvo hvf hxs hnd hK) ?_
      rintro _ _ ⟨O,P,bad,got,ga,gc,pa,pc,hrch,rfl,rfl,hPl⟩
      obtain ⟨d1,d2⟩:=Zd7 hvo hvf hLv hnd2 (ZbW hvo k7' hna) hrch.ended (Nat.lt_succ_self (v.length+pend (xs.map (·.s)) []))
      rw [show v.length+pend (xs.map (·.s)) []+1=(v.length+pend (xs.map (·.s)) []).succ from rfl] at hQ
      cases bad with
      | true =>
       rw [d1 rfl] at hQ
       subst hQ
       repeat' (first|(apply T.alloc;apply rfl;intro nb)|refine Sg.Y1 ?_|fail)
       exact ⟨_,PSub.drop (PSub.drop (PSub.drop (hps2 _))),none,0,rfl,rfl⟩
      | false =>
       obtain ⟨m,y,d3,d4,d5⟩:=d2 rfl
       clear d1 d2
       rw [d3] at hQ
       simp only at hQ
       have hgl:=hrch.len
       repeat' (first|(apply T.alloc;apply rfl;intro nb)|refine Sg.Y1 ?_|fail)
       refine S.loopE 0 [0,8,13,14] (fun R b' μ H' e=>∃ i:Nat,H'=R∧e=(15,.int .i64 i)::b'∧(i≤P.length∧∀ a b,a < i→b < a→(P.getD a default).1≠(P.getD b default).1)∧μ=P.length - i) rfl rfl ?_ _ _ ⟨0,rfl,rfl,⟨Nat.zero_le _,fun a b h=>absurd h (Nat.not_lt_zero _)⟩,rfl⟩ (by repeat' first|exact trivial|refine And.intro rfl ?_)
       rintro _ _ _ ⟨i,hR1,rfl,⟨k1,k2⟩,rfl⟩ ih
       have hR2:=hR1.symm
       subst hR2
       by_cases h2:i < P.length
       ·repeat' (first|refine Sg.Y3 ?_|(apply S.condQ;apply rfl;all_goals intro _)|fail)
        refine S.loopE 0 [0,8,13,14,15] (fun R b' μ H' e=>∃ j:Nat,H'=R∧e=(16,.int .i64 j)::b'∧(j≤i∧∀ b,b < j→(P.getD i default).1≠(P.getD b default).1)∧μ=i - j) rfl rfl ?_ _ _ ⟨0,rfl,rfl,⟨Nat.zero_le _,fun b h=>absurd h (Nat.not_lt_zero _)⟩,rfl⟩ (by repeat' first|exact trivial|refine And.intro rfl ?_)
        rintro _ _ _ ⟨j,hR1,rfl,⟨j1,j2⟩,rfl⟩ ih2
        have hR2:=hR1.symm
        subst hR2
        by_cases h3:j < i
        ·by_cases h4:(P.getD i default).1=(P.getD j default).1
         ·have hnm:¬m.Nodup:=fun hm=>Z6l (g:=fun p:Plc=>p.1) h2 h3 h4 (d4.nodup_iff.1 hm)
          rw [if_pos (.inl (by simp [dupL,hnm]))] at hQ
          subst hQ
          repeat' (first|refine Sg.Y3 ?_|(apply S.condQ;apply rfl;all_goals intro _)|fail)
          exact ⟨_,PSub.drop (PSub.drop (PSub.drop (hps2 _))),none,0,rfl,rfl⟩
         ·repeat' (first|refine Sg.Y3 ?_|(apply S.condQ;apply rfl;all_goals intro _)|fail)
          exact ih2 _ _ _ _ ⟨j+1,rfl,rfl,⟨by omega,fun b hb=>by
           rcases Nat.lt_succ_iff_lt_or_eq.1 hb with hb|rfl
           ·exact j2 b hb
           ·exact h4⟩,rfl⟩ (by omega) (by repeat' first|exact trivial|refine And.intro rfl ?_)
        ·obtain rfl:j=i:=by omega
         clear ih2
         repeat' (first|refine Sg.Y3 ?_|(apply S.condQ;apply rfl;all_goals intro _)|fail)
         exact ih _ _ _ _ ⟨j+1,rfl,rfl,⟨by omega,fun a b ha hb=>by
          rcases Nat.lt_succ_iff_lt_or_eq.1 ha with ha|rfl
          ·exact k2 a b ha hb
          ·exact j2 b hb⟩,rfl⟩ (by omega) (by repeat' first|exact trivial|refine And.intro rfl ?_)
       ·obtain rfl:i=P.length:=by omega
        clear ih
        have hmn:m.Nodup:=d4.nodup_iff.2 (Z4R (g:=fun p:Plc=>p.1) k2)
        repeat' (first|refine Sg.Y3 ?_|(apply S.condQ;apply rfl;all_goals intro _)|fail)
        refine S.loopE 0 [0,8,13] (fun R b' μ H' e=>∃ i:Nat,H'=R∧e=(17,.int .i64 i)::b'∧(i≤xs.length∧∀ a,a < i→got.getD a false=true)∧μ=xs.length - i) rfl rfl ?_ _ _ ⟨0,rfl,rfl,⟨Nat.zero_le _,fun a h=>absurd h (Nat.not_lt_zero _)⟩,rfl⟩ (by repeat' first|exact trivial|refine And.intro rfl ?_)
        rintro _ _ _ ⟨i,hR1,rfl,⟨l1,l2⟩,rfl⟩ ih
        have hR2:=hR1.symm
        subst hR2
        by_cases h3:i < xs.length
        ·have hkl:i < got.length:=by omega
         have hge:(got.map boV)[i]?=some (.bool (got.getD i false)):=by
          rw [List.getElem?_map,List.getElem?_eq_getElem hkl]
          simp [List.getD,hkl,boV]
         cases hgi:got.getD i false with
         | true =>
          rw [hgi] at hge
          repeat' (first|(refine T.loadE (j:=i) (v:=.bool true) rfl rfl inferInstance hge rfl ?_)|refine Sg.Y3 ?_|(apply S.condQ;apply rfl;all_goals intro _)|fail)
          exact ih _ _ _ _ ⟨i+1,rfl,rfl,⟨by omega,fun a ha=>by
           rcases Nat.lt_succ_iff_lt_or_eq.1 ha with ha|rfl
           ·exact l2 a ha
           ·exact hgi⟩,rfl⟩ (by omega) (by repeat' first|exact trivial|refine And.intro rfl ?_)
         | false =>
          rw [hgi] at hge
          have hsl:(xs.getD i default).s∈xs.map (·.s):=List.mem_map_of_mem (by rw [List.getD_eq_getElem?_getD,List.getElem?_eq_getElem h3];exact List.getElem_mem h3)
          have hno:(xs.getD i default).s∉O:=fun h=>by
           rw [(hrch.got_ i h3).2 h] at hgi
           cases hgi
          rw [if_pos (.inr ⟨_,hsl,fun h=>hno ((d5 _ hsl).1 h)⟩)] at hQ
          subst hQ
          repeat' (first|(refine T.loadE (j:=i) (v:=.bool false) rfl rfl inferInstance hge rfl ?_)|refine Sg.Y3 ?_|(apply S.condQ;apply rfl;all_goals intro _)|fail)
          exact ⟨_,PSub.drop (PSub.drop (PSub.drop (hps2 _))),none,0,rfl,rfl⟩
        ·obtain rfl:i=xs.length:=by omega
         clear ih
         rw [if_neg] at hQ
         ·obtain ⟨y0,hb0,hy0⟩:=Z69 (fun s hs=>(hLv s hs).1) _ true _ _ _ _ _ hvo d3 hmn
          rw [ZaQ hb0] at hy0
          subst hy0
          have hsz1:=(Z0b (fun s hs=>(hLk s hs).1) _ true [] v [] m y ⟨hf,hg.flat⟩ (Nat.lt_succ_self _) d3).1.size
          rw [List.length_nil] at hsz1
          have hyl:y.length≤2200000:=by omega
          have hyb:=ZcN hLk _ true _ _ _ _ _ ⟨hf,hg.flat⟩ hb (by simp) d3
          have hv0:=Zj hf
          repeat' (first|refine Sg.Y3 ?_|(apply S.condQ;apply rfl;all_goals intro _)|fail)
          refine T.call rfl rfl (Z57 hxlen hla hxs _ _ v va vc 0 true y inferInstance inferInstance inferInstance hg ha (by rw [hv0];exact hvo) (by rw [hv0];exact hb0) hyl) ?_
          rintro _ _ ⟨oa,oc,rfl,rfl⟩
          repeat' (first|refine Sg.Y1 ?_|fail)
          refine T.call rfl rfl (Z2d (v:=y) rfl hyl fun x hx=>⟨(hyb x hx).1,(hyb x hx).2⟩) ?_
          rintro _ _ ⟨rfl,hH⟩
          have hH2:=hH.symm
          subst hH2
          cases hsy:ZH Lib.validD y with
          | false =>
           rw [if_pos hsy] at hQ
           subst hQ
           repeat' (first|refine Sg.Y1 ?_|fail)
           exact ⟨_,PSub.drop (PSub.drop (PSub.drop (PSub.drop (hps2 _)))),none,0,rfl,rfl⟩
          | true =>
           rw [if_neg (by rw [hsy];simp)] at hQ
           subst hQ
           repeat' (first|refine Sg.Y1 ?_|fail)
           exact ⟨noR oa oc y::H,PSub.take Z0 (PSub.trans (PSub.drop (PSub.refl _)) (PSub.drop (PSub.drop (PSub.drop (hps2 _))))),oa,oc,rfl,rfl⟩
         ·rintro (h|⟨s,hs,h⟩)
          ·simp [dupL,hmn] at h
          ·obtain ⟨x,hx,rfl⟩:=List.mem_map.1 hs
           obtain ⟨j,hj,rfl⟩:=List.mem_iff_getElem.1 hx
           have h6:=(hrch.got_ j hj).1 (l2 j hj)
           rw [show xs.getD j default=xs[j] by simp [List.getD,hj]] at h6
           exact h ((d5 _ hs).2 h6)
  ·rw [if_pos (.inr (by rw [e0];exact k7))] at hQ
   subst hQ
   repeat' (first|refine Sg.Y3 ?_|(apply S.condQ;apply rfl;all_goals intro _)|fail)
   exact ⟨_,PSub.refl _,none,0,rfl,rfl⟩
end
end Go.Proofs.YtjajcmedipjfhaaGreatDoor
/- The law of SdReveals: walked. -/
namespace Sg
theorem Z4x {x:List UInt8}:∀ {ts:List (List UInt8)} {i:Nat},((ts.set i x).map List.length).sum≤(ts.map List.length).sum+x.length
 | [],i=>by simp
 | t::r,0=>by
  simp only [List.set_cons_zero,List.map_cons,List.sum_cons]
  omega
 | t::r,i+1=>by
  have:=Z4x (x:=x) (ts:=r) (i:=i)
  simp only [List.set_cons_succ,List.map_cons,List.sum_cons]
  omega
theorem Z7R {a:List UInt8}:∀ {ts:List (List UInt8)},a∈ts→a.length≤(ts.map List.length).sum
 | x::r,h=>by
  rw [List.map_cons,List.sum_cons]
  rcases List.mem_cons.1 h with rfl|h
  ·omega
  ·have:=Z7R h
   omega
end Sg
namespace Go.Proofs.YtjajcmedipjfhaaGreatDoor
open Sg Go Go.RowKit Go.IntWalk
set_option maxRecDepth 100000
set_option maxHeartbeats 4000000
section
variable {F:World} {H:List Res}
def Grown (v w:List Nd) (i:Nat):Prop:=w.length=v.length∧∀ j,j < v.length→(w.getD j default).kids=(v.getD j default).kids∧(w.getD j default).key=(v.getD j default).key∧(w.getD j default).text.length≤(v.getD j default).text.length+(if j < i then 1 else 0)
theorem Grown.skip {v w:List Nd} {i:Nat} (h:Grown v w i):Grown v w (i+1):=⟨h.1,fun j hj=>by
 obtain ⟨a,b,c⟩:=h.2 j hj
 refine ⟨a,b,Nat.le_trans c ?_⟩
 split<;>split<;>omega⟩
theorem Grown.step {v w:List Nd} {i:Nat} (h:Grown v w i) (hi:i < v.length) {t:List UInt8} (ht:t.length=(w.getD i default).text.length+1):Grown v (w.set i ⟨(w.getD i default).kind,(w.getD i default).key,t,(w.getD i default).whole,(w.getD i default).int,(w.getD i default).kids⟩) (i+1):=by
 obtain ⟨h1,h2⟩:=h
 refine ⟨by rw [List.length_set];exact h1,fun j hj=>?_⟩
 obtain ⟨a,b,c⟩:=h2 j hj
 by_cases e:i=j
 ·subst e
  have he:(w.set i ⟨(w.getD i default).kind,(w.getD i default).key,t,(w.getD i default).whole,(w.getD i default).int,(w.getD i default).kids⟩).getD i default=⟨(w.getD i default).kind,(w.getD i default).key,t,(w.getD i default).whole,(w.getD i default).int,(w.getD i default).kids⟩:=by
   simp [List.getD,show i < w.length by omega]
  rw [he]
  rw [if_neg (by omega)] at c
  rw [if_pos (by omega)]
  exact ⟨a,b,by show t.length≤_;omega⟩
 ·have he:(w.set i ⟨(w.getD i default).kind,(w.getD i default).key,t,(w.getD i default).whole,(w.getD i default).int,(w.getD i default).kids⟩).getD j default=w.getD j default:=by
   simp [List.getD,List.getElem?_set,e]
  rw [he]
  refine ⟨a,b,Nat.le_trans c ?_⟩
  split<;>split<;>omega
theorem Grown.bounds {v w:List Nd} {i:Nat} (h:Grown v w i) (hb:∀ n∈v,n.text.length≤1048576∧n.key.length≤1048576) (hk:∀ n∈v,n.kids≤9223372036854775807):AllB w∧∀ n∈w,n.kids≤9223372036854775807:=by
 obtain ⟨h1,h2⟩:=h
 have hv:∀ n∈w,∃ m∈v,n.kids=m.kids∧n.key=m.key∧n.text.length≤m.text.length+1:=fun n hn=>by
  obtain ⟨j,hj,rfl⟩:=List.mem_iff_getElem.1 hn
  have hjv:j < v.length:=by omega
  obtain ⟨a,b,c⟩:=h2 j hjv
  rw [show w.getD j default=w[j] by simp [List.getD,hj],show v.getD j default=v[j] by simp [List.getD,hjv]] at a b c
  refine ⟨v[j],List.getElem_mem hjv,a,b,Nat.le_trans c ?_⟩
  split<;>omega
 refine ⟨fun n hn=>?_,fun n hn=>?_⟩
 ·obtain ⟨m,hm,a,b,c⟩:=hv n hn
  obtain ⟨p,q⟩:=hb m hm
  refine ⟨by omega,?_⟩
  rw [b]
  omega
 ·obtain ⟨m,hm,a,b,c⟩:=hv n hn
  rw [a]
  exact hk m hm
theorem Z68 {v:List Nd} {ts:List (List UInt8)} {va ta:Option Addr} {vc tc:Nat} (hT:Tabs F []) (hS:ShT F []) (hRv:∀ X,Rd F [] X va (v.flatMap ndV)) (hRt:∀ X,Rd F [] X ta (ts.map sV)) (hb:∀ n∈v,n.text.length≤1048576∧n.key.length≤1048576) (hk:∀ n∈v,-9223372036854775808≤n.kids∧n.kids≤9223372036854775807) (hsz:v.length+(ts.map List.length).sum≤1048576) (htl:ts.length≤1048576) :
  Meets Tryz.prog 3 [.slice va v.length vc,.slice ta ts.length tc] F [] H (fun e _=>e=.returned (.bool true)):=by
 refine Meets.enter Tryz.func3 rfl rfl ?_
 have iv:∀ {X:List Res},Rd F [] X va (v.flatMap ndV):=fun {X}=>hRv X
 have it:∀ {X:List Res},Rd F [] X ta (ts.map sV):=fun {X}=>hRt X
 have hbA:AllB v:=fun n hn=>⟨Nat.le_trans (hb n hn).1 (by omega),Nat.le_trans (hb n hn).2 (by omega)⟩
 have hk2:∀ n∈v,n.kids≤9223372036854775807:=fun n hn=>(hk n hn).2
 repeat' (first|refine Sg.Y1 ?_|fail)
 refine T.call rfl rfl (Z7J (v:=v) (hRv _) hk (by omega)) ?_
 rintro _ _ ⟨bb,rfl,rfl⟩
 cases bb with
 | true =>
  repeat' (first|refine Sg.Y1 ?_|fail)
  exact ⟨_,PSub.refl _,rfl⟩
 | false =>
  repeat' (first|refine Sg.Y1 ?_|fail)
  refine T.call rfl rfl (Z4a (v:=v) iv (by omega)) ?_
  rintro _ _ ⟨ka,kc,rfl,rfl⟩
  repeat' (first|refine Sg.Y1 ?_|fail)
  refine T.call rfl rfl (Z1z (v:=ts) it (by omega)) ?_
  rintro _ _ ⟨la,lc,rfl,rfl⟩
  repeat' (first|refine Sg.Y1 ?_|fail)
  refine T.call rfl rfl (Z3G (v:=v) (ts:=ts) hT hS.toShP (Rd.tl (h:=Rd.row)) Rd.row hbA hk2 (by omega) (by omega)) ?_
  have hzl:=Z3H (v:=v) (ts:=ts) hbA (by omega)
  generalize hX:Z10 Lib.validD Z12 v ts=z at *
  obtain ⟨c,out⟩:=z
  rintro _ _ ⟨aa,ac,rfl,rfl⟩
  dsimp only at hzl ⊢
  repeat' (first|refine Sg.Y1 ?_|fail)
  refine T.call rfl rfl (Z2e (v:=v) (ts:=ts) hS iv it hbA hk2 (by omega) (by omega)) ?_
  rw [hX]
  rintro _ _ ⟨ba,bc,rfl,rfl⟩
  dsimp only
  repeat' (first|refine Sg.Y1 ?_|fail)
  refine T.call rfl rfl (Z0a (a:=out) (b:=out) (Rd.tl (h:=Rd.row)) Rd.row (by omega) (by omega)) ?_
  rintro _ _ ⟨rfl,rfl⟩
  rw [Z1b]
  repeat' (first|refine Sg.Y7 ?_|(apply T.gcase;apply rfl;apply rfl;all_goals intro _)|fail)
  refine T.call rfl rfl (Z0a (a:=v) (b:=v) (Rd.tl (h:=Rd.tl (h:=Rd.tl (h:=Rd.row)))) iv (by omega) (by omega)) ?_
  rintro _ _ ⟨rfl,rfl⟩
  rw [Z1b]
  repeat' (first|refine Sg.Y2 ?_|fail)
  refine T.call rfl rfl (Z2c (a:=ts) (Rd.tl (h:=Rd.tl (h:=Rd.row))) it (by omega)) ?_
  rintro _ _ ⟨rfl,rfl⟩
  repeat' (first|refine Sg.Y1 ?_|fail)
  refine S.frontR ka ?_
  refine S.loopE 1 [5,6,7,9] (fun R b' μ H' e=>∃ (i:Nat) (w:List Nd),H'=.row ka kc 34 6 v.length (w.flatMap ndV)::R∧e=(11,.int .i64 i)::b'∧(i≤v.length∧Grown v w i)∧μ=v.length - i) rfl rfl ?_ _ _ ⟨0,v,rfl,rfl,⟨Nat.zero_le _,rfl,fun j hj=>⟨rfl,rfl,by omega⟩⟩,rfl⟩ (by repeat' first|exact trivial|refine And.intro rfl ?_)
  rintro _ _ _ ⟨i,w,rfl,rfl,⟨g1,g2⟩,rfl⟩ ih
  have hwl:=g2.1
  by_cases h1:i < v.length
  ·by_cases k5:(w.getD i default).kind=5
   ·by_cases k3:i % 3=1
    ·have hst:=g2.step h1 (t:=113::(w.getD i default).text) (by rw [List.length_cons])
     have hgw:w[i]?=some (w.getD i default):=Zb (by omega)
     have htw:=((g2.bounds hb hk2).1 (w.getD i default) (List.mem_of_getElem? hgw)).1
     repeat' (first|((with_reducible apply T.remI64 (n:=3));apply rfl;apply rfl;omega;apply rfl)|(apply Sr.same;refine T.sadd (a:=[113]) (b:=(w.getD i default).text) rfl rfl (by rw [List.length_singleton];omega) rfl ?_)|(apply Sr.same;refine T.storeF (g:=ndV) (xs:=w) ⟨(w.getD i default).kind,(w.getD i default).key,113::(w.getD i default).text,(w.getD i default).whole,(w.getD i default).int,(w.getD i default).kids⟩ rfl rfl inferInstance (fun _=>rfl) rfl hgw rfl rfl ?_)|refine Sg.Y3 ?_|(apply S.condQ;apply rfl;all_goals intro _)|(apply T.gcase;apply rfl;apply rfl;all_goals intro _)|fail)
     exact ih _ _ _ _ ⟨i+1,_,rfl,rfl,⟨by omega,hst⟩,rfl⟩ (by omega) (by repeat' first|exact trivial|refine And.intro rfl ?_)
    ·repeat' (first|((with_reducible apply T.remI64 (n:=3));apply rfl;apply rfl;omega;apply rfl)|refine Sg.Y3 ?_|(apply S.condQ;apply rfl;all_goals intro _)|(apply T.gcase;apply rfl;apply rfl;all_goals intro _)|fail)
     exact ih _ _ _ _ ⟨i+1,w,rfl,rfl,⟨by omega,g2.skip⟩,rfl⟩ (by omega) (by repeat' first|exact trivial|refine And.intro rfl ?_)
   ·repeat' (first|refine Sg.Y3 ?_|(apply S.condQ;apply rfl;all_goals intro _)|(apply T.gcase;apply rfl;apply rfl;all_goals intro _)|fail)
    exact ih _ _ _ _ ⟨i+1,w,rfl,rfl,⟨by omega,g2.skip⟩,rfl⟩ (by omega) (by repeat' first|exact trivial|refine And.intro rfl ?_)
  ·obtain rfl:i=v.length:=by omega
   clear ih
   obtain ⟨wb,wk⟩:=g2.bounds hb hk2
   by_cases hl1:1 < ts.length
   case' pos =>
    repeat' (first|(apply Sr.same;refine T.subKN (m:=ts.length) 1 rfl rfl ⟨by omega,by omega⟩ rfl ?_)|(apply Sr.same;refine T.ixN (i:=ts.length - 1) (vs:=ts.map sV) rfl rfl inferInstance (by omega) (by rw [List.length_map];omega) rfl ?_)|refine Sg.Y17 ?_|(apply S.condQ;apply rfl;all_goals intro _)|fail)
    refine Sr.frontR la ?_
    obtain ⟨ts',hts⟩:∃ t,t=ts.set (ts.length - 1) (ts.getD 0 []):=⟨_,rfl⟩
    refine Sr.rowEq (ys:=ts'.map sV) (by rw [hts,List.map_set]) ?_
    have hts1:ts'.length=ts.length:=by rw [hts,List.length_set]
    have hts2:(ts'.map List.length).sum≤2*(ts.map List.length).sum:=by
     have h3:=Z4x (x:=ts.getD 0 []) (ts:=ts) (i:=ts.length - 1)
     have h4:=Z7R (a:=ts.getD 0 []) (ts:=ts) (by rw [List.getD_eq_getElem?_getD,List.getElem?_eq_getElem (show 0 < ts.length by omega)];exact List.getElem_mem _)
     rw [hts]
     omega
    clear hts
   case' neg =>
    repeat' (first|refine Sg.Y3 ?_|(apply S.condQ;apply rfl;all_goals intro _)|fail)
    refine Sr.frontR la ?_
    obtain ⟨ts',hts⟩:∃ t,t=ts:=⟨_,rfl⟩
    refine Sr.rowEq (ys:=ts'.map sV) (by rw [hts]) ?_
    have hts1:ts'.length=ts.length:=by rw [hts]
    have hts2:(ts'.map List.length).sum≤2*(ts.map List.length).sum:=by
     rw [hts]
     omega
    clear hts
   all_goals
    rw [←hwl,←hts1]
    refine T.call rfl rfl (Z4a (v:=w) inferInstance (by omega)) ?_
    rintro _ _ ⟨wa,wc,rfl,rfl⟩
    repeat' (first|refine Sg.Y1 ?_|fail)
    refine T.call rfl rfl (Z1z (v:=ts') inferInstance (by omega)) ?_
    rintro _ _ ⟨sa,sc,rfl,rfl⟩
    repeat' (first|refine Sg.Y1 ?_|fail)
    refine T.call rfl rfl (Z3G (v:=w) (ts:=ts') hT hS.toShP inferInstance inferInstance wb wk (by omega) (by omega)) ?_
    have hyl:=Z3H (v:=w) (ts:=ts') wb (by omega)
    generalize hY:Z10 Lib.validD Z12 w ts'=y at *
    obtain ⟨d,out2⟩:=y
    rintro _ _ ⟨da,dc,rfl,rfl⟩
    dsimp only at hyl ⊢
    repeat' (first|refine Sg.Y1 ?_|fail)
    refine T.call rfl rfl (Z2e (v:=w) (ts:=ts') hS inferInstance inferInstance wb wk (by omega) (by omega)) ?_
    rw [hY]
    rintro _ _ ⟨ea,ec,rfl,rfl⟩
    dsimp only
    repeat' (first|refine Sg.Y1 ?_|fail)
    refine T.call rfl rfl (Z0a (a:=out2) (b:=out2) inferInstance inferInstance (by omega) (by omega)) ?_
    rintro _ _ ⟨rfl,rfl⟩
    rw [Z1b]
    repeat' (first|refine Sg.Y7 ?_|(apply T.gcase;apply rfl;apply rfl;all_goals intro _)|fail)
    refine T.call rfl rfl (Z0a (a:=out) (b:=out) inferInstance inferInstance (by omega) (by omega)) ?_
    rintro _ _ ⟨rfl,rfl⟩
    rw [Z1b]
    repeat' (first|refine Sg.Y2 ?_|fail)
    refine T.call rfl rfl (Z0a (a:=w) (b:=w) inferInstance inferInstance (by omega) (by omega)) ?_
    rintro _ _ ⟨rfl,rfl⟩
    rw [Z1b]
    repeat' (first|refine Sg.Y2 ?_|fail)
    refine T.call rfl rfl (Z2c (a:=ts') inferInstance inferInstance (by omega)) ?_
    rintro _ _ ⟨rfl,rfl⟩
    repeat' (first|refine Sg.Y2 ?_|fail)
    exact ⟨_,PSub.refl _,by rfl⟩
end
end Go.Proofs.YtjajcmedipjfhaaGreatDoor
/- From a walk of a law to its row, the world's shape handed on. -/
namespace Sg
open Go Go.ChangeShapes Go.WideShapes Go.RowKit
section
variable {H:Type} {enc:TypeId × Value→H}
end
theorem Z97 {P:Program} {W:World} {nm:String} {g T E n:Nat} {ns:List UInt32} {cs:Array Value} {fuel:Nat} {p:List MemPlace} {sp:Nat→Bool} (hg:P.globalNamed nm=some g) (hT:P.underlying T=some (.array n E)) (hE:P.underlying E=some (.int .u32)) (hc:P.cellsOf E=1)
  (hv:W.var? P nm=some cs) (hd:DataW.trod (fun _=>()) P W 0 sp false fuel T cs.toList=some (.agg (ns.map fun z=>.lit (.int .u32 (z.toNat:Int))),p)) (H:List Res):Rd W [] H (some ⟨g,0,none⟩) (ns.map fun z=>.int .u32 ((z.toNat:Nat):Int)):=by
 have hm:(ns.map fun z=>(DataW.lit (.int .u32 (z.toNat:Int)):DataW Unit))=(ns.map fun z=>(z.toNat:Int)).map fun z=>.lit (.int .u32 z):=by rw [List.map_map];rfl
 rw [hm] at hd
 have h1:=Z6x (k:=.u32) (ns:=ns.map fun z=>(z.toNat:Int)) hg hT hE hc hv hd
 refine .ofF fun j u hu=>⟨_,rfl,?_⟩
 rw [Zm,Nat.zero_add]
 rw [List.getElem?_map] at hu
 cases hn:ns[j]? with
 | none=>rw [hn] at hu;cases hu
 | some z =>
  rw [hn] at hu
  simp only [Option.map_some,Option.some.injEq] at hu
  subst hu
  exact h1 j _ (by rw [List.getElem?_map,hn];rfl)
theorem Z2F {P:Program} {W:World} {nm:String} {d:DataW Unit}:∀ {l:List (String × DataW Unit)} {ps:List MemPlace},DataW.LaidVars P W l ps→(nm,d)∈l →
  ∃ g t cs fuel p,P.globalNamed nm=some g∧(P.globals[g]?).map (·.type)=some t∧W.var? P nm=some cs∧DataW.trod (fun _=>()) P W 0 (fun _=>true) false fuel t cs.toList=some (d,p)
 | [],_,_,hm=>by cases hm
 | (n,e)::r,ps,h,hm=>by
  obtain ⟨g,t,cs,fuel,p,q,h1,h2,h3,h4,h5,-⟩:=h
  rcases List.mem_cons.1 hm with hm|hm
  ·simp only [Prod.mk.injEq] at hm
   obtain ⟨rfl,rfl⟩:=hm
   exact ⟨g,t,cs,fuel,p,h1,h2,h3,h4⟩
  ·exact Z2F h5 hm
theorem Z5G {P:Program} {W:World} {nm:String} {d:DataW Unit} {l:List (String × DataW Unit)} {g T E n:Nat} {ns:List UInt32} (h:laidMet P l W) (hm:(nm,d)∈l) (hg:P.globalNamed nm=some g) (ht:(P.globals[g]?).map (·.type)=some T) (hT:P.underlying T=some (.array n E)) (hE:P.underlying E=some (.int .u32)) (hc:P.cellsOf E=1)
  (hd:d=.agg (ns.map fun z=>.lit (.int .u32 (z.toNat:Int)))) (H:List Res):Rd W [] H (some ⟨g,0,none⟩) (ns.map fun z=>.int .u32 ((z.toNat:Nat):Int)):=by
 obtain ⟨ps,hl,-,-⟩:=h
 obtain ⟨g',t',cs,fuel,p,h1,h2,h3,h4⟩:=Z2F hl hm
 obtain rfl:=Option.some.inj (hg.symm.trans h1)
 obtain rfl:=Option.some.inj (ht.symm.trans h2)
 subst hd
 exact Z97 hg hT hE hc h3 h4 H
end Sg
/- The tables that the laws' worlds hold, from what the cards list. -/
namespace Go.Proofs.YtjajcmedipjfhaaGreatDoor
open Sg Go Go.ChangeShapes Go.WideShapes Go.RowKit Go.Lib
set_option maxRecDepth 100000
theorem own:ownKnob Tryz.prog.godebug=none:=by kernel_rfl
theorem Zd1:laidOutB Tryz.prog=true:=by kernel_rfl
theorem n_first : Tryz.prog.globalNamed "unicode/utf8.first" = some 0 := by kernel_rfl
theorem n_acc : Tryz.prog.globalNamed "unicode/utf8.acceptRanges" = some 1 := by kernel_rfl
theorem c_u8:Tryz.prog.cellsOf 5=1:=by kernel_rfl
theorem t_first:(Tryz.prog.globals[0]?).map (·.type)=some 120:=by kernel_rfl
theorem t_acc:(Tryz.prog.globals[1]?).map (·.type)=some 123:=by kernel_rfl
theorem Z9d:Rows.laid_unicode_utf8_first=.agg (((List.range 256).map fun c=>((firstT c:Nat):Int)).map fun z=>.lit (.int .u8 z)):=by kernel_rfl
theorem Zb6:(Rows.laid_unicode_utf8_acceptRanges:DataW Unit)=.agg ((List.range 16).map fun i=>.agg [.lit (.int .u8 (accLo i:Nat)),.lit (.int .u8 (accHi i:Nat))]):=by kernel_rfl
theorem Z98 {P:Program} {W:World} {nm:String} {g T E f0 n:Nat} {ps:List (Int × Int)} {cs:Array Value} {fuel:Nat} {p:List MemPlace} {sp:Nat→Bool} {fa fb:Field} (hg:P.globalNamed nm=some g) (hT:P.underlying T=some (.array n E)) (hE:P.underlying E=some (.struct #[fa,fb])) (hc:P.cellsOf E=2)
  (ha:fa.type=f0∧fa.offset=0) (hb:fb.type=f0∧fb.offset=1) (h0:P.underlying f0=some (.int .u8)) (hc0:P.cellsOf f0=1)
  (hv:W.var? P nm=some cs) (hd:DataW.trod (fun _=>()) P W 0 sp false fuel T cs.toList=some (.agg (ps.map fun z=>.agg [.lit (.int .u8 z.1),.lit (.int .u8 z.2)]),p)) :
  ∀ j z,ps[j]?=some z→W.cell? ⟨g,2*j,none⟩=some (.int .u8 z.1)∧W.cell? ⟨g,2*j+1,none⟩=some (.int .u8 z.2):=by
 intro j z hz
 obtain ⟨xs,m,rfl,hx,hlen,hn,hel⟩:=DataW.trod_array hT hd
 simp only [Prod.mk.injEq,DataW.agg.injEq] at hx
 have hj:j < ps.length:=(List.getElem?_eq_some_iff.1 hz).1
 have hxl:xs.length=ps.length:=by
  have:=congrArg List.length hx.1
  simpa using this.symm
 have h1:=hel j (by omega)
 rw [hc,List.getElem?_eq_getElem (by omega)] at h1
 obtain ⟨y0,y1,m',e1,e2,e3,e4⟩:=Go.ChangeShapes.trod_struct2 hE h1
 rw [ha.1,ha.2,hc0,List.drop_zero] at e3
 rw [hb.1,hb.2,hc0] at e4
 obtain ⟨z0,k1,k2,-⟩:=DataW.trod_int h0 e3
 obtain ⟨z1,k3,k4,-⟩:=DataW.trod_int h0 e4
 have h2:(xs.map (·.1))[j]?=(ps.map fun z=>(DataW.agg [.lit (.int .u8 z.1),.lit (.int .u8 z.2)]:DataW Unit))[j]?:=by rw [hx.1]
 rw [List.getElem?_map,List.getElem?_map,hz,List.getElem?_eq_getElem (by omega),e1] at h2
 simp only [Option.map_some,Option.some.injEq,DataW.agg.injEq,List.cons.injEq,and_true,k2,k4,DataW.lit.injEq,Lit.int.injEq,true_and] at h2
 obtain ⟨rfl,rfl⟩:=h2
 have q0:cs[2*j]?=some (.int .u8 z.1):=by
  have h4:(((cs.toList.drop (j*2)).take 2).take 1)[0]?=some (.int .u8 z.1):=by rw [k1];rfl
  rw [List.getElem?_take_of_lt (by omega),List.getElem?_take_of_lt (by omega),List.getElem?_drop] at h4
  simpa [Nat.mul_comm] using h4
 have q1:cs[2*j+1]?=some (.int .u8 z.2):=by
  have h4:((((cs.toList.drop (j*2)).take 2).drop 1).take 1)[0]?=some (.int .u8 z.2):=by rw [k3];rfl
  rw [List.getElem?_take_of_lt (by omega),List.getElem?_drop,List.getElem?_take_of_lt (by omega),List.getElem?_drop] at h4
  simpa [Nat.mul_comm,Nat.add_comm] using h4
 exact ⟨by rw [World.var?_cell hg hv];exact q0,by rw [World.var?_cell hg hv];exact q1⟩
theorem Zcw {W : World} {ls : List (String × DataW Unit)} (h : laidMet Tryz.prog ls W) (m1 : ("unicode/utf8.first", Rows.laid_unicode_utf8_first) ∈ ls) (m2 : ("unicode/utf8.acceptRanges", Rows.laid_unicode_utf8_acceptRanges) ∈ ls) : Tabs W [] := by
 obtain ⟨ps,hl,-,-⟩:=h
 constructor
 ·intro H
  obtain ⟨g',t',cs,fuel,p,h1,h2,h3,h4⟩:=Z2F hl m1
  obtain rfl:=Option.some.inj (n_first.symm.trans h1)
  obtain rfl:=Option.some.inj (t_first.symm.trans h2)
  rw [Z9d] at h4
  have h5:=Z6x (k:=.u8) n_first Tryz.underlying120 Tryz.underlying5 c_u8 h3 h4
  refine .ofF fun j u hu=>⟨_,rfl,?_⟩
  rw [Zm,Nat.zero_add]
  unfold Z8o at hu
  rw [List.getElem?_map] at hu
  cases hn:(List.range 256)[j]? with
  | none=>rw [hn] at hu;cases hu
  | some c =>
   rw [hn] at hu
   simp only [Option.map_some,Option.some.injEq] at hu
   subst hu
   exact h5 j _ (by rw [List.getElem?_map,hn];rfl)
 ·intro H
  obtain ⟨g',t',cs,fuel,p,h1,h2,h3,h4⟩:=Z2F hl m2
  obtain rfl:=Option.some.inj (n_acc.symm.trans h1)
  obtain rfl:=Option.some.inj (t_acc.symm.trans h2)
  rw [Zb6] at h4
  have hmm:((List.range 16).map fun i=>(DataW.agg [.lit (.int .u8 (accLo i:Nat)),.lit (.int .u8 (accHi i:Nat))]:DataW Unit))=((List.range 16).map fun i=>(((accLo i:Nat):Int),((accHi i:Nat):Int))).map fun z=>.agg [.lit (.int .u8 z.1),.lit (.int .u8 z.2)]:=by rw [List.map_map];rfl
  rw [hmm] at h4
  have h5:=Z98 n_acc Tryz.underlying123 Tryz.underlying122 (by kernel_rfl) ⟨rfl,rfl⟩ ⟨rfl,rfl⟩ Tryz.underlying5 c_u8 h3 h4
  refine .ofF fun j u hu=>⟨_,rfl,?_⟩
  rw [Zm,Nat.zero_add]
  have hj:j < 32:=by
   have:=(List.getElem?_eq_some_iff.1 hu).1
   have hlen:accL.length=32:=by decide
   omega
  have h6:=Z7K ⟨j / 2,by omega⟩
  simp only at h6
  have h7:=h5 (j / 2) (((accLo (j / 2):Nat):Int),((accHi (j / 2):Nat):Int)) (by rw [List.getElem?_map,List.getElem?_range (by omega)];rfl)
  rcases Nat.mod_two_eq_zero_or_one j with hm|hm
  ·have h8:accL[j]?=some (.int .u8 (accLo (j / 2):Nat)):=by
    have:=congrArg (fun l=>l[0]?) h6
    rw [show j=j / 2*2 by omega]
    simpa [List.getElem?_take,List.getElem?_drop] using this
   rw [h8] at hu
   cases hu
   have:=h7.1
   rwa [show 2*(j / 2)=j by omega] at this
  ·have h8:accL[j]?=some (.int .u8 (accHi (j / 2):Nat)):=by
    have:=congrArg (fun l=>l[1]?) h6
    rw [show j=j / 2*2+1 by omega]
    simpa [List.getElem?_take,List.getElem?_drop,show (j / 2*2+1) / 2=j / 2 by omega] using this
   rw [h8] at hu
   cases hu
   have:=h7.2
   rwa [show 2*(j / 2)+1=j by omega] at this
theorem n_k : Tryz.prog.globalNamed "signet/sha.k256" = some 11 := by kernel_rfl
theorem n_g : Tryz.prog.globalNamed "signet/sha.start256" = some 2 := by kernel_rfl
theorem c52:Tryz.prog.cellsOf 155=1:=by kernel_rfl
theorem t_k:(Tryz.prog.globals[11]?).map (·.type)=some 197:=by kernel_rfl
theorem t_g:(Tryz.prog.globals[2]?).map (·.type)=some 156:=by kernel_rfl
theorem Zdq {W : World} {ls : List (String × DataW Unit)} (h : laidMet Tryz.prog ls W) (m1 : ("signet/sha.k256", Rows.laid_signet_sha_k256) ∈ ls) (m2 : ("signet/sha.start256", Rows.laid_signet_sha_start256) ∈ ls) : ShP W [] :=
 ⟨fun H => Z5G h (nm := "signet/sha.k256") (d := Rows.laid_signet_sha_k256) m1 n_k t_k Tryz.underlying197 Tryz.underlying155 c52 (by kernel_rfl) H,
  fun H => Z5G h (nm := "signet/sha.start256") (d := Rows.laid_signet_sha_start256) m2 n_g t_g Tryz.underlying156 Tryz.underlying155 c52 (by kernel_rfl) H⟩
end Go.Proofs.YtjajcmedipjfhaaGreatDoor
