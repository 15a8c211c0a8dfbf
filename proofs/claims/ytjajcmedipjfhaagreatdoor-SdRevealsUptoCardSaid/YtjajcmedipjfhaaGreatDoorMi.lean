/- Texts put together by a program: RevD RevE B64P B64D B64A ShlI B64E. -/
import Derived.Test.YtjajcmedipjfhaaGreatDoorMh
import Derived.Test.YtjajcmedipjfhaaGreatDoorMg
import Derived.Test.YtjajcmedipjfhaaGreatDoorMd
import Derived.Test.YtjajcmedipjfhaaGreatDoorMa
import Derived.Lib.Bytealg
import Derived.Test.YtjajcmedipjfhaaGreatDoorFacts
import Derived.Shelf.Small.Strs
import Derived.Test.YtjajcmedipjfhaaGreatDoorProg
import Derived.Test.YtjajcmedipjfhaaGreatDoorMc
/- The walks of the revealing: objects and values. -/
/- ptrs -/
namespace Sg
def objX (f:Nat) (L:List Said) (top:Bool) (met:List Dg) (x:List Nd) (key:List UInt8):Option (List Dg × List Nd):=match memV x Z0o with
 | some _=>none
 | none=>match Z8 (revV f L false) top met [] (kidsOf x 0) with
  | none=>none
  | some (m,ys)=>match Z0P (kidsOf x 0) with
   | none=>some (m,rowN 7 key ys)
   | some h=>if (Z2 h).kind=6 then
     match Zf (revV f L false) L m (Zx (kidsOf x 0)) ys (kidsOf h 0) with
     | none=>none
     | some (m',zs)=>some (m',rowN 7 key zs)
    else none
theorem Zbm {f:Nat} {L:List Said} {top:Bool} {met:List Dg} {x:List Nd} {key:List UInt8} (h:(Z2 x).kind=7):revV (f+1) L top met x key=objX f L top met x key:=by
 rw [revV]
 simp only
 rw [if_pos h]
 rfl
theorem Z9V {f:Nat} {L:List Said} {top:Bool} {met:List Dg} {x:List Nd} {key:List UInt8} (h:(Z2 x).kind=6):revV (f+1) L top met x key=rowO key (Zg (revV f L false) L met [] (kidsOf x 0)):=by
 rw [revV]
 simp only
 rw [if_neg (by omega),if_pos h]
 rfl
theorem Z9W {f:Nat} {L:List Said} {top:Bool} {met:List Dg} {x:List Nd} {key:List UInt8} (h1:(Z2 x).kind≠7) (h2:(Z2 x).kind≠6):revV (f+1) L top met x key=some (met,[(Z2 x).key_ key]):=by
 rw [revV]
 simp only
 rw [if_neg h1,if_neg h2]
section
variable {val:RevV} {met:List Dg} {ys r:List (List Nd)} {x:List Nd} {n:Nd} {top:Bool}
theorem Z93 (h1:Z2 x=n) (h:n.key=sdN):Z8 val top met ys (x::r)=Z8 val top met ys r:=by
 subst h1
 rw [Z8,if_pos h]
theorem Z7n (h1:Z2 x=n) (h:n.key≠sdN) (ht:top=true∧n.key=algN):Z8 val top met ys (x::r)=Z8 val top met ys r:=by
 subst h1
 rw [Z8,if_neg h,if_pos ht]
theorem Z7m (h1:Z2 x=n) (h:n.key≠sdN) (ht:¬(top=true∧n.key=algN)):Z8 val top met ys (x::r)=match val met x n.key with
  | none=>none
  | some (m,y)=>Z8 val top m (ys++[y]) r:=by
 subst h1
 rw [Z8,if_neg h,if_neg ht]
 rfl
end
def ZdO (v:List Nd) (hI:Int):Option (List Nd)→Prop
 | none=>hI = -1
 | some h=>∃ j:Nat,hI=(j:Int)∧IsAt v j∧Za v j=h
theorem ZaF:∀ us:List (List Nd),(∀ y∈us,Vl y)→us.length≤us.flatten.length
 | [],_=>Nat.le_refl _
 | x::r,h=>by
  have h1:=ZaF r fun y hy=>h y (List.mem_cons_of_mem _ hy)
  have h2:=(h x (List.mem_cons_self ..)).1.pos
  rw [Z5,List.length_cons]
  omega
theorem Zbb {v:List Nd} {q i:Nat} (h:IsAt v q) (hi:i < (kidsOf v q).length):(kidsOf v q).take (i+1)=(kidsOf v q).take i++[Za v ((offs (q+1) (kidsOf v q)).getD i 0)]:=by
 rw [List.take_succ_eq_append_getElem hi,Z0A h hi]
end Sg
namespace Go.Proofs.YtjajcmedipjfhaaGreatDoor
open Sg Go.IntWalk
set_option maxRecDepth 100000
set_option maxHeartbeats 4000000
section
variable {F:World} {M:List Nat} {H:List Res} {p bb sb nb:Nat} {B E N:Ents} {met:List Dg} {oa:Option Addr} {oc:Nat} {o:List Nd} {ds:List Dc} {d:Dg} {ns:List (List UInt8)}
theorem Z8v {H H':List Res} (h:H.Perm H'):∀ ds:List Dc,(dcR met ds H).Perm (dcR met ds H')
 | []=>h
 | _::r=>(Z8v h r).cons _
theorem sink4 (x a b c e:Res) (H:List Res) (ds:List Dc):(x::a::b::c::e::dcR met ds H).Perm (a::b::c::e::dcR met ds (x::H)) :=
 (List.Perm.swap _ _ _).trans (((List.Perm.swap _ _ _).trans (((List.Perm.swap _ _ _).trans (((List.Perm.swap _ _ _).trans ((Z29 _ H ds).cons _)).cons _)).cons _)).cons _)
theorem Z7i {f:Nat} (hv:ValS F M p bb sb B ds f) (hG:∀ x∈ds,NGood x.s.value∧Fo 1 x.s.value) (hGn:∀ x∈ds,x.s.name.length≤maxLen) {v:List Nd} {va:Option Addr} {vc q:Nat} {key:List UInt8} {top:Bool} (hR:Rd F M H va (v.flatMap ndV)) (hg:NGood v) (ha:IsAt v q) (hkl:key.length≤maxLen) (hD:∀ x∈ds,Rd F M H x.va (x.s.value.flatMap ndV)) (hB:Bk2 B E ds met)
  (hf:(Za v q).length+pend (ds.map (·.s)) met < f+1) (hn:o.length+(Za v q).length+met.length+pend (ds.map (·.s)) met≤1000000000) :
  Meets Tryz.prog 53 [.pointer (some ⟨p,0,none⟩),.slice va v.length vc,.int .i64 q,sV key,.bool top] F M (wkR p bb sb B E met oa oc o ds H)
   (RevO p bb sb B ds H o (objX f (ds.map (·.s)) top met (Za v q) key)):=by
 refine Meets.enter Tryz.func53 rfl rfl ?_
 have hlt:=ha.lt
 have hvl:=hg.len
 obtain ⟨hk1,hk2⟩:=ha.kids_len
 generalize hL:ds.map (·.s)=L at *
 have hLv:∀ s∈L,Vl s.value:=fun s hs=>by
  rw [←hL] at hs
  obtain ⟨x,hx,rfl⟩:=List.mem_map.1 hs
  exact ⟨(hG x hx).2,(hG x hx).1.flat⟩
 have hval:(Za v q).length=(kidsOf v q).flatten.length+1:=rfl
 have hko:=Zv ha
 have hkv:∀ y∈kidsOf v q,Vl y:=by rw [←hko];exact (hg.vl ha).kids
 have hNm:maxLen=9223372036854775807:=rfl
 unfold objX
 rw [hko]
 unfold wkR
 repeat' (first|refine Sg.Y1 ?_|fail)
 refine T.call rfl rfl (Z1I (v:=v) (key:=Z0o) rfl hvl ha) ?_
 rintro _ _ ⟨rfl,rfl⟩
 rcases Z0l ha Z0o with ⟨m1,m2⟩|⟨qd,m1,md,m2⟩
 ·rw [m1,m2]
  simp only
  generalize hQ:Z8 (revV f L false) top met [] (kidsOf v q)=Q
  repeat' (first|(apply T.lss;(iterate 3 apply rfl))|(with_reducible apply T.ofRet)|fail)
  refine T.call rfl rfl Z0D ?_
  rintro _ _ ⟨rfl,rfl⟩
  repeat' (first|(apply Sr.same;refine T.appendF (g:=ndV) (hdN 7 key) rfl rfl rfl inferInstance (fun _=>rfl) rfl rfl rfl (by constructor<;>omega) rfl ?_;intro oa' oc')|(apply T.mapMake;apply rfl;intro mb)|(apply T.bsL;(iterate 5 apply rfl);intro nb)|refine Sg.Y1 ?_|fail)
  have hol:(o++[hdN 7 key]).length=o.length+1:=by simp
  refine T.call rfl rfl (Z22 rfl hvl ha) ?_
  rintro _ _ ⟨ka,kc,rfl,rfl⟩
  dsimp only [wkV,List.set_cons_zero,List.set_cons_succ]
  repeat' (first|refine Sg.Y1 ?_|fail)
  refine S.perm ?_ (((sink4 _ _ _ _ _ H ds).cons _).trans (sink4 _ _ _ _ _ _ ds))
  generalize hks:kidsOf v q=ks at *
  obtain ⟨kr,hkr⟩:∃ kr,kr=Res.row ka kc 3 1 ks.length ((offs (q+1) ks).map nV):=⟨_,rfl⟩
  have hRd:∀ N',∀ x∈ds,Rd F M (kr::nmE mb N'::H) x.va (x.s.value.flatMap ndV):=fun N' x hx=>by
   have:=hD x hx
   exact Rd.tl
  have hRv:∀ N',Rd F M (kr::nmE mb N'::H) va (v.flatMap ndV):=fun N'=>Rd.tl
  obtain ⟨K,hK⟩:∃ K,K=(ks.filter fun x=>!((Z2 x).key==sdN)).flatten.length+met.length+pend L met:=⟨_,rfl⟩
  have hKle:=Z0z (fun x=>!((Z2 x).key==sdN)) ks
  refine S.loopE 4 [0,1,4,10,11,41,42] (fun R b' μ H' e=>∃ (i k:Nat) (hI:Int) (E' N':Ents) (mt:List Dg) (xa:Option Addr) (xc:Nat) (ys:List (List Nd)),H'=wkR p bb sb B E' mt xa xc (o++hdN 7 key::ys.flatten) ds (kr::nmE mb N'::H)∧e=(12,.int .i64 k)::(13,.int .i64 hI)::(43,.int .i64 i)::b' ∧
   (i≤ks.length∧k≤i∧ys.length=k∧Bk2 B E' ds mt∧Nm2 N' (Zx (ks.take i))∧ZdO v hI (Z0P (ks.take i))∧Z8 (revV f L false) top mt ys (ks.drop i)=Q∧ys.flatten.length+((ks.drop i).filter fun x=>!((Z2 x).key==sdN)).flatten.length+mt.length+pend L mt≤K∧pend L mt≤pend L met)∧μ=ks.length - i) rfl rfl ?_ _ _
   ⟨0,0,-1,E,[],met,oa',oc',[],by rw [List.flatten_nil,hkr];unfold wkR;rw [hol];rfl,rfl,⟨Nat.zero_le _,Nat.le_refl _,rfl,hB,⟨fun n=>by simp [Zx,eget],by simp⟩,rfl,by simpa using hQ,by rw [List.drop_zero,List.flatten_nil,List.length_nil];omega,Nat.le_refl _⟩,rfl⟩ (by repeat' first|exact trivial|refine And.intro rfl ?_)
  rintro _ _ _ ⟨i,k,hI,E',N',mt,xa,xc,ys,rfl,rfl,⟨g1,g2,g7,g3,g8,g9,g4,g5,g6⟩,rfl⟩ ih
  have hoy:(o++hdN 7 key::ys.flatten).length=o.length+1+ys.flatten.length:=by simp;omega
  by_cases h1:i < ks.length
  ·have hdr:=Z1r ha (by rw [hks];exact h1)
   have htk:=Zbb ha (by rw [hks];exact h1)
   have hi2:=Z2i ha (by rw [hks];exact h1)
   rw [hks] at hdr htk hi2
   rw [hdr] at g4 g5
   have hol2:(offs (q+1) ks).length=ks.length:=Z0g ..
   have hvx:=hg.vl hi2
   have hxk:Za v ((offs (q+1) ks).getD i 0)∈ks:=by
    have:Za v ((offs (q+1) ks).getD i 0)∈ks.drop i:=by rw [hdr];exact List.mem_cons_self ..
    exact List.mem_of_mem_drop this
   have hxl:=ZW hxk
   unfold wkR
   subst hkr
   repeat' (first|refine Sg.Y3 ?_|(apply S.condQ;apply rfl;all_goals intro _)|fail)
   generalize (offs (q+1) ks).getD i 0=qi at *
   have hqlt:=hi2.lt
   have e2:Z2 (Za v qi)=v.getD qi default:=Z4 hqlt
   have hnsn:=Z2m (ks.take i) (Za v qi)
   have hhsn:=Z6z (ks.take i) (Za v qi)
   rw [←htk,e2] at hnsn hhsn
   have hkl2:=(hg.texts _ (Z20 hqlt)).1
   rw [Z4 hqlt] at hkl2
   by_cases c1:(v.getD qi default).key=[95,115,100]
   ·have c1':(v.getD qi default).key=sdN:=c1
    rw [if_pos c1'] at hnsn hhsn
    rw [Z93 e2 c1'] at g4
    rw [List.filter_cons_of_neg (by rw [e2];simpa using c1')] at g5
    rw [←hnsn] at g8
    repeat' (first|refine Sg.Y3 ?_|(apply S.condQ;apply rfl;all_goals intro _)|fail)
    exact ih _ _ _ _ ⟨i+1,k,(qi:Int),E',N',mt,xa,xc,ys,rfl,rfl,⟨by omega,by omega,g7,g3,g8,by rw [hhsn];exact ⟨qi,rfl,hi2,rfl⟩,g4,g5,g6⟩,rfl⟩ (by omega) (by repeat' first|exact trivial|refine And.intro rfl ?_)
   ·have c1':¬(v.getD qi default).key=sdN:=c1
    rw [if_neg c1'] at hnsn hhsn
    rw [List.filter_cons_of_pos (by rw [e2];simpa using c1'),Z5] at g5
    have hnp:=Zcd g8 (v.getD qi default).key
    rw [←hnsn] at hnp
    have hgn:=g8.get (v.getD qi default).key
    have hcn:(Zx (ks.take i)).count (v.getD qi default).key≤(Zx (ks.take i)).length:=List.count_le_length
    have hnl:(Zx (ks.take i)).length≤ks.length:=by
     unfold Zx
     refine Nat.le_trans (List.length_filter_le ..) ?_
     rw [List.length_map,List.length_take]
     omega
    have hNl:=g8.len
    have step:∀ {k':List Item} {e':Env} {cx:Ctx},True:=trivial
    by_cases cA:top=true∧(v.getD qi default).key=[95,115,100,95,97,108,103]
    ·obtain ⟨rfl,cB⟩:=cA
     rw [Z7n e2 c1' ⟨rfl,cB⟩] at g4
     repeat' (first|refine Sg.Y3 ?_|(apply S.condQ;apply rfl;all_goals intro _)|fail)
     rw [hgn]
     repeat' (first|(apply Sr.same;refine T.mapPutA (z:=((Zx (ks.take i)).count (v.getD qi default).key:Int)+1) rfl rfl rfl inferInstance hkl2 (by omega) (Z9u (by constructor<;>omega)) ?_)|refine Sg.Y3 ?_|(apply S.condQ;apply rfl;all_goals intro _)|fail)
     dsimp only
     generalize eput N' (v.getD qi default).key (((Zx (ks.take i)).count (v.getD qi default).key:Int)+1)=N2 at hnp ⊢
     exact ih _ _ _ _ ⟨i+1,k,hI,E',N2,mt,xa,xc,ys,rfl,rfl,⟨by omega,by omega,g7,g3,hnp,by rw [hhsn];exact g9,g4,by omega,g6⟩,rfl⟩ (by omega) (by repeat' first|exact trivial|refine And.intro rfl ?_)
    ·have cA':¬(top=true∧(v.getD qi default).key=algN):=cA
     have cB:top=true→¬(v.getD qi default).key=[95,115,100,95,97,108,103]:=fun h h'=>cA ⟨h,h'⟩
     rw [Z7m e2 c1' cA'] at g4
     clear cA cA'
     have hN2:∃ N2,N2=eput N' (v.getD qi default).key (((Zx (ks.take i)).count (v.getD qi default).key:Int)+1):=⟨_,rfl⟩
     obtain ⟨N2,hN2⟩:=hN2
     rw [←hN2] at hnp
     have hc:=hv _ E' mt xa xc (o++hdN 7 key::ys.flatten) v va vc qi (v.getD qi default).key false (hRv N2) hg hi2 hkl2 (hRd N2) g3 (by rw [hL];omega) (by rw [hL];omega)
     rw [hL] at hc
     cases hr:revV f L false mt (Za v qi) (v.getD qi default).key with
     | none =>
      rw [hr] at g4 hc
      simp only at g4
      rw [←g4]
      cases top
      all_goals
       try replace cB:=cB rfl
       repeat' (first|refine Sg.Y3 ?_|(apply S.condQ;apply rfl;all_goals intro _)|fail)
       rw [hgn]
       repeat' (first|(apply Sr.same;refine T.mapPutA (z:=((Zx (ks.take i)).count (v.getD qi default).key:Int)+1) rfl rfl rfl inferInstance hkl2 (by omega) (Z9u (by constructor<;>omega)) ?_)|refine Sg.Y3 ?_|(apply S.condQ;apply rfl;all_goals intro _)|fail)
       dsimp only
       rw [←hN2]
       refine T.call rfl rfl hc ?_
       rintro _ _ ⟨rfl,rfl⟩
       repeat' (first|(with_reducible apply T.diesW)|(with_reducible apply T.ofPan)|fail)
       exact ⟨_,PSub.drop (PSub.drop (PSub.refl _)),rfl,rfl⟩
     | some my =>
      obtain ⟨m,y⟩:=my
      rw [hr] at g4 hc
      simp only at g4
      obtain ⟨b1,b2⟩:=Z0b hLv f false mt _ _ m y hvx (by omega) hr
      have b3:=b1.size
      obtain ⟨r1,b4⟩:=b1.grow
      have b5:=ZP L mt r1
      rw [←b4] at b5
      have hys:=ZD ys y
      have hyl:(ys++[y]).length=ys.length+1:=List.length_append
      have hmt:mt.length≤m.length:=by rw [b4,List.length_append];omega
      cases top
      all_goals
       try replace cB:=cB rfl
       repeat' (first|refine Sg.Y3 ?_|(apply S.condQ;apply rfl;all_goals intro _)|fail)
       rw [hgn]
       repeat' (first|(apply Sr.same;refine T.mapPutA (z:=((Zx (ks.take i)).count (v.getD qi default).key:Int)+1) rfl rfl rfl inferInstance hkl2 (by omega) (Z9u (by constructor<;>omega)) ?_)|refine Sg.Y3 ?_|(apply S.condQ;apply rfl;all_goals intro _)|fail)
       dsimp only
       rw [←hN2]
       refine T.call rfl rfl hc ?_
       rintro _ _ ⟨E3,ya,yc,k2,rfl,rfl⟩
       repeat' (first|refine Sg.Y2 ?_|fail)
       rw [show o++hdN 7 key::ys.flatten++y=o++hdN 7 key::(ys++[y]).flatten by simp]
       exact ih _ _ _ _ ⟨i+1,k+1,hI,E3,N2,m,ya,yc,ys++[y],rfl,rfl,⟨by omega,by omega,by omega,k2,hnp,by rw [hhsn];exact g9,g4,by omega,by omega⟩,rfl⟩ (by omega) (by repeat' first|exact trivial|refine And.intro rfl ?_)
  ·obtain rfl:i=ks.length:=by omega
   clear ih
   rw [List.drop_length] at g4
   rw [List.take_length] at g8 g9
   have hq2:Q=some (mt,ys):=g4.symm
   subst hq2
   subst g7
   simp only
   have hgi:(o++hdN 7 key::ys.flatten)[o.length]?=some (hdN 7 key):=by simp
   have hse:(o++hdN 7 key::ys.flatten).set o.length ⟨7,key,[],false,0,(ys.length:Int)⟩=o++rowN 7 key ys:=by simp [rowN]
   cases hh:Z0P ks with
   | none =>
    rw [hh] at g9
    have g9':hI = -1:=g9
    subst g9'
    unfold wkR
    repeat' (first|(apply Sr.same;refine T.storeF (g:=ndV) ⟨7,key,[],false,0,(ys.length:Int)⟩ rfl rfl inferInstance (fun _=>rfl) rfl hgi rfl rfl ?_)|refine Sg.Y3 ?_|(apply S.condQ;apply rfl;all_goals intro _)|fail)
    rw [hse,show (o++hdN 7 key::ys.flatten).length=(o++rowN 7 key ys).length by simp [rowN]]
    exact ⟨_,PSub.take Z0 (PSub.take Z0 (PSub.take Z0 (PSub.take Z0 (PSub.trans (Z2Y _ _ _) (Z2Y _ _ _))))),E',xa,xc,g3,rfl,rfl⟩
   | some h =>
    rw [hh] at g9
    obtain ⟨j,rfl,g10,g11⟩:=g9
    obtain ⟨w1,w2,w3,w4⟩:=Z1s hkv hh
    subst g11
    rw [Zv g10] at w4
    dsimp only
    rw [Zv g10,ZA]
    have hnl:(Zx ks).length≤ks.length:=by
     unfold Zx
     refine Nat.le_trans (List.length_filter_le ..) ?_
     rw [List.length_map]
     omega
    have hc:=Z4p (F:=F) (M:=M) (H:=kr::H) (p:=p) (bb:=bb) (sb:=sb) (nb:=mb) (B:=B) (E:=E') (N:=N') (met:=mt) (oa:=xa) (oc:=xc) (o:=o++hdN 7 key::ys.flatten) (ns:=Zx ks) (va:=va) (vc:=vc) hv hG hGn (by subst hkr;exact Rd.tl) hg g10 (fun x hx=>by have:=hD x hx;subst hkr;exact Rd.tl) g3 g8 (by rw [hL];omega) (by rw [hL];omega) (by omega)
    rw [hL] at hc
    unfold wkR
    have hsw:∀ mt,(dcR mt ds (kr::nmE mb N'::H)).Perm (dcR mt ds (nmE mb N'::kr::H)):=fun mt=>Z8v (List.Perm.swap _ _ _) ds
    refine S.perm ?_ ((((hsw mt).cons _).cons _).cons _ |>.cons _)
    by_cases hk6:(Z0C v j).kind=6
    ·rw [if_pos hk6] at hc ⊢
     rw [Z1i]
     generalize hQ2:Zf (revV f L false) L mt (Zx ks) [] (kidsOf v j)=Q2 at hc ⊢
     cases Q2 with
     | none =>
      repeat' (first|refine Sg.Y3 ?_|(apply S.condQ;apply rfl;all_goals intro _)|fail)
      refine T.call rfl rfl hc ?_
      rintro _ _ ⟨rfl,rfl⟩
      repeat' (first|(with_reducible apply T.diesW)|(with_reducible apply T.ofPan)|fail)
      subst hkr
      exact ⟨_,PSub.drop (PSub.refl _),rfl,rfl⟩
     | some mu =>
      obtain ⟨m,us⟩:=mu
      obtain ⟨⟨us',d1,d2⟩,d3⟩:=Z25 (Z0b hLv f false) hLv _ _ _ _ _ _ (by rw [←Zv g10];exact w1.kids) (fun y hy=>by cases hy) (by omega) hQ2
      rw [List.nil_append] at d1
      subst d1
      have d4:=d2.size
      have d5:=ZaF us d3
      have husl:us.length≤1000000000000:=by omega
      dsimp only [addP]
      repeat' (first|refine Sg.Y3 ?_|(apply S.condQ;apply rfl;all_goals intro _)|fail)
      refine T.call rfl rfl hc ?_
      rintro _ _ ⟨E3,ya,yc,N3,k2,rfl,rfl⟩
      have hgi2:(o++hdN 7 key::ys.flatten++us.flatten)[o.length]?=some (hdN 7 key):=by simp
      have hse2:(o++hdN 7 key::ys.flatten++us.flatten).set o.length ⟨7,key,[],false,0,(ys.length:Int)+(us.length:Int)⟩=o++rowN 7 key (ys++us):=by simp [rowN]
      have hgl:o.length < (o++hdN 7 key::ys.flatten++us.flatten).length:=by simp
      repeat' (first|(apply Sr.same;refine T.storeF (g:=ndV) ⟨7,key,[],false,0,(ys.length:Int)+(us.length:Int)⟩ rfl rfl inferInstance (fun _=>rfl) rfl hgi2 rfl rfl ?_)|refine Sg.Y2 ?_|fail)
      rw [hse2,show (o++hdN 7 key::ys.flatten++us.flatten).length=(o++rowN 7 key (ys++us)).length by simp [rowN]]
      exact ⟨_,PSub.take Z0 (PSub.take Z0 (PSub.take Z0 (PSub.take Z0 (PSub.trans (Z2Y _ _ _) (Z2Y _ _ _))))),E3,ya,yc,k2,rfl,rfl⟩
    ·rw [if_neg hk6] at hc ⊢
     repeat' (first|refine Sg.Y3 ?_|(apply S.condQ;apply rfl;all_goals intro _)|fail)
     refine T.call rfl rfl hc ?_
     rintro _ _ ⟨rfl,rfl⟩
     repeat' (first|(with_reducible apply T.diesW)|(with_reducible apply T.ofPan)|fail)
     subst hkr
     exact ⟨_,PSub.drop (PSub.refl _),rfl,rfl⟩
 ·rw [m1,m2]
  repeat' (first|(apply T.lss;(iterate 3 apply rfl))|(with_reducible apply T.ofRet)|fail)
  rw [decide_eq_false (by omega)]
  refine T.call rfl rfl Z0k ?_
  rintro _ _ ⟨rfl,rfl⟩
  repeat' (first|(with_reducible apply T.diesW)|(with_reducible apply T.ofPan)|fail)
  exact ⟨_,(PSub.drop (PSub.drop (PSub.drop (PSub.drop (Z0p _ _ _))))),rfl,rfl⟩
theorem Z9w (hG:∀ x∈ds,NGood x.s.value∧Fo 1 x.s.value) (hGn:∀ x∈ds,x.s.name.length≤maxLen):∀ f,ValS F M p bb sb B ds f:=by
 intro f
 induction f with
 | zero=>intro H E met oa oc o v va vc q key top _ _ _ _ _ _ h;omega
 | succ f ih =>
  intro H E met oa oc o v va vc q key top hR hg ha hkl hD hB hf hn
  refine Meets.enter Tryz.func29 rfl rfl ?_
  have hlt:=ha.lt
  have hvl:=hg.len
  have e1:=Z4 (v:=v) hlt
  have hval:(Za v q).length=(kidsOf v q).flatten.length+1:=rfl
  generalize hS:revV (f+1) (ds.map (·.s)) top met (Za v q) key=S'
  unfold wkR
  repeat' (first|(apply T.alloc;apply rfl;intro nb)|refine Sg.Y1 ?_|fail)
  by_cases c7:(v.getD q default).kind=7
  ·rw [Zbm (by rw [ZA,e1];exact c7)] at hS
   have hc:=Z7i ih hG hGn (key:=key) (top:=top) (vc:=vc) (oa:=oa) (oc:=oc) hR hg ha hkl hD hB hf hn
   rw [hS] at hc
   refine S.sublist ?_ (PSub.drop (PSub.refl _))
   repeat' (first|(apply T.mv;apply rfl;apply rfl)|with_reducible refine S.reg ?_|(apply S.condQ;apply rfl;all_goals (intro _;try (exfalso;first|omega|with_reducible contradiction)))|fail)
   refine T.call rfl rfl hc ?_
   cases S' with
   | none =>
    rintro _ _ ⟨rfl,rfl⟩
    repeat' (first|(with_reducible apply T.diesW)|(with_reducible apply T.ofPan)|fail)
    exact ⟨_,PSub.refl _,rfl,rfl⟩
   | some my =>
    rintro _ _ ⟨E3,ya,yc,k2,rfl,rfl⟩
    repeat' (first|refine Sg.Y2 ?_|fail)
    exact ⟨_,PSub.refl _,E3,ya,yc,k2,rfl,rfl⟩
  ·by_cases c6:(v.getD q default).kind=6
   ·rw [Z9V (by rw [ZA,e1];exact c6),Zv ha] at hS
    have hc:=Zar ih hG (key:=key) (vc:=vc) (oa:=oa) (oc:=oc) hR hg ha hkl hD hB hf hn
    rw [hS] at hc
    refine S.sublist ?_ (PSub.drop (PSub.refl _))
    repeat' (first|refine Sg.Y3 ?_|(apply S.condQ;apply rfl;all_goals intro _)|fail)
    refine T.call rfl rfl hc ?_
    cases S' with
    | none =>
     rintro _ _ ⟨rfl,rfl⟩
     repeat' (first|(with_reducible apply T.diesW)|(with_reducible apply T.ofPan)|fail)
     exact ⟨_,PSub.refl _,rfl,rfl⟩
    | some my =>
     rintro _ _ ⟨E3,ya,yc,k2,rfl,rfl⟩
     repeat' (first|refine Sg.Y2 ?_|fail)
     exact ⟨_,PSub.refl _,E3,ya,yc,k2,rfl,rfl⟩
   ·rw [Z9W (by rw [ZA,e1];exact c7) (by rw [ZA,e1];exact c6),ZA,e1] at hS
    subst hS
    repeat' (first|refine Sg.Y3 ?_|(apply S.condQ;apply rfl;all_goals intro _)|fail)
    (apply S.drawL;(case Hs=>exact [.blk nb ((ndV (v.getD q default)).set 1 (sV key)) 34,.blk p (wkV bb sb (dupB met) oa o.length oc) 57]);(case es=>exact  [6,7,10]);(case lt=>exact  [10]);(case n=>exact  11);(case hn=>rfl))
    repeat' (first|(refine T.appendF (g:=ndV) ((v.getD q default).key_ key) rfl rfl rfl inferInstance (fun _=>rfl) rfl rfl rfl (by constructor<;>omega) rfl ?_;intro oa' oc')|(apply T.bsL;(iterate 5 apply rfl);intro nb)|(apply SA.qn;(iterate 4 apply rfl);kernel_rfl)|(apply SA.qz;(iterate 4 apply rfl);kernel_rfl)|(apply SA.qsn;(iterate 3 apply rfl);kernel_rfl;(first|exact fun _ h=>h|exact fun _ h=>St.psub h (by ((repeat (first|dsimp only [List.set_cons_zero]|dsimp only [List.set_cons_succ]));repeat' first|exact PSub.refl _|exact PSub.nil|(apply PSub.take;(repeat' first|(with_reducible exact Z0)|(with_reducible apply Z1)))|(with_reducible apply PSub.drop)|((apply PSub.take);(repeat' first|exact Z0|(apply Z1)))))))|(apply SA.done;apply rfl;kernel_rfl)|(apply SK.late;decide)|(apply SK.intro;(first|exact fun _ h=>h|exact fun _ h=>St.psub h (by ((repeat (first|dsimp only [List.set_cons_zero]|dsimp only [List.set_cons_succ]));repeat' first|exact PSub.refl _|exact PSub.nil|(apply PSub.take;(repeat' first|(with_reducible exact Z0)|(with_reducible apply Z1)))|(with_reducible apply PSub.drop)|((apply PSub.take);(repeat' first|exact Z0|(apply Z1)))))))|refine Sg.Y2 ?_|fail)
    rw [show o.length+1=(o++[(v.getD q default).key_ key]).length by simp]
    exact ⟨_,PSub.drop (PSub.refl _),E,oa',oc',hB,rfl,rfl⟩
end
end Go.Proofs.YtjajcmedipjfhaaGreatDoor
/- What a disclosure says, in plain Lean; what has been read from a text holds nothing where it may not. -/
namespace Sg
def Flat (l:List Nd):Prop:=∀ n∈l,n.kind≠6→n.kind≠7→n.kids=0
theorem Flat.one {n:Nd} (h:n.kind≠6→n.kind≠7→n.kids=0):Flat [n]:=fun m hm=>by
 rw [List.mem_singleton.1 hm]
 exact h
theorem Flat.app {a b:List Nd} (ha:Flat a) (hb:Flat b):Flat (a++b):=fun m hm=>(List.mem_append.1 hm).elim (ha m) (hb m)
theorem Flat.cons {n:Nd} {a:List Nd} (h:n.kind≠6→n.kind≠7→n.kids=0) (ha:Flat a):Flat (n::a):=fun m hm=>(List.mem_cons.1 hm).elim (fun e=>by rw [e];exact h) (ha m)
theorem Flat.named {l:List Nd} (h:Flat l) (k:List UInt8):Flat (ZJ l k):=by
 cases l with
 | nil=>exact h
 | cons n r=>exact Flat.cons (h n (List.mem_cons_self ..)) fun m hm=>h m (List.mem_cons_of_mem _ hm)
theorem Z50 {wh:List UInt8→Int × Bool} {t:List UInt8} {p a:Nat} {c:UInt8} {l:List Nd} (h:Z0m wh t p c=.ok a l):Flat l:=by
 unfold Z0m at h
 repeat' split at h
 all_goals first
  | (obtain ⟨b,v,-,h⟩:=Zo h;cases h;exact Flat.one fun _ _=>rfl)
  | cases h
theorem Zay {val:Nat→Gt (List Nd)} (hv:∀ {p a l},val p=.ok a l→Flat l) {t:List UInt8} {obj:Bool} {p a:Nat} {names:List (List UInt8)} {g:List Nd × List UInt8} (h:Z0O val t obj p names=.ok a g):Flat g.1:=by
 unfold Z0O at h
 split at h
 ·split at h
  ·obtain ⟨b,s,-,h⟩:=Zo h
   split at h
   ·cases h
   ·split at h
    ·obtain ⟨d,v,h1,h⟩:=Zo h
     cases h
     exact (hv h1).named _
    ·cases h
  ·cases h
 ·obtain ⟨d,v,h1,h⟩:=Zo h
  cases h
  exact hv h1
theorem Z7Y {val:Nat→Gt (List Nd)} (hv:∀ {p a l},val p=.ok a l→Flat l) {t:List UInt8} {obj:Bool}:∀ {f p a:Nat} {names:List (List UInt8)} {hd:Nd} {out l:List Nd},rowX val t obj f p names hd out=.ok a l→(hd.kind=6∨hd.kind=7)→Flat out→Flat l
 | 0,p,a,names,hd,out,l,h,_,_=>by rw [rowX] at h;cases h
 | f+1,p,a,names,hd,out,l,h,hk,ho=>by
  rw [rowX] at h
  obtain ⟨b,g,hi,h⟩:=Zo h
  have hg:=Zay hv hi
  have hh:hd.more.kind≠6→hd.more.kind≠7→hd.more.kids=0:=fun a b=>(hk.elim (fun e=>a e) fun e=>b e).elim
  unfold rowE at h
  split at h
  ·cases h
   exact Flat.cons hh (ho.app hg)
  ·split at h
   ·exact Z7Y hv h hk (ho.app hg)
   ·cases h
theorem Z9B {wh:List UInt8→Int × Bool} {t:List UInt8}:∀ {d p a:Nat} {l:List Nd},valX wh t d p=.ok a l→Flat l:=by
 intro d
 induction d with
 | zero =>
  intro p a l h
  rw [valX] at h
  split at h
  ·cases h
  ·split at h
   ·cases h
   ·exact Z50 h
 | succ d ih =>
  intro p a l h
  rw [valX] at h
  split at h
  ·cases h
  ·split at h
   ·rename_i c hc hb
    have h':(if atB t (Z3 t (p+1)) (Z06 (decide (c=123)))=true then Gt.ok (Z3 t (p+1)+1) [nd (if c=123 then 7 else 6)] else rowX (valX wh t d) t (decide (c=123)) (t.length+1) (Z3 t (p+1)) [] (nd (if c=123 then 7 else 6)) [])=Gt.ok a l:=h
    split at h'
    ·cases h'
     exact Flat.one fun _ _=>rfl
    ·refine Z7Y ih h' ?_ fun m hm=>by cases hm
     by_cases h1:c=123
     ·exact .inr (by simp [nd,h1])
     ·exact .inl (by simp [nd,h1])
   ·exact Z50 h
theorem Z4N {wh:List UInt8→Int × Bool} {t:List UInt8} {a:Nat} {l:List Nd} (h:Z05 wh t=.ok a l):Flat l:=by
 unfold Z05 at h
 split at h
 ·cases h
 ·obtain ⟨b,v,hv,h⟩:=Zo h
  split at h
  ·cases h
  ·cases h
   exact Z9B hv
theorem Z3M {wh:List UInt8→Int × Bool} {t:List UInt8} {a:Nat} {l:List Nd} (h:Z05 wh t=.ok a l):NGood l:=by
 obtain ⟨h1,h2,h3⟩:=Z5y h
 exact ⟨Z4N h,fun n hn=>⟨Nat.le_trans (h2 n hn).key (by omega),Nat.le_trans (h2 n hn).text (by omega)⟩,by omega⟩
def Z3E (dg:List UInt8) (v:List Nd):Option Said:=if (Z2 v).kind=6 then
  match kidsOf v 0 with
  | [a,x]=>if (Z2 a).kind=5 then some ⟨dg,[],false,x⟩ else none
  | [a,n,x]=>if (Z2 a).kind=5∧((Z2 n).kind=5∧(Z2 n).text≠sdN∧(Z2 n).text≠Z0o) then some ⟨dg,(Z2 n).text,true,x⟩ else none
  | _=>none
 else none
theorem Z62 {dg:List UInt8} {v:List Nd} (h:(Z2 v).kind≠6):Z3E dg v=none:=by
 unfold Z3E
 rw [if_neg h]
theorem Z7X {dg:List UInt8} {v:List Nd} (h2:(kidsOf v 0).length≠2) (h3:(kidsOf v 0).length≠3):Z3E dg v=none:=by
 unfold Z3E
 split
 ·match hk:kidsOf v 0 with
  | []=>rfl
  | [_]=>rfl
  | [_,_]=>rw [hk] at h2;exact absurd rfl h2
  | [_,_,_]=>rw [hk] at h3;exact absurd rfl h3
  | _::_::_::_::_=>rfl
 ·rfl
theorem Z7W {dg:List UInt8} {v:List Nd} (h:(Z2 v).kind=6) (h2:(kidsOf v 0).length=2):Z3E dg v=if (Z2 ((kidsOf v 0).getD 0 [])).kind=5 then some ⟨dg,[],false,(kidsOf v 0).getD 1 []⟩ else none:=by
 unfold Z3E
 rw [if_pos h]
 match hk:kidsOf v 0 with
 | []=>rw [hk] at h2;cases h2
 | [_]=>rw [hk] at h2;cases h2
 | [_,_]=>rfl
 | _::_::_::_=>rw [hk] at h2;cases h2
theorem Z4D {dg:List UInt8} {v:List Nd} (h:(Z2 v).kind=6) (h2:(kidsOf v 0).length=3):Z3E dg v=if (Z2 ((kidsOf v 0).getD 0 [])).kind=5∧((Z2 ((kidsOf v 0).getD 1 [])).kind=5∧(Z2 ((kidsOf v 0).getD 1 [])).text≠sdN∧(Z2 ((kidsOf v 0).getD 1 [])).text≠Z0o) then some ⟨dg,(Z2 ((kidsOf v 0).getD 1 [])).text,true,(kidsOf v 0).getD 2 []⟩ else none:=by
 unfold Z3E
 rw [if_pos h]
 match hk:kidsOf v 0 with
 | []=>rw [hk] at h2;cases h2
 | [_]=>rw [hk] at h2;cases h2
 | [_,_]=>rw [hk] at h2;cases h2
 | [_,_,_]=>rfl
 | _::_::_::_::_=>rw [hk] at h2;cases h2
theorem Zau {v:List Nd} (h:Fo 1 v) {i:Nat} (hi:i+1=(kidsOf v 0).length):v.drop ((offs 1 (kidsOf v 0)).getD i 0)=(kidsOf v 0).getD i []:=by
 have h2:(offs 1 (kidsOf v 0)).getD i 0=1+((kidsOf v 0).take i).flatten.length:=Z1Z (by omega)
 obtain ⟨-,-,h3,-⟩:=Zu h
 rw [h2]
 generalize kidsOf v 0=ks at *
 have h4:ks=ks.take i++[ks.getD i []]:=by
  conv=>lhs;rw [←List.take_append_drop i ks]
  rw [List.drop_eq_getElem_cons (by omega),List.drop_eq_nil_of_le (by omega)]
  simp [List.getD,show i < ks.length by omega]
 generalize ks.getD i []=y at *
 generalize ks.take i=us at *
 subst h4
 rw [h3,Nat.add_comm,List.drop_succ_cons,List.flatten_append,List.drop_left]
 simp
theorem Z8j {v:List Nd} (h:Fo 1 v) {i:Nat} (hi:i < (kidsOf v 0).length):(offs 1 (kidsOf v 0)).getD i 0 < v.length∧Z0C v ((offs 1 (kidsOf v 0)).getD i 0)=Z2 ((kidsOf v 0).getD i []):=by
 have h1:=Z2i (IsAt.of_fo h) hi
 have h2:=Z0A (IsAt.of_fo h) hi
 refine ⟨h1.lt,?_⟩
 have h3:Z2 (Za v ((offs (0+1) (kidsOf v 0)).getD i 0))=Z2 (kidsOf v 0)[i]:=by rw [h2]
 simp only [List.getD,List.getElem?_eq_getElem hi,Option.getD_some]
 exact h3
def Z4m (dg:List UInt8) (b:Option (List UInt8)):Option Said:=match b with
 | none=>none
 | some b=>match Z05 Z6 b with
  | .bad _ _=>none
  | .ok _ v=>Z3E dg v
end Sg
/- Bytes spelled in 64 signs, in plain Lean: by groups of three bytes, and by bits. -/
namespace Sg
def grp (bs:List UInt8) (q:Nat):Nat:=(bs.getD (3*q) 0).toNat*65536+(bs.getD (3*q+1) 0).toNat*256+(bs.getD (3*q+2) 0).toNat
def six (bs:List UInt8) (i:Nat):Nat:=grp bs (i / 4) / 64 ^ (3 - i % 4) % 64
def Z16 (n:Nat):Nat:=(8*n+5) / 6
def enc (S bs:List UInt8):List UInt8:=(List.range (Z16 bs.length)).map fun i=>S.getD (six bs i) 0
theorem Zdp (bs:List UInt8) (i:Nat):six bs i < 64:=Nat.mod_lt _ (by decide)
theorem Zd6 (S bs:List UInt8):(enc S bs).length=Z16 bs.length:=by simp [enc]
def bitN (bs:List UInt8) (k:Nat):Nat:=(bs.getD (k / 8) 0).toNat / 2 ^ (7 - k % 8) % 2
theorem ZaT (bs:List UInt8) (k:Nat):bitN bs k < 2:=Nat.mod_lt _ (by decide)
def sumB (bs:List UInt8) (p:Nat):Nat→Nat
 | 0=>0
 | k+1=>2*sumB bs p k+bitN bs (p+k)
theorem Z9H (bs:List UInt8) (p:Nat):∀ k,sumB bs p k < 2 ^ k
 | 0=>Nat.zero_lt_one
 | k+1=>by
  have h1:=Z9H bs p k
  have h2:=ZaT bs (p+k)
  rw [sumB,Nat.pow_succ]
  omega
theorem top6 {x:Nat} (h:x < 2 ^ 8):2*(2*(2*(2*(2*(x / 128 % 2)+x / 64 % 2)+x / 32 % 2)+x / 16 % 2)+x / 8 % 2)+x / 4 % 2=x / 4:=by omega
theorem top4 {x:Nat} (h:x < 2 ^ 8):2*(2*(2*(x / 128 % 2)+x / 64 % 2)+x / 32 % 2)+x / 16 % 2=x / 16:=by omega
theorem top2 {x:Nat} (h:x < 2 ^ 8):2*(x / 128 % 2)+x / 64 % 2=x / 64:=by omega
theorem low2 (x:Nat):2*(x / 2 % 2)+x % 2=x % 4:=by omega
theorem low4 (x:Nat):2*(2*(2*(x / 8 % 2)+x / 4 % 2)+x / 2 % 2)+x % 2=x % 16:=by omega
theorem low6 (x:Nat):2*(2*(2*(2*(2*(x / 32 % 2)+x / 16 % 2)+x / 8 % 2)+x / 4 % 2)+x / 2 % 2)+x % 2=x % 64:=by omega
theorem Zbh (bs:List UInt8) (i:Nat):sumB bs (6*i) 6=six bs i:=by
 obtain ⟨q,t,rfl,ht⟩:∃ q t,i=4*q+t∧t < 4:=⟨i / 4,i % 4,by omega,by omega⟩
 have hq:(4*q+t) / 4=q:=by omega
 have hm:(4*q+t) % 4=t:=by omega
 have h1:=UInt8.toNat_lt (bs.getD (3*q) 0)
 have h2:=UInt8.toNat_lt (bs.getD (3*q+1) 0)
 have h3:=UInt8.toNat_lt (bs.getD (3*q+2) 0)
 have hb:∀ m,m < 24→bitN bs (24*q+m)=(bs.getD (3*q+m / 8) 0).toNat / 2 ^ (7 - m % 8) % 2:=fun m hm=>by
  rw [bitN,show (24*q+m) / 8=3*q+m / 8 by omega,show (24*q+m) % 8=m % 8 by omega]
 have hr:∀ p,sumB bs p 6=2*(2*(2*(2*(2*(2*0+bitN bs (p+0))+bitN bs (p+1))+bitN bs (p+2))+bitN bs (p+3))+bitN bs (p+4))+bitN bs (p+5):=fun _=>rfl
 have he:∀ j,j < 6→bitN bs (6*(4*q+t)+j)=(bs.getD (3*q+(6*t+j) / 8) 0).toNat / 2 ^ (7 - (6*t+j) % 8) % 2:=fun j hj=>by
  rw [show 6*(4*q+t)+j=24*q+(6*t+j) by omega,hb _ (by omega)]
 rw [six,hq,hm,hr,grp,he 0 (by decide),he 1 (by decide),he 2 (by decide),he 3 (by decide),he 4 (by decide),he 5 (by decide)]
 generalize hx:(bs.getD (3*q) 0).toNat=x at *
 generalize hy:(bs.getD (3*q+1) 0).toNat=y at *
 generalize hz:(bs.getD (3*q+2) 0).toNat=z at *
 clear hb hr
 have:t=0∨t=1∨t=2∨t=3:=by omega
 rcases this with rfl|rfl|rfl|rfl<;>simp only [Nat.reduceDiv,Nat.reduceMod,Nat.reduceSub,Nat.reducePow,Nat.add_zero,Nat.reduceAdd,Nat.reduceMul,Nat.zero_add,hx,hy,hz,Nat.div_one]<;>clear he hx hy hz
 ·rw [show (x*65536+y*256+z) / 262144 % 64=x / 4 by omega]
  exact top6 h1
 ·rw [show (x*65536+y*256+z) / 4096 % 64=x % 4*16+y / 16 by omega,←top4 h2,←low2 x]
  omega
 ·rw [show (x*65536+y*256+z) / 64 % 64=y % 16*4+z / 64 by omega,←top2 h3,←low4 y]
  omega
 ·rw [show (x*65536+y*256+z) % 64=z % 64 by omega,←low6 z]
theorem ZdB {a b c:Nat} (hb:b < 256) (hc:c < 256):a*2 ^ 16|||b*2 ^ 8|||c=a*65536+b*256+c:=by
 have h1:a*2 ^ 16|||b*2 ^ 8=a*2 ^ 16+b*2 ^ 8:=by
  rw [Nat.mul_comm a]
  exact (Nat.two_pow_add_eq_or_of_lt (by omega) a).symm
 rw [h1,show a*2 ^ 16+b*2 ^ 8=2 ^ 8*(a*256+b) by omega,←Nat.two_pow_add_eq_or_of_lt (by omega)]
theorem b64and63 (n:Nat):n&&&63=n % 64:=by rw [show 63=2 ^ 6 - 1 from rfl,Nat.and_two_pow_sub_one_eq_mod]
theorem and3 (n:Nat):n&&&3=n % 4:=by rw [show 3=2 ^ 2 - 1 from rfl,Nat.and_two_pow_sub_one_eq_mod]
theorem b64and15 (n:Nat):n&&&15=n % 16:=by rw [show 15=2 ^ 4 - 1 from rfl,Nat.and_two_pow_sub_one_eq_mod]
theorem or16 {a b:Nat} (hb:b < 16):a*2 ^ 4|||b=a*16+b:=by
 rw [Nat.mul_comm a,←Nat.two_pow_add_eq_or_of_lt (by omega)]
def urlS:List UInt8:=[65,66,67,68,69,70,71,72,73,74,75,76,77,78,79,80,81,82,83,84,85,86,87,88,89,90,97,98,99,100,101,102,103,104,105,106,107,108,109,110,111,112,113,114,115,116,117,118,119,120,121,122,48,49,50,51,52,53,54,55,56,57,45,95]
theorem range2 {α:Type} (f:Nat→α) (n:Nat):(List.range (n+2)).map f=(List.range n).map f++[f n,f (n+1)]:=by
 simp [List.range_succ]
theorem range3 {α:Type} (f:Nat→α) (n:Nat):(List.range (n+3)).map f=(List.range n).map f++[f n,f (n+1),f (n+2)]:=by
 simp [List.range_succ]
theorem range4 {α:Type} (f:Nat→α) (n:Nat):(List.range (n+4)).map f=(List.range n).map f++[f n,f (n+1),f (n+2),f (n+3)]:=by
 simp [List.range_succ]
end Sg
/- Bytes out of 64 signs, in plain Lean. -/
namespace Sg
def sgn (s:List UInt8) (k:Nat):Nat:=match s[k]? with
 | some c=>urlS.idxOf c
 | none=>0
def dgrp (s:List UInt8) (q:Nat):Nat:=sgn s (4*q)*262144+sgn s (4*q+1)*4096+sgn s (4*q+2)*64+sgn s (4*q+3)
def decB (s:List UInt8):List UInt8:=(List.range (s.length*6 / 8)).map fun i=>UInt8.ofNat (dgrp s (i / 3) / 256 ^ (2 - i % 3))
def Z0B (s:List UInt8):Bool:=if s.length % 4=3 then decide (dgrp s (s.length / 4) % 256=0) else if s.length % 4=2 then decide (dgrp s (s.length / 4) % 65536=0) else true
def badB (s:List UInt8):Nat:=s.findIdx fun c=>!(urlS.contains c)
def decX (s:List UInt8):List UInt8 × Int × Nat:=if badB s < s.length then ([],20,badB s) else if s.length % 4=1 then ([],21,s.length) else if Z0B s=true then (decB s,0,0) else ([],22,s.length - 1)
theorem Z5Z {s:List UInt8} (h:∀ c∈s,c∈urlS) (k:Nat):sgn s k < 64:=by
 unfold sgn
 cases hk:s[k]? with
 | none=>exact (by decide:0 < 64)
 | some c=>exact List.idxOf_lt_length_iff.2 (h c (List.mem_of_getElem? hk))
theorem Z5N (s:List UInt8):(decB s).length=s.length*6 / 8:=by simp [decB]
theorem Zbk (s:List UInt8) (o k:Nat):sgn (s.drop o) k=sgn s (o+k):=by
 unfold sgn
 rw [List.getElem?_drop]
theorem Z9Q {s:List UInt8} {k:Nat} (h:k < s.length):sgn s k=urlS.idxOf (s.getD k 0):=by
 unfold sgn
 rw [List.getElem?_eq_getElem h]
 simp [List.getD,h]
theorem Z3B {s:List UInt8} {k:Nat} (h:s.length≤k):sgn s k=0:=by
 unfold sgn
 rw [List.getElem?_eq_none h]
theorem ZaW {s:List UInt8} {i:Nat} (hi:i < s.length) (h:s.getD i 0∉urlS) (hb:∀ j,j < i→s.getD j 0∈urlS):badB s=i:=by
 unfold badB
 rw [List.findIdx_eq hi]
 have e:∀ j (hj:j < s.length),s.getD j 0=s[j]:=fun j hj=>by simp [List.getD,hj]
 refine ⟨?_,fun j hj=>?_⟩
 ·rw [e i hi] at h
  simpa using h
 ·have:=hb j hj
  rw [e j (by omega)] at this
  simpa using this
theorem Zck (c:UInt8):∀ l:List UInt8,c∈l→Go.Lib.indexByte l c=(l.idxOf c:Int)
 | [],h=>by cases h
 | b::l,h=>by
  unfold Go.Lib.indexByte
  by_cases hb:b=c
  ·subst hb
   simp
  ·rw [if_neg (by simpa using hb),List.idxOf_cons,show (b==c)=false by simpa using hb]
   have h2:c∈l:=by
    rcases List.mem_cons.1 h with h|h
    ·exact absurd h.symm hb
    ·exact h
   rw [Zck c l h2,if_neg (by simp only [beq_iff_eq];omega)]
   rfl
theorem Zaz (c:UInt8):∀ l:List UInt8,Go.Lib.indexByte l c < 0↔c∉l
 | []=>by simp [Go.Lib.indexByte]
 | b::l=>by
  have ih:=Zaz c l
  have hge:=Go.Lib.indexByte_ge l c
  unfold Go.Lib.indexByte
  by_cases h:b=c
  ·subst h
   simp
  ·have h':¬c=b:=fun e=>h e.symm
   simp only [beq_iff_eq,h,if_false,List.mem_cons,h',false_or]
   rw [←ih]
   split<;>omega
theorem Z9k (s:List UInt8) (q:Nat):(List.range (3*(q+1))).map (fun i=>UInt8.ofNat (dgrp s (i / 3) / 256 ^ (2 - i % 3)))=(List.range (3*q)).map (fun i=>UInt8.ofNat (dgrp s (i / 3) / 256 ^ (2 - i % 3)))++[UInt8.ofNat (dgrp s q / 65536),UInt8.ofNat (dgrp s q / 256),UInt8.ofNat (dgrp s q)]:=by
 rw [show 3*(q+1)=3*q+3 from rfl,range3,show 3*q / 3=q by omega,show (3*q+1) / 3=q by omega,show (3*q+2) / 3=q by omega,show 3*q % 3=0 by omega,show (3*q+1) % 3=1 by omega,show (3*q+2) % 3=2 by omega]
 simp
theorem Z7F {a b c d:Nat} (hb:b < 64) (hc:c < 64) (hd:d < 64):((a*2 ^ 18|||b*2 ^ 12)|||c*2 ^ 6)|||d=a*262144+b*4096+c*64+d:=by
 have e1:a*2 ^ 18|||b*2 ^ 12=a*2 ^ 18+b*2 ^ 12:=by
  rw [Nat.mul_comm a,←Nat.two_pow_add_eq_or_of_lt (by omega)]
 have e2:(a*2 ^ 18+b*2 ^ 12)|||c*2 ^ 6=a*2 ^ 18+b*2 ^ 12+c*2 ^ 6:=by
  rw [show a*2 ^ 18+b*2 ^ 12=2 ^ 12*(a*64+b) by omega,←Nat.two_pow_add_eq_or_of_lt (by omega)]
 have e3:(a*2 ^ 18+b*2 ^ 12+c*2 ^ 6)|||d=a*2 ^ 18+b*2 ^ 12+c*2 ^ 6+d:=by
  rw [show a*2 ^ 18+b*2 ^ 12+c*2 ^ 6=2 ^ 6*(a*4096+b*64+c) by omega,←Nat.two_pow_add_eq_or_of_lt (by omega)]
 rw [e1,e2,e3]
end Sg
/- Both spellings of bytes in 64 signs. -/
namespace Go.Proofs.YtjajcmedipjfhaaGreatDoor
open Sg Go Go.RowKit Go.IntWalk
set_option maxRecDepth 100000
set_option maxHeartbeats 2000000
theorem Z7s {l:List UInt8} {o j:Nat}:(l.drop o).getD j 0=l.getD (o+j) 0:=by simp [List.getD]
theorem ZaA (bs:List UInt8) (q:Nat):six bs (4*q)=grp bs q / 2 ^ 18 % 64∧six bs (4*q+1)=grp bs q / 2 ^ 12 % 64∧six bs (4*q+2)=grp bs q / 2 ^ 6 % 64∧six bs (4*q+3)=grp bs q % 64:=by
 refine ⟨?_,?_,?_,?_⟩
 ·rw [six,show 4*q / 4=q by omega,show 4*q % 4=0 by omega]
 ·rw [six,show (4*q+1) / 4=q by omega,show (4*q+1) % 4=1 by omega]
 ·rw [six,show (4*q+2) / 4=q by omega,show (4*q+2) % 4=2 by omega]
 ·rw [six,show (4*q+3) / 4=q by omega,show (4*q+3) % 4=3 by omega,Nat.sub_self,Nat.pow_zero,Nat.div_one]
theorem Z8L {F:World} {M:List Nat} {H:List Res} {sa:Option Addr} {gs bs:List UInt8} {c:Nat} (hR:Rd F M H sa (bs.map bV)) (hc:bs.length≤c) (hS:gs.length=64) (hn:bs.length≤35184372088832) :
  Meets Tryz.prog 62 [.slice sa bs.length c,sV gs] F M H (fun e H'=>∃ ad cp,e=.returned (.slice ad (enc gs bs).length cp)∧H'=.row ad cp 5 1 (enc gs bs).length ((enc gs bs).map bV)::H):=by
 refine Meets.enter Tryz.func62 rfl rfl ?_
 repeat' (first|((with_reducible apply T.quoI64 (n:=3));apply rfl;apply rfl;omega;omega;apply rfl)|(apply T.makeB0;apply rfl;apply rfl;omega;apply rfl;intro nb)|refine Sg.Y1 ?_|fail)
 refine S.loopE 1 [1] (fun R b' μ H' e=>∃ (q:Nat) (r:List UInt8) (ra:Option Addr) (rc:Nat) (o:List UInt8) (ad:Option Addr) (cp:Nat),H'=.row ad cp 5 1 o.length (o.map bV)::R∧e=(0,.slice ra r.length rc)::(5,.slice ad o.length cp)::b'∧r=bs.drop (3*q)∧Rd F M H ra (r.map bV)∧r.length≤rc∧o=(List.range (4*q)).map (fun i=>gs.getD (six bs i) 0)∧3*q≤bs.length∧μ=r.length) rfl rfl ?_ _ _ ⟨0,bs,sa,c,[],_,_,rfl,rfl,rfl,hR,hc,rfl,by omega,rfl⟩ (by repeat' first|exact trivial|refine And.intro rfl ?_)
 rintro _ _ _ ⟨q,r,ra,rc,o,ad,cp,rfl,rfl,hr,hRr,hrc,ho,hq,rfl⟩ ih
 have hrl:r.length=bs.length - 3*q:=by rw [hr,List.length_drop]
 have hol:o.length=4*q:=by rw [ho,List.length_map,List.length_range]
 have hg:∀ j,r.getD j 0=bs.getD (3*q+j) 0:=fun j=>by rw [hr,Z7s]
 by_cases h1:3≤r.length
 ·have b0:=UInt8.toNat_lt (r.getD 0 0)
  have b1:=UInt8.toNat_lt (r.getD 1 0)
  have b2:=UInt8.toNat_lt (r.getD 2 0)
  have hgv:(r.getD 0 0).toNat*65536+(r.getD 1 0).toNat*256+(r.getD 2 0).toNat=grp bs q:=by rw [hg,hg,hg];rfl
  have hV:grp bs q < 16777216:=by rw [←hgv];omega
  have hd12:grp bs q / 2 ^ 12 < 18446744073709551616:=by omega
  have hd6:grp bs q / 2 ^ 6 < 18446744073709551616:=by omega
  repeat' (first|((with_reducible apply T.shlU64 (n:=16));apply rfl;apply rfl;omega;omega;apply rfl)|((with_reducible apply T.shlU64 (n:=8));apply rfl;apply rfl;omega;omega;apply rfl)|(apply T.orU64;apply rfl;apply rfl;(first|omega|exact Nat.or_lt_two_pow (n:=64) (by omega) (by omega));omega;apply rfl)|refine Sg.Y3 ?_|(apply S.condQ;apply rfl;all_goals intro _)|fail)
  rw [ZdB b1 b2,hgv]
  (apply S.draw;(case Hs=>exact []);(case es=>exact  [19,20]);(case n=>exact  22);(case hn=>rfl))
  repeat' (first|((with_reducible apply T.shrU64 (n:=18));apply rfl;apply rfl;omega;apply rfl)|((with_reducible apply T.shrU64 (n:=12));apply rfl;apply rfl;omega;apply rfl)|((with_reducible apply T.shrU64 (n:=6));apply rfl;apply rfl;omega;apply rfl)|((with_reducible apply T.andU64 (n:=63));apply rfl;apply rfl;omega;omega;apply rfl)|(apply T.sidx;apply rfl;apply rfl;(first|omega|(rw [b64and63,hS];exact Nat.mod_lt _ (by decide)));apply rfl)|(apply T.append4;apply rfl;apply rfl;infer_instance;apply rfl;(constructor<;>omega);apply rfl;intro na nc)|(apply T.bs;(iterate 6 apply rfl);intro nb)|(apply SA.qn;(iterate 4 apply rfl);kernel_rfl)|(apply SA.qz;(iterate 4 apply rfl);kernel_rfl)|(apply SA.done;apply rfl;kernel_rfl)|(apply SK.intro;(first|exact fun _ h=>h|exact fun _ h=>St.psub h (by ((repeat (first|dsimp only [List.set_cons_zero]|dsimp only [List.set_cons_succ]));repeat' first|exact PSub.refl _|exact PSub.nil|(apply PSub.take;(repeat' first|(with_reducible exact Z0)|(with_reducible apply Z1)))|(with_reducible apply PSub.drop)|((apply PSub.take);(repeat' first|exact Z0|(apply Z1)))))))|refine Sg.Y2 ?_|fail)
  obtain ⟨s0,s1,s2,s3⟩:=ZaA bs q
  have ho2:o++[gs.getD (grp bs q / 2 ^ 18) 0,gs.getD (grp bs q / 2 ^ 12&&&63) 0,gs.getD (grp bs q / 2 ^ 6&&&63) 0,gs.getD (grp bs q&&&63) 0]=(List.range (4*(q+1))).map (fun i=>gs.getD (six bs i) 0):=by
   rw [show 4*(q+1)=4*q+4 from rfl,range4,←ho,b64and63,b64and63,b64and63,s0,s1,s2,s3,Nat.mod_eq_of_lt (show grp bs q / 2 ^ 18 < 64 by omega)]
  have ho3:o.length+4=((List.range (4*(q+1))).map (fun i=>gs.getD (six bs i) 0)).length:=by rw [←ho2,List.length_append];rfl
  rw [ho3,ho2,show r.length - 3=(r.drop 3).length by rw [List.length_drop]]
  exact ih _ _ _ _ ⟨q+1,r.drop 3,_,rc - 3,_,_,_,rfl,rfl,by rw [hr,List.drop_drop];rfl,hRr.sub1 (cp:=rc) (lo:=3) hrc,by rw [List.length_drop];omega,rfl,by omega,rfl⟩ (by rw [List.length_drop];omega) (by repeat' first|exact trivial|refine And.intro rfl ?_)
 ·clear ih
  have hgq:grp bs q=(r.getD 0 0).toNat*65536+(r.getD 1 0).toNat*256+(r.getD 2 0).toNat:=by rw [hg,hg,hg];rfl
  obtain ⟨s0,s1,s2,s3⟩:=ZaA bs q
  have b0:=UInt8.toNat_lt (r.getD 0 0)
  have b1:=UInt8.toNat_lt (r.getD 1 0)
  have hz:∀ j,r.length≤j→r.getD j 0=0:=fun j hj=>by simp [List.getD,hj]
  by_cases h2:r.length=2
  ·have e1:((r.getD 0 0).toNat&&&3)*2 ^ 4|||(r.getD 1 0).toNat / 2 ^ 4=(r.getD 0 0).toNat % 4*16+(r.getD 1 0).toNat / 16:=by rw [and3,or16 (by omega)]
   repeat' (first|refine Sg.Y3 ?_|(apply S.condQ;apply rfl;all_goals intro _)|fail)
   (apply S.draw;(case Hs=>exact H);(case es=>exact  [26,27]);(case n=>exact  29);(case hn=>rfl))
   repeat' (first|((with_reducible apply T.shrU8 (n:=2));apply rfl;apply rfl;omega;apply rfl)|((with_reducible apply T.shrU8 (n:=4));apply rfl;apply rfl;omega;apply rfl)|((with_reducible apply T.andU8 (n:=3));apply rfl;apply rfl;omega;omega;apply rfl)|((with_reducible apply T.andU8 (n:=15));apply rfl;apply rfl;omega;omega;apply rfl)|((with_reducible apply T.shlU8 (n:=4));apply rfl;apply rfl;(rw [and3];omega);omega;apply rfl)|((with_reducible apply T.shlU8 (n:=2));apply rfl;apply rfl;(rw [b64and15];omega);omega;apply rfl)|(apply T.orU8;apply rfl;apply rfl;(rw [and3];omega);omega;apply rfl)|(apply T.sidx;apply rfl;apply rfl;(first|omega|(rw [e1];omega)|(rw [b64and15];omega));apply rfl)|(apply T.append3;apply rfl;apply rfl;infer_instance;apply rfl;(constructor<;>omega);apply rfl;intro na nc)|(apply T.bs;(iterate 6 apply rfl);intro nb)|(apply SA.qn;(iterate 4 apply rfl);kernel_rfl)|(apply SA.qz;(iterate 4 apply rfl);kernel_rfl)|(apply SA.qsn;(iterate 3 apply rfl);kernel_rfl;(first|exact fun _ h=>h|exact fun _ h=>St.psub h (by ((repeat (first|dsimp only [List.set_cons_zero]|dsimp only [List.set_cons_succ]));repeat' first|exact PSub.refl _|exact PSub.nil|(apply PSub.take;(repeat' first|(with_reducible exact Z0)|(with_reducible apply Z1)))|(with_reducible apply PSub.drop)|((apply PSub.take);(repeat' first|exact Z0|(apply Z1)))))))|(apply SA.done;apply rfl;kernel_rfl)|(apply SK.intro;(first|exact fun _ h=>h|exact fun _ h=>St.psub h (by ((repeat (first|dsimp only [List.set_cons_zero]|dsimp only [List.set_cons_succ]));repeat' first|exact PSub.refl _|exact PSub.nil|(apply PSub.take;(repeat' first|(with_reducible exact Z0)|(with_reducible apply Z1)))|(with_reducible apply PSub.drop)|((apply PSub.take);(repeat' first|exact Z0|(apply Z1)))))))|refine Sg.Y1 ?_|fail)
   have hz2:=hz 2 (by omega)
   rw [hz2] at hgq
   have hen:enc gs bs=o++[gs.getD ((r.getD 0 0).toNat / 2 ^ 2) 0,gs.getD (((r.getD 0 0).toNat&&&3)*2 ^ 4|||(r.getD 1 0).toNat / 2 ^ 4) 0,gs.getD (((r.getD 1 0).toNat&&&15)*2 ^ 2) 0]:=by
    rw [enc,show Z16 bs.length=4*q+3 by unfold Z16;omega,range3,←ho,e1,b64and15,s0,s1,s2,hgq,show (0:UInt8).toNat=0 from rfl]
    rw [show ((r.getD 0 0).toNat*65536+(r.getD 1 0).toNat*256+0) / 2 ^ 18 % 64=(r.getD 0 0).toNat / 2 ^ 2 by omega,show ((r.getD 0 0).toNat*65536+(r.getD 1 0).toNat*256+0) / 2 ^ 12 % 64=(r.getD 0 0).toNat % 4*16+(r.getD 1 0).toNat / 16 by omega,
     show ((r.getD 0 0).toNat*65536+(r.getD 1 0).toNat*256+0) / 2 ^ 6 % 64=(r.getD 1 0).toNat % 16*2 ^ 2 by omega]
   have hel:o.length+3=(enc gs bs).length:=by rw [hen,List.length_append];rfl
   rw [hel,←hen]
   exact ⟨_,PSub.refl _,_,_,rfl,rfl⟩
  ·by_cases h3:r.length=1
   ·repeat' (first|refine Sg.Y3 ?_|(apply S.condQ;apply rfl;all_goals intro _)|fail)
    (apply S.draw;(case Hs=>exact H);(case es=>exact  [14,15]);(case n=>exact  17);(case hn=>rfl))
    repeat' (first|((with_reducible apply T.shrU8 (n:=2));apply rfl;apply rfl;omega;apply rfl)|((with_reducible apply T.andU8 (n:=3));apply rfl;apply rfl;omega;omega;apply rfl)|((with_reducible apply T.shlU8 (n:=4));apply rfl;apply rfl;(rw [and3];omega);omega;apply rfl)|(apply T.sidx;apply rfl;apply rfl;(first|omega|(rw [and3];omega));apply rfl)|(apply T.append2;apply rfl;apply rfl;infer_instance;apply rfl;(constructor<;>omega);apply rfl;intro na nc)|(apply T.bs;(iterate 6 apply rfl);intro nb)|(apply SA.qn;(iterate 4 apply rfl);kernel_rfl)|(apply SA.qz;(iterate 4 apply rfl);kernel_rfl)|(apply SA.done;apply rfl;kernel_rfl)|(apply SK.intro;(first|exact fun _ h=>h|exact fun _ h=>St.psub h (by ((repeat (first|dsimp only [List.set_cons_zero]|dsimp only [List.set_cons_succ]));repeat' first|exact PSub.refl _|exact PSub.nil|(apply PSub.take;(repeat' first|(with_reducible exact Z0)|(with_reducible apply Z1)))|(with_reducible apply PSub.drop)|((apply PSub.take);(repeat' first|exact Z0|(apply Z1)))))))|refine Sg.Y1 ?_|fail)
    have hz1:=hz 1 (by omega)
    have hz2:=hz 2 (by omega)
    rw [hz2,hz1] at hgq
    have hen:enc gs bs=o++[gs.getD ((r.getD 0 0).toNat / 2 ^ 2) 0,gs.getD (((r.getD 0 0).toNat&&&3)*2 ^ 4) 0]:=by
     rw [enc,show Z16 bs.length=4*q+2 by unfold Z16;omega,range2,←ho,and3,s0,s1,hgq,show (0:UInt8).toNat=0 from rfl]
     rw [show ((r.getD 0 0).toNat*65536+0*256+0) / 2 ^ 18 % 64=(r.getD 0 0).toNat / 2 ^ 2 by omega,show ((r.getD 0 0).toNat*65536+0*256+0) / 2 ^ 12 % 64=(r.getD 0 0).toNat % 4*2 ^ 4 by omega]
    have hel:o.length+2=(enc gs bs).length:=by rw [hen,List.length_append];rfl
    rw [hel,←hen]
    exact ⟨_,PSub.refl _,_,_,rfl,rfl⟩
   ·have hen:enc gs bs=o:=by
     rw [enc,show Z16 bs.length=4*q by unfold Z16;omega,←ho]
    rw [hen]
    repeat' (first|refine Sg.Y3 ?_|(apply S.condQ;apply rfl;all_goals intro _)|fail)
    exact ⟨_,PSub.refl _,_,_,rfl,rfl⟩
theorem Z7A {F:World} {M:List Nat} {H:List Res} {sa:Option Addr} {bs:List UInt8} {c:Nat} (hR:Rd F M H sa (bs.map bV)) (hc:bs.length≤c) (hn:bs.length≤35184372088832) :
  Meets Tryz.prog 36 [.slice sa bs.length c] F M H (fun e H'=>e=.returned (sV (enc urlS bs))∧∃ r,H'=r::H):=by
 refine Meets.enter Tryz.func36 rfl rfl ?_
 repeat' (first|refine Sg.Y1 ?_|fail)
 refine T.call rfl rfl (Z8L (gs:=urlS) hR hc rfl hn) ?_
 rintro _ _ ⟨ad,cp,rfl,rfl⟩
 repeat' (first|refine Sg.Y2 ?_|fail)
 exact ⟨_,PSub.refl _,rfl,_,rfl⟩
/- The document's own spelling. -/
theorem ZbU {F:World} {M:List Nat} {H:List Res} {sa:Option Addr} {bs:List UInt8} {c k:Nat} (hR:Rd F M H sa (bs.map bV)) (hk:k≤1000000000000000) :
  Meets Tryz.prog 145 [.slice sa bs.length c,.int .i64 (k:Int)] F M H (fun e H'=>e=.returned (.int .i64 (bitN bs k:Nat))∧H'=H):=by
 refine Meets.enter Tryz.func145 rfl rfl ?_
 by_cases h1:k / 8 < bs.length
 ·have hb:=UInt8.toNat_lt (bs.getD (k / 8) 0)
  have hd:((bs.getD (k / 8) 0).toNat:Int).toNat / 2 ^ (7 - ((k % 8:Nat):Int)).toNat < 256:=Nat.lt_of_le_of_lt (Nat.div_le_self _ _) (by omega)
  have he:((bs.getD (k / 8) 0).toNat:Int).toNat / 2 ^ (7 - ((k % 8:Nat):Int)).toNat&&&1=bitN bs k:=by
   rw [Nat.and_one_is_mod,Int.toNat_natCast,show (7 - ((k % 8:Nat):Int)).toNat=7 - k % 8 by omega]
   rfl
  repeat' (first|((with_reducible apply T.quoI64 (n:=8));apply rfl;apply rfl;omega;omega;apply rfl)|((with_reducible apply T.remI64 (n:=8));apply rfl;apply rfl;omega;apply rfl)|(apply T.convI64;apply rfl;(constructor;exact Int.le_trans (by decide) (Int.natCast_nonneg _);exact Int.ofNat_le.2 (Nat.le_of_lt (Nat.lt_trans hd (by decide))));apply rfl)|((with_reducible apply T.andI64 (n:=1));apply rfl;apply rfl;exact Nat.lt_trans hd (by decide);omega;apply rfl)|refine Sg.Y3 ?_|(apply S.condQ;apply rfl;all_goals intro _)|fail)
  rw [he]
  exact ⟨_,PSub.refl _,rfl,rfl⟩
 ·have he:bitN bs k=0:=by
   rw [bitN,show bs.getD (k / 8) 0=0 by simp [List.getD,Nat.le_of_not_lt h1]]
   show 0 / _ % 2=0
   rw [Nat.zero_div]
  rw [he]
  repeat' (first|((with_reducible apply T.quoI64 (n:=8));apply rfl;apply rfl;omega;omega;apply rfl)|refine Sg.Y3 ?_|(apply S.condQ;apply rfl;all_goals intro _)|fail)
  exact ⟨_,PSub.refl _,rfl,rfl⟩
theorem Z4z:PCall Tryz.prog 115 [.bool false] (sV urlS):=by
 intro w
 go_enter Tryz.func115,Tryz.ntmps115
 go_wp2
 go_ret
 exact ⟨rfl,rfl⟩
theorem Z4j {F:World} {M:List Nat} {H:List Res} {sa:Option Addr} {bs:List UInt8} {c:Nat} (hR:Rd F M H sa (bs.map bV)) (hn:bs.length≤17592186044416) :
  Meets Tryz.prog 92 [.slice sa bs.length c] F M H (fun e H'=>e=.returned (sV (enc urlS bs))∧∃ r,H'=r::H):=by
 have hsp:Meets Tryz.prog 122 [.slice sa bs.length c,.bool false] F M H (fun e H'=>e=.returned (sV (enc urlS bs))∧∃ r,H'=r::H):=by
  refine Meets.enter Tryz.func122 rfl rfl ?_
  have hb:∀ {H:List Res} (k:Nat),Rd F M H sa (bs.map bV)→k≤1000000000000000→Meets Tryz.prog 145 [.slice sa bs.length c,.int .i64 (k:Int)] F M H (fun e H'=>e=.returned (.int .i64 (bitN bs k:Nat))∧H'=H):=fun k h1 h2=>ZbU h1 h2
  refine S.nilrowB 5 ?_
  repeat' (first|(apply T.pcall;apply rfl;infer_instance;apply rfl;with_reducible exact Z4z)|refine Sg.Y1 ?_|fail)
  refine S.loopE 1 [0,5] (fun R b' μ H' e=>∃ (i:Nat) (o:List UInt8) (ad:Option Addr) (cp:Nat),H'=.row ad cp 5 1 o.length (o.map bV)::R∧e=(6,.slice ad o.length cp)::(7,.int .i64 ((6*i:Nat):Int))::b'∧o=(List.range i).map (fun i=>urlS.getD (six bs i) 0)∧i≤Z16 bs.length∧μ=Z16 bs.length - i) rfl rfl ?_ _ _ ⟨0,[],_,_,rfl,rfl,rfl,by omega,rfl⟩ (by repeat' first|exact trivial|refine And.intro rfl ?_)
  rintro _ _ _ ⟨i,o,ad,cp,rfl,rfl,ho,hi,rfl⟩ ih
  have hol:o.length=i:=by rw [ho,List.length_map,List.length_range]
  have hsn:Z16 bs.length=(8*bs.length+5) / 6:=rfl
  by_cases h1:i < Z16 bs.length
  ·repeat' (first|refine Sg.Y3 ?_|(apply S.condQ;apply rfl;all_goals intro _)|fail)
   refine S.loopE 0 [0,5,6,7] (fun R b' μ H' e=>∃ k:Nat,H'=R∧e=(8,.int .i64 (sumB bs (6*i) k:Nat))::(9,.int .i64 k)::b'∧k≤6∧μ=6 - k) rfl rfl ?_ _ _ ⟨0,rfl,rfl,by omega,rfl⟩ (by repeat' first|exact trivial|refine And.intro rfl ?_)
   rintro _ _ _ ⟨k,rfl,rfl,hk,rfl⟩ ih2
   have hrl:=Z9H bs (6*i) k
   by_cases h2:k < 6
   ·have hrl2:sumB bs (6*i) k < 64:=Nat.lt_of_lt_of_le hrl (Nat.pow_le_pow_right (by decide) (show k≤6 by omega))
    have hbl:=ZaT bs (6*i+k)
    repeat' (first|refine Sg.Y3 ?_|(apply S.condQ;apply rfl;all_goals intro _)|fail)
    refine T.call rfl rfl (hb (6*i+k) inferInstance (by omega)) ?_
    rintro _ _ ⟨rfl,rfl⟩
    repeat' (first|refine Sg.Y2 ?_|fail)
    exact ih2 _ _ _ _ ⟨k+1,rfl,rfl,by omega,rfl⟩ (by omega) (by repeat' first|exact trivial|refine And.intro rfl ?_)
   ·obtain rfl:k=6:=by omega
    clear ih2
    rw [Zbh]
    have h6:=Zdp bs i
    repeat' (first|(apply T.sidx;apply rfl;apply rfl;exact h6;apply rfl)|(apply T.bs;(iterate 6 apply rfl);intro nb)|(apply T.appendB;apply rfl;apply rfl;infer_instance;apply rfl;(constructor<;>omega);apply rfl;intro na nc)|refine Sg.Y1 ?_|fail)
    have ho2:o++[urlS.getD (six bs i) 0]=(List.range (i+1)).map (fun i=>urlS.getD (six bs i) 0):=by rw [List.range_succ,List.map_append,←ho];rfl
    rw [show o.length+1=(o++[urlS.getD (six bs i) 0]).length by rw [List.length_append];rfl,ho2,show ((6*i:Nat):Int)+6=((6*(i+1):Nat):Int) by omega]
    exact ih _ _ _ _ ⟨i+1,_,_,_,rfl,rfl,rfl,by omega,rfl⟩ (by omega) (by repeat' first|exact trivial|refine And.intro rfl ?_)
  ·obtain rfl:i=Z16 bs.length:=by omega
   have hen:o=enc urlS bs:=ho
   subst hen
   repeat' (first|refine Sg.Y3 ?_|(apply S.condQ;apply rfl;all_goals intro _)|fail)
   exact ⟨_,PSub.refl _,rfl,_,rfl⟩
 refine Meets.enter Tryz.func92 rfl rfl ?_
 repeat' (first|refine Sg.Y1 ?_|fail)
 refine T.call rfl rfl hsp ?_
 rintro _ _ ⟨rfl,r,rfl⟩
 repeat' (first|refine Sg.Y2 ?_|fail)
 exact ⟨_,PSub.refl _,rfl,_,rfl⟩
end Go.Proofs.YtjajcmedipjfhaaGreatDoor
/- The library's contracts, laid at this program (printed by the kit's tools lay-shelf and lay-plain, cut out by a program). -/
namespace Go.Proofs
open Go.Shelf
def Tryz.lays137_ren:Go.Shelf.Ren:=⟨fun|137=>41|217=>72|266=>103|n=>n,fun|9=>9|5=>5|3=>3|n=>n,fun|n=>n⟩
theorem Tryz.lays137:Go.Proofs.Lays.n137 Tryz.prog Tryz.lays137_ren:={
 mixed:=by kernel_rfl
 f137:=Tryz.func41.trans (congrArg some (by kernel_rfl))
 f217:=Tryz.func72.trans (congrArg some (by kernel_rfl))
 f266:=Tryz.func103.trans (congrArg some (by kernel_rfl))
 t3:=Tryz.underlying3
 a3:=Tryz.isAgg3
 z3:=Tryz.sizeOf3
 v3:=Tryz.zeroValue3
 t5:=Tryz.underlying5
 a5:=Tryz.isAgg5
 z5:=Tryz.sizeOf5
 v5:=Tryz.zeroValue5
 t9:=Tryz.underlying9
 a9:=Tryz.isAgg9
 z9:=Tryz.sizeOf9
 v9:=Tryz.zeroValue9 }
open Go.RowKit in
theorem Tryz.strings_IndexByte (s:ByteArray) (c:Int) (w:World) :
  Calls Tryz.prog 41 #[.string s,.int .u8 c] w fun e w'=>e=.returned (.int .i64 (Lib.indexByte s.data.toList c.toNat.toUInt8))∧w'=w:=Any.strings_IndexByte Tryz.lays137 s c w
end Go.Proofs
/- The walk of the program's reading of 64 signs. -/
namespace Go.Proofs.YtjajcmedipjfhaaGreatDoor
open Sg Go Go.RowKit Go.IntWalk
set_option maxRecDepth 100000
set_option maxHeartbeats 4000000
theorem Z13 (s:List UInt8) (ch:UInt8):PCall Tryz.prog 41 [sV s,.int .u8 (ch.toNat:Nat)] (.int .i64 (Lib.indexByte s ch)):=fun w=>by
 have h:=Tryz.strings_IndexByte (ByteArray.mk s.toArray) (ch.toNat:Nat) w
 have h2:((ch.toNat:Nat):Int).toNat.toUInt8=ch:=by rw [Int.toNat_natCast];simp
 rw [h2] at h
 exact h
theorem ZM {ch:UInt8} (h:ch∈urlS):PCall Tryz.prog 73 [.int .u8 (ch.toNat:Nat),sV urlS] (.int .u64 (urlS.idxOf ch:Nat)):=by
 intro w
 have hlt:urlS.idxOf ch < 64:=List.idxOf_lt_length_iff.2 h
 have hi:=Zck ch urlS h
 have hc:=Z13 urlS ch
 rw [hi] at hc
 generalize urlS.idxOf ch=k at *
 have hw:IntKind.u64.wrap (k:Int)=(k:Int):=by rw [Z7N];omega
 generalize (ch.toNat:Int)=z at hc ⊢
 generalize sV urlS=u at hc ⊢
 clear hi h
 go_enter Tryz.func73,Tryz.ntmps73
 go_wp2_with (go_at_call 41;refine (hc w).mono ?_;rintro e w' ⟨rfl,rfl⟩)
 go_wp2
 go_ret
 exact ⟨rfl,rfl⟩
theorem Z39 {F:World} {M:List Nat} {H:List Res} {s:List UInt8} (hs:∀ c∈s,c∈urlS) (h4:s.length % 4≠1) (hn:s.length≤140737488351232) :
  Meets Tryz.prog 42 [sV s,sV urlS] F M H (fun e H'=>∃ ad cp,e=.returned (.tuple ⟨[.slice ad (decB s).length cp,.bool (Z0B s)]⟩)∧H'=.row ad cp 5 1 (decB s).length ((decB s).map bV)::H):=by
 refine Meets.enter Tryz.func42 rfl rfl ?_
 repeat' (first|((with_reducible apply T.quoI64 (n:=4));apply rfl;apply rfl;omega;omega;apply rfl)|(apply T.makeB0;apply rfl;apply rfl;omega;apply rfl;intro nb)|refine Sg.Y1 ?_|fail)
 refine S.loopE 1 [1] (fun R b' μ H' e=>∃ (q:Nat) (r o:List UInt8) (ad:Option Addr) (cp:Nat),H'=.row ad cp 5 1 o.length (o.map bV)::R∧e=(0,sV r)::(6,.slice ad o.length cp)::b'∧(r=s.drop (4*q)∧o=(List.range (3*q)).map (fun i=>UInt8.ofNat (dgrp s (i / 3) / 256 ^ (2 - i % 3)))∧4*q≤s.length)∧μ=r.length) rfl rfl ?_ _ _ ⟨0,s,[],_,_,rfl,rfl,⟨rfl,rfl,by omega⟩,rfl⟩ (by repeat' first|exact trivial|refine And.intro rfl ?_)
 rintro _ _ _ ⟨q,r,o,ad,cp,rfl,rfl,⟨hr,ho,hq⟩,rfl⟩ ih
 have hrl:r.length=s.length - 4*q:=by rw [hr,List.length_drop]
 have hol:o.length=3*q:=by rw [ho,List.length_map,List.length_range]
 have hg:∀ j,j < r.length→sgn s (4*q+j)=urlS.idxOf (r.getD j 0):=fun j hj=>by rw [←Zbk,←hr,Z9Q hj]
 have hm:∀ j,j < r.length→r.getD j 0∈urlS:=fun j hj=>by
  have:r.getD j 0∈r:=by simp [List.getD,hj]
  exact hs _ (List.mem_of_mem_drop (by rw [←hr];exact this))
 have hlt:∀ j,j < r.length→urlS.idxOf (r.getD j 0) < 64:=fun j hj=>List.idxOf_lt_length_iff.2 (hm j hj)
 by_cases h1:4≤r.length
 ·have m0:=ZM (hm 0 (by omega))
  have m1:=ZM (hm 1 (by omega))
  have m2:=ZM (hm 2 (by omega))
  have m3:=ZM (hm 3 (by omega))
  have g0:=hg 0 (by omega)
  have g1:=hg 1 (by omega)
  have g2:=hg 2 (by omega)
  have g3:=hg 3 (by omega)
  have l0:=hlt 0 (by omega)
  have l1:=hlt 1 (by omega)
  have l2:=hlt 2 (by omega)
  have l3:=hlt 3 (by omega)
  generalize urlS.idxOf (r.getD 0 0)=n0 at m0 g0 l0
  generalize urlS.idxOf (r.getD 1 0)=n1 at m1 g1 l1
  generalize urlS.idxOf (r.getD 2 0)=n2 at m2 g2 l2
  generalize urlS.idxOf (r.getD 3 0)=n3 at m3 g3 l3
  have hv:=Z7F (a:=n0) l1 l2 l3
  have hd:dgrp s q=n0*262144+n1*4096+n2*64+n3:=by rw [dgrp,←g0,←g1,←g2,←g3];rfl
  have o1:n0*2 ^ 18|||n1*2 ^ 12 < 2 ^ 64:=Nat.or_lt_two_pow (by omega) (by omega)
  have o2:n0*2 ^ 18|||n1*2 ^ 12|||n2*2 ^ 6 < 2 ^ 64:=Nat.or_lt_two_pow o1 (by omega)
  repeat' (first|refine Sg.Y3 ?_|(apply S.condQ;apply rfl;all_goals intro _)|fail)
  (apply S.draw;(case Hs=>exact .row ad cp 5 1 o.length (o.map bV)::H);(case es=>exact  []);(case n=>exact  23);(case hn=>rfl))
  repeat' (first|(apply Sr.same;refine (T.sidx (i:=0) rfl rfl (by omega) rfl ?_))|(apply Sr.same;refine (T.sidx (i:=1) rfl rfl (by omega) rfl ?_))|(apply Sr.same;refine (T.sidx (i:=2) rfl rfl (by omega) rfl ?_))|(apply Sr.same;refine (T.sidx (i:=3) rfl rfl (by omega) rfl ?_))|(apply SA.qcall;(iterate 3 apply rfl);kernel_rfl;apply rfl;infer_instance;apply rfl;first|with_reducible exact m0|with_reducible exact m1|with_reducible exact m2|with_reducible exact m3)|((with_reducible apply T.shlU64 (n:=18));apply rfl;apply rfl;omega;omega;apply rfl)|((with_reducible apply T.shlU64 (n:=12));apply rfl;apply rfl;omega;omega;apply rfl)|((with_reducible apply T.shlU64 (n:=6));apply rfl;apply rfl;omega;omega;apply rfl)|(apply T.orU64;apply rfl;apply rfl;(first|exact o1|exact o2|omega);omega;apply rfl)|(apply SA.qn;(iterate 4 apply rfl);kernel_rfl)|(apply SA.done;apply rfl;kernel_rfl)|refine Sg.Y1 ?_|fail)
  rw [hv,←hd]
  repeat' (first|((with_reducible apply T.shrU64 (n:=16));apply rfl;apply rfl;omega;apply rfl)|((with_reducible apply T.shrU64 (n:=8));apply rfl;apply rfl;omega;apply rfl)|(apply T.append3;apply rfl;apply rfl;infer_instance;apply rfl;(constructor<;>omega);apply rfl;intro na nc)|(apply Sr.same;refine (T.ssliceL (i:=4) rfl rfl (by omega) rfl ?_))|(apply T.bs;(iterate 6 apply rfl);intro nb)|refine Sg.Y2 ?_|fail)
  have ho2:=Z9k s q
  rw [←ho] at ho2
  have ho3:o.length+3=((List.range (3*(q+1))).map (fun i=>UInt8.ofNat (dgrp s (i / 3) / 256 ^ (2 - i % 3)))).length:=by rw [ho2,List.length_append];rfl
  rw [ho3]
  have ho4:o++[UInt8.ofNat (dgrp s q / 2 ^ 16),UInt8.ofNat (dgrp s q / 2 ^ 8),UInt8.ofNat (dgrp s q)]=_:=ho2.symm
  rw [ho4]
  exact ih _ _ _ _ ⟨q+1,r.drop 4,_,_,_,rfl,rfl,⟨by rw [hr,List.drop_drop];rfl,rfl,by omega⟩,rfl⟩ (by rw [List.length_drop];omega) (by repeat' first|exact trivial|refine And.intro rfl ?_)
 ·clear ih
  have hlo:sgn s (4*q+3)=0:=Z3B (by omega)
  have hq4:s.length / 4=q:=by omega
  by_cases h2:r.length=3
  ·have m0:=ZM (hm 0 (by omega))
   have m1:=ZM (hm 1 (by omega))
   have m2:=ZM (hm 2 (by omega))
   have g0:=hg 0 (by omega)
   have g1:=hg 1 (by omega)
   have g2:=hg 2 (by omega)
   have l0:=hlt 0 (by omega)
   have l1:=hlt 1 (by omega)
   have l2:=hlt 2 (by omega)
   generalize urlS.idxOf (r.getD 0 0)=n0 at m0 g0 l0
   generalize urlS.idxOf (r.getD 1 0)=n1 at m1 g1 l1
   generalize urlS.idxOf (r.getD 2 0)=n2 at m2 g2 l2
   have hv:n2*2 ^ 6|||(n0*2 ^ 18|||n1*2 ^ 12)=n0*262144+n1*4096+n2*64:=by
    have:=Z7F (a:=n0) l1 l2 (show 0 < 64 by decide)
    rw [Nat.or_comm]
    simpa using this
   have hd:dgrp s q=n0*262144+n1*4096+n2*64:=by have e0:sgn s (4*q)=n0:=g0;rw [dgrp,hlo,e0,g1,g2];omega
   have o1:n0*2 ^ 18|||n1*2 ^ 12 < 2 ^ 64:=Nat.or_lt_two_pow (by omega) (by omega)
   repeat' (first|(apply T.pcall;apply rfl;infer_instance;apply rfl;with_reducible exact m2)|(apply Sr.same;refine (T.sidx (i:=2) rfl rfl (by omega) rfl ?_))|((with_reducible apply T.shlU64 (n:=6));apply rfl;apply rfl;omega;omega;apply rfl)|refine Sg.Y3 ?_|(apply S.condQ;apply rfl;all_goals intro _)|fail)
   (apply S.draw;(case Hs=>exact .row ad cp 5 1 o.length (o.map bV)::H);(case es=>exact  []);(case n=>exact  14);(case hn=>rfl))
   repeat' (first|(apply Sr.same;refine (T.sidx (i:=0) rfl rfl (by omega) rfl ?_))|(apply Sr.same;refine (T.sidx (i:=1) rfl rfl (by omega) rfl ?_))|(apply SA.qcall;(iterate 3 apply rfl);kernel_rfl;apply rfl;infer_instance;apply rfl;first|with_reducible exact m0|with_reducible exact m1)|((with_reducible apply T.shlU64 (n:=18));apply rfl;apply rfl;omega;omega;apply rfl)|((with_reducible apply T.shlU64 (n:=12));apply rfl;apply rfl;omega;omega;apply rfl)|(apply T.orU64;apply rfl;apply rfl;(first|exact o1|omega);(first|exact o1|omega);apply rfl)|(apply SA.qn;(iterate 4 apply rfl);kernel_rfl)|(apply SA.done;apply rfl;kernel_rfl)|refine Sg.Y1 ?_|fail)
   rw [hv,←hd]
   have hdlt:dgrp s q < 18446744073709551616:=by omega
   repeat' (first|((with_reducible apply T.shrU64 (n:=16));apply rfl;apply rfl;omega;apply rfl)|((with_reducible apply T.shrU64 (n:=8));apply rfl;apply rfl;omega;apply rfl)|((with_reducible apply T.andU64 (n:=255));apply rfl;apply rfl;omega;omega;apply rfl)|(apply T.bs;(iterate 6 apply rfl);intro nb)|(apply T.appendB;apply rfl;apply rfl;infer_instance;apply rfl;(constructor<;>omega);apply rfl;intro na nc)|refine Sg.Y3 ?_|(apply S.condQ;apply rfl;all_goals intro _)|fail)
   have hdb:decB s=o++[UInt8.ofNat (dgrp s q / 2 ^ 16)]++[UInt8.ofNat (dgrp s q / 2 ^ 8)]:=by
    rw [decB,show s.length*6 / 8=3*q+2 by omega,range2,←ho,show 3*q / 3=q by omega,show (3*q+1) / 3=q by omega,show 3*q % 3=0 by omega,show (3*q+1) % 3=1 by omega,List.append_assoc]
    rfl
   have hsp:decide (((dgrp s q&&&255:Nat):Int)=0)=Z0B s:=by
    rw [Z0B,if_pos (by omega),hq4,show 255=2 ^ 8 - 1 from rfl,Nat.and_two_pow_sub_one_eq_mod]
    rw [decide_eq_decide]
    omega
   have hdl:o.length+1+1=(decB s).length:=by rw [hdb];simp
   rw [hsp,hdl,←hdb]
   exact ⟨_,PSub.refl _,_,_,rfl,rfl⟩
  ·by_cases h3:r.length=2
   ·have m0:=ZM (hm 0 (by omega))
    have m1:=ZM (hm 1 (by omega))
    have g0:=hg 0 (by omega)
    have g1:=hg 1 (by omega)
    have l0:=hlt 0 (by omega)
    have l1:=hlt 1 (by omega)
    have hl2:sgn s (4*q+2)=0:=Z3B (by omega)
    generalize urlS.idxOf (r.getD 0 0)=n0 at m0 g0 l0
    generalize urlS.idxOf (r.getD 1 0)=n1 at m1 g1 l1
    have hv:0|||(n0*2 ^ 18|||n1*2 ^ 12)=n0*262144+n1*4096:=by
     have:=Z7F (a:=n0) l1 (show 0 < 64 by decide) (show 0 < 64 by decide)
     rw [Nat.or_comm]
     simpa using this
    have hd:dgrp s q=n0*262144+n1*4096:=by have e0:sgn s (4*q)=n0:=g0;rw [dgrp,hlo,hl2,e0,g1];omega
    have o1:n0*2 ^ 18|||n1*2 ^ 12 < 2 ^ 64:=Nat.or_lt_two_pow (by omega) (by omega)
    repeat' (first|refine Sg.Y3 ?_|(apply S.condQ;apply rfl;all_goals intro _)|fail)
    (apply S.draw;(case Hs=>exact .row ad cp 5 1 o.length (o.map bV)::H);(case es=>exact  []);(case n=>exact  14);(case hn=>rfl))
    repeat' (first|(apply Sr.same;refine (T.sidx (i:=0) rfl rfl (by omega) rfl ?_))|(apply Sr.same;refine (T.sidx (i:=1) rfl rfl (by omega) rfl ?_))|(apply SA.qcall;(iterate 3 apply rfl);kernel_rfl;apply rfl;infer_instance;apply rfl;first|with_reducible exact m0|with_reducible exact m1)|((with_reducible apply T.shlU64 (n:=18));apply rfl;apply rfl;omega;omega;apply rfl)|((with_reducible apply T.shlU64 (n:=12));apply rfl;apply rfl;omega;omega;apply rfl)|((with_reducible apply T.orU64 (m:=0));apply rfl;apply rfl;omega;exact o1;apply rfl)|(apply SA.qn;(iterate 4 apply rfl);kernel_rfl)|(apply SA.done;apply rfl;kernel_rfl)|refine Sg.Y1 ?_|fail)
    rw [hv,←hd]
    have hdlt:dgrp s q < 18446744073709551616:=by omega
    repeat' (first|((with_reducible apply T.shrU64 (n:=16));apply rfl;apply rfl;omega;apply rfl)|((with_reducible apply T.andU64 (n:=65535));apply rfl;apply rfl;omega;omega;apply rfl)|(apply T.bs;(iterate 6 apply rfl);intro nb)|(apply T.appendB;apply rfl;apply rfl;infer_instance;apply rfl;(constructor<;>omega);apply rfl;intro na nc)|refine Sg.Y3 ?_|(apply S.condQ;apply rfl;all_goals intro _)|fail)
    have hdb:decB s=o++[UInt8.ofNat (dgrp s q / 2 ^ 16)]:=by
     rw [decB,show s.length*6 / 8=3*q+1 by omega,List.range_succ,List.map_append,←ho]
     simp only [List.map_cons,List.map_nil,show 3*q / 3=q by omega,show 3*q % 3=0 by omega]
     try rfl
    have hsp:decide (((dgrp s q&&&65535:Nat):Int)=0)=Z0B s:=by
     rw [Z0B,if_neg (by omega),if_pos (by omega),hq4,show 65535=2 ^ 16 - 1 from rfl,Nat.and_two_pow_sub_one_eq_mod]
     rw [decide_eq_decide]
     omega
    have hdl:o.length+1=(decB s).length:=by rw [hdb];simp
    rw [hsp,hdl,←hdb]
    exact ⟨_,PSub.refl _,_,_,rfl,rfl⟩
   ·have hdb:decB s=o:=by rw [decB,show s.length*6 / 8=3*q by omega,←ho]
    have hsp:Z0B s=true:=by rw [Z0B,if_neg (by omega),if_neg (by omega)]
    rw [hdb,hsp]
    repeat' (first|refine Sg.Y3 ?_|(apply S.condQ;apply rfl;all_goals intro _)|fail)
    exact ⟨_,PSub.refl _,_,_,rfl,rfl⟩
def DecP (H:List Res) (s:List UInt8) (e:Ending) (H':List Res):Prop:=∃ ad cp,e=.returned (.tuple ⟨[.slice ad (decX s).1.length cp,.int .i64 (decX s).2.1,.int .i64 ((decX s).2.2:Nat)]⟩)∧H'=.row ad cp 5 1 (decX s).1.length ((decX s).1.map bV)::H
theorem Z4q {F:World} {M:List Nat} {H:List Res} {s:List UInt8} (hn:s.length≤140737488351232) :
  Meets Tryz.prog 20 [sV s] F M H (DecP H s):=by
 refine Meets.enter Tryz.func20 rfl rfl ?_
 unfold DecP
 repeat' (first|refine Sg.Y1 ?_|fail)
 refine S.loopE 0 [0,9] (fun R b' μ H' e=>∃ i:Nat,H'=R∧e=(10,.int .i64 i)::b'∧(i≤s.length∧∀ j,j < i→s.getD j 0∈urlS)∧μ=s.length - i) rfl rfl ?_ _ _ ⟨0,rfl,rfl,⟨by omega,fun j hj=>by omega⟩,rfl⟩ (by repeat' first|exact trivial|refine And.intro rfl ?_)
 rintro _ _ _ ⟨i,rfl,rfl,⟨hi,hb⟩,rfl⟩ ih
 by_cases h1:i < s.length
 ·have hx:=Zaz (s.getD i 0) urlS
  by_cases h2:s.getD i 0∈urlS
  ·have h3:¬Lib.indexByte urlS (s.getD i 0) < 0:=fun h=>hx.1 h h2
   repeat' (first|(apply T.pcall;apply rfl;infer_instance;apply rfl;with_reducible exact Z13 _ _)|refine Sg.Y3 ?_|(apply S.condQ;apply rfl;all_goals intro _)|fail)
   ·rename_i h4
    exact absurd h4 h3
   exact ih _ _ _ _ ⟨i+1,rfl,rfl,⟨h1,fun j hj=>by
    rcases Nat.lt_succ_iff_lt_or_eq.1 hj with hj|rfl
    ·exact hb j hj
    ·exact h2⟩,rfl⟩ (by omega) (by repeat' first|exact trivial|refine And.intro rfl ?_)
  ·have h3:=hx.2 h2
   have h4:=ZaW h1 h2 hb
   have h5:decX s=([],20,i):=by rw [decX,h4,if_pos h1]
   rw [h5]
   refine S.nilrow 5 1 ?_
   repeat' (first|(apply T.pcall;apply rfl;infer_instance;apply rfl;with_reducible exact Z13 _ _)|refine Sg.Y3 ?_|(apply S.condQ;apply rfl;all_goals intro _)|fail)
   ·exact ⟨_,PSub.refl _,_,_,rfl,rfl⟩
   ·rename_i h6
    exact absurd h3 h6
 ·obtain rfl:i=s.length:=by omega
  clear ih
  have hall:∀ c∈s,c∈urlS:=fun c hc=>by
   obtain ⟨j,hj,rfl⟩:=List.getElem_of_mem hc
   have:=hb j hj
   simpa [List.getD,hj] using this
  have hbad:¬badB s < s.length:=fun h=>by
   have h2:=List.findIdx_getElem (p:=fun c=>!(urlS.contains c)) (w:=h)
   exact absurd (hall _ (List.getElem_mem h)) (by unfold badB;simpa using h2)
  by_cases h2:s.length % 4=1
  ·have h5:decX s=([],21,s.length):=by rw [decX,if_neg hbad,if_pos h2]
   rw [h5]
   refine S.nilrow 5 1 ?_
   repeat' (first|((with_reducible apply T.remI64 (n:=4));apply rfl;apply rfl;omega;apply rfl)|refine Sg.Y3 ?_|(apply S.condQ;apply rfl;all_goals intro _)|fail)
   exact ⟨_,PSub.refl _,_,_,rfl,rfl⟩
  ·cases h3:Z0B s with
   | true =>
    have h5:decX s=(decB s,0,0):=by rw [decX,if_neg hbad,if_neg h2,if_pos h3]
    rw [h5]
    repeat' (first|((with_reducible apply T.remI64 (n:=4));apply rfl;apply rfl;omega;apply rfl)|refine Sg.Y3 ?_|(apply S.condQ;apply rfl;all_goals intro _)|fail)
    refine T.call rfl rfl (Z39 hall h2 hn) ?_
    rintro _ _ ⟨ad,cp,rfl,rfl⟩
    rw [h3]
    repeat' (first|refine Sg.Y1 ?_|fail)
    exact ⟨_,PSub.refl _,_,_,rfl,rfl⟩
   | false =>
    have h4:0 < s.length:=by
     rcases Nat.eq_zero_or_pos s.length with h0|h0
     ·rw [Z0B,h0] at h3
      cases h3
     ·exact h0
    have h5:decX s=([],22,s.length - 1):=by rw [decX,if_neg hbad,if_neg h2,h3,if_neg (by simp)]
    rw [h5]
    repeat' (first|((with_reducible apply T.remI64 (n:=4));apply rfl;apply rfl;omega;apply rfl)|refine Sg.Y3 ?_|(apply S.condQ;apply rfl;all_goals intro _)|fail)
    refine T.call rfl rfl (Z39 hall h2 hn) ?_
    rintro _ _ ⟨ad,cp,rfl,rfl⟩
    rw [h3]
    refine Sr.nilrow 5 1 ?_
    repeat' (first|refine Sg.Y1 ?_|fail)
    exact ⟨_,PSub.take Z0 (PSub.drop (PSub.refl _)),_,_,by simp;omega,rfl⟩
end Go.Proofs.YtjajcmedipjfhaaGreatDoor
