/- Texts put together by a program: RevD B64A ShlI B64E RevF. -/
import Derived.Test.YtophlopiigpbgaaGreatDoorMh
import Derived.Test.YtophlopiigpbgaaGreatDoorFacts
import Derived.Test.YtophlopiigpbgaaGreatDoorMb
import Derived.Test.YtophlopiigpbgaaGreatDoorMc
import Derived.Shelf.Small.Strs
import Derived.Test.YtophlopiigpbgaaGreatDoorProg
import Derived.Test.YtophlopiigpbgaaGreatDoorMd
import Derived.Test.YtophlopiigpbgaaGreatDoorMg
set_option linter.unusedVariables false
set_option linter.unusedSimpArgs false
/- The walks of the revealing: objects and values. -/
/- ptrs -/
namespace Sg
def objX (f:Nat) (L:List Said) (top:Bool) (met:List Dg) (x:List Nd) (key:List UInt8):Option (List Dg × List Nd):=match memV x ZJ with
 | some _=>none
 | none=>match Zg (revV f L false) top met [] (kidsOf x 0) with
  | none=>none
  | some (m,ys)=>match Z0x (kidsOf x 0) with
   | none=>some (m,rowN 7 key ys)
   | some h=>if (Z3 h).kind=6 then
     match Zq (revV f L false) L m (ZX (kidsOf x 0)) ys (kidsOf h 0) with
     | none=>none
     | some (m',zs)=>some (m',rowN 7 key zs)
    else none
theorem Zbh {f:Nat} {L:List Said} {top:Bool} {met:List Dg} {x:List Nd} {key:List UInt8} (h:(Z3 x).kind=7):revV (f+1) L top met x key=objX f L top met x key:=by
 rw [revV]
 simp only
 rw [if_pos h]
 rfl
theorem Z9G {f:Nat} {L:List Said} {top:Bool} {met:List Dg} {x:List Nd} {key:List UInt8} (h:(Z3 x).kind=6):revV (f+1) L top met x key=rowO key (Zu (revV f L false) L met [] (kidsOf x 0)):=by
 rw [revV]
 simp only
 rw [if_neg (by omega),if_pos h]
 rfl
theorem Z9H {f:Nat} {L:List Said} {top:Bool} {met:List Dg} {x:List Nd} {key:List UInt8} (h1:(Z3 x).kind≠7) (h2:(Z3 x).kind≠6):revV (f+1) L top met x key=some (met,[(Z3 x).key_ key]):=by
 rw [revV]
 simp only
 rw [if_neg h1,if_neg h2]
section
variable {val:RevV} {met:List Dg} {ys r:List (List Nd)} {x:List Nd} {n:Nd} {top:Bool}
theorem Z8H (h1:Z3 x=n) (h:n.key=sdN):Zg val top met ys (x::r)=Zg val top met ys r:=by
 subst h1
 rw [Zg,if_pos h]
theorem Z7a (h1:Z3 x=n) (h:n.key≠sdN) (ht:top=true∧n.key=algN):Zg val top met ys (x::r)=Zg val top met ys r:=by
 subst h1
 rw [Zg,if_neg h,if_pos ht]
theorem Z79 (h1:Z3 x=n) (h:n.key≠sdN) (ht:¬(top=true∧n.key=algN)):Zg val top met ys (x::r)=match val met x n.key with
  | none=>none
  | some (m,y)=>Zg val top m (ys++[y]) r:=by
 subst h1
 rw [Zg,if_neg h,if_neg ht]
 rfl
end
def Z4E (v:List Nd) (hI:Int):Option (List Nd)→Prop
 | none=>hI = -1
 | some h=>∃ j:Nat,hI=(j:Int)∧IsAt v j∧Z8 v j=h
theorem Zaw:∀ us:List (List Nd),(∀ y∈us,Vl y)→us.length≤us.flatten.length
 | [],_=>Nat.le_refl _
 | x::r,h=>by
  have h1:=Zaw r fun y hy=>h y (List.mem_cons_of_mem _ hy)
  have h2:=(h x (List.mem_cons_self ..)).1.pos
  rw [Z5,List.length_cons]
  omega
theorem Zb3 {v:List Nd} {q i:Nat} (h:IsAt v q) (hi:i < (kidsOf v q).length):(kidsOf v q).take (i+1)=(kidsOf v q).take i++[Z8 v ((offs (q+1) (kidsOf v q)).getD i 0)]:=by
 rw [List.take_succ_eq_append_getElem hi,Z19 h hi]
end Sg
namespace Go.Proofs.YtophlopiigpbgaaGreatDoor
open Sg Go.IntWalk
set_option maxRecDepth 100000
set_option maxHeartbeats 4000000
section
variable {F:World} {M:List Nat} {H:List Res} {p bb sb nb:Nat} {B E N:Ents} {met:List Dg} {oa:Option Addr} {oc:Nat} {o:List Nd} {ds:List Dc} {d:Dg} {ns:List (List UInt8)}
theorem Z8g {H H':List Res} (h:H.Perm H'):∀ ds:List Dc,(dcR met ds H).Perm (dcR met ds H')
 | []=>h
 | _::r=>(Z8g h r).cons _
theorem sink4 (x a b c e:Res) (H:List Res) (ds:List Dc):(x::a::b::c::e::dcR met ds H).Perm (a::b::c::e::dcR met ds (x::H)) :=
 (List.Perm.swap _ _ _).trans (((List.Perm.swap _ _ _).trans (((List.Perm.swap _ _ _).trans (((List.Perm.swap _ _ _).trans ((Z2g _ H ds).cons _)).cons _)).cons _)).cons _)
theorem Z73 {f:Nat} (hv:ValS F M p bb sb B ds f) (hG:∀ x∈ds,NGood x.s.value∧Fo 1 x.s.value) (hGn:∀ x∈ds,x.s.name.length≤maxLen) {v:List Nd} {va:Option Addr} {vc q:Nat} {key:List UInt8} {top:Bool} (hR:Rd F M H va (v.flatMap ndV)) (hg:NGood v) (ha:IsAt v q) (hkl:key.length≤maxLen) (hD:∀ x∈ds,Rd F M H x.va (x.s.value.flatMap ndV)) (hB:Bk2 B E ds met)
  (hf:(Z8 v q).length+pend (ds.map (·.s)) met < f+1) (hn:o.length+(Z8 v q).length+met.length+pend (ds.map (·.s)) met≤1000000000) :
  Meets Tryz.prog 49 [.pointer (some ⟨p,0,none⟩),.slice va v.length vc,.int .i64 q,sV key,.bool top] F M (wkR p bb sb B E met oa oc o ds H)
   (RevO p bb sb B ds H o (objX f (ds.map (·.s)) top met (Z8 v q) key)):=by
 refine Meets.enter Tryz.func49 rfl rfl ?_
 have hlt:=ha.lt
 have hvl:=hg.len
 obtain ⟨hk1,hk2⟩:=ha.kids_len
 generalize hL:ds.map (·.s)=L at *
 have hLv:∀ s∈L,Vl s.value:=fun s hs=>by
  rw [←hL] at hs
  obtain ⟨x,hx,rfl⟩:=List.mem_map.1 hs
  exact ⟨(hG x hx).2,(hG x hx).1.flat⟩
 have hval:(Z8 v q).length=(kidsOf v q).flatten.length+1:=rfl
 have hko:=Zh ha
 have hkv:∀ y∈kidsOf v q,Vl y:=by rw [←hko];exact (hg.vl ha).kids
 have hNm:maxLen=9223372036854775807:=rfl
 unfold objX
 rw [hko]
 unfold wkR
 repeat' (first|refine Sg.Y1 ?_|fail)
 refine T.call rfl rfl (Z0W (v:=v) (key:=ZJ) rfl hvl ha) ?_
 rintro _ _ ⟨rfl,rfl⟩
 rcases Z28 ha ZJ with ⟨m1,m2⟩|⟨qd,m1,md,m2⟩
 ·rw [m1,m2]
  simp only
  generalize hQ:Zg (revV f L false) top met [] (kidsOf v q)=Q
  repeat' (first|(apply T.lss;(iterate 3 apply rfl))|(with_reducible apply T.ofRet)|fail)
  refine T.call rfl rfl Z0t ?_
  rintro _ _ ⟨rfl,rfl⟩
  repeat' (first|(apply Sr.same;refine T.appendF (g:=ndV) (hdN 7 key) rfl rfl rfl inferInstance (fun _=>rfl) rfl rfl rfl (by constructor<;>omega) rfl ?_;intro oa' oc')|(apply T.mapMake;apply rfl;intro mb)|(apply T.bsL;(iterate 5 apply rfl);intro nb)|refine Sg.Y1 ?_|fail)
  have hol:(o++[hdN 7 key]).length=o.length+1:=by simp
  refine T.call rfl rfl (Z0G rfl hvl ha) ?_
  rintro _ _ ⟨ka,kc,rfl,rfl⟩
  dsimp only [wkV,List.set_cons_zero,List.set_cons_succ]
  repeat' (first|refine Sg.Y1 ?_|fail)
  refine S.perm ?_ (((sink4 _ _ _ _ _ H ds).cons _).trans (sink4 _ _ _ _ _ _ ds))
  generalize hks:kidsOf v q=ks at *
  obtain ⟨kr,hkr⟩:∃ kr,kr=Res.row ka kc 3 1 ks.length ((offs (q+1) ks).map nV):=⟨_,rfl⟩
  have hRd:∀ N',∀ x∈ds,Rd F M (kr::nmE mb N'::H) x.va (x.s.value.flatMap ndV):=fun N' x hx=>by
   have:=hD x hx
   exact Rd.tl
  have hRv:∀ N',Rd F M (kr::nmE mb N'::H) va (v.flatMap ndV):=fun N'=>Rd.tl
  obtain ⟨K,hK⟩:∃ K,K=(ks.filter fun x=>!((Z3 x).key==sdN)).flatten.length+met.length+pend L met:=⟨_,rfl⟩
  have hKle:=Z16 (fun x=>!((Z3 x).key==sdN)) ks
  refine S.loopE 4 [0,1,4,10,11,41,42] (fun R b' μ H' e=>∃ (i k:Nat) (hI:Int) (E' N':Ents) (mt:List Dg) (xa:Option Addr) (xc:Nat) (ys:List (List Nd)),H'=wkR p bb sb B E' mt xa xc (o++hdN 7 key::ys.flatten) ds (kr::nmE mb N'::H)∧e=(12,.int .i64 k)::(13,.int .i64 hI)::(43,.int .i64 i)::b' ∧
   (i≤ks.length∧k≤i∧ys.length=k∧Bk2 B E' ds mt∧Nm2 N' (ZX (ks.take i))∧Z4E v hI (Z0x (ks.take i))∧Zg (revV f L false) top mt ys (ks.drop i)=Q∧ys.flatten.length+((ks.drop i).filter fun x=>!((Z3 x).key==sdN)).flatten.length+mt.length+pend L mt≤K∧pend L mt≤pend L met)∧μ=ks.length - i) rfl rfl ?_ _ _
   ⟨0,0,-1,E,[],met,oa',oc',[],by rw [List.flatten_nil,hkr];unfold wkR;rw [hol];rfl,rfl,⟨Nat.zero_le _,Nat.le_refl _,rfl,hB,⟨fun n=>by simp [ZX,eget],by simp⟩,rfl,by simpa using hQ,by rw [List.drop_zero,List.flatten_nil,List.length_nil];omega,Nat.le_refl _⟩,rfl⟩ (by repeat' first|exact trivial|refine And.intro rfl ?_)
  rintro _ _ _ ⟨i,k,hI,E',N',mt,xa,xc,ys,rfl,rfl,⟨g1,g2,g7,g3,g8,g9,g4,g5,g6⟩,rfl⟩ ih
  have hoy:(o++hdN 7 key::ys.flatten).length=o.length+1+ys.flatten.length:=by simp;omega
  by_cases h1:i < ks.length
  ·have hdr:=Z5u ha (by rw [hks];exact h1)
   have htk:=Zb3 ha (by rw [hks];exact h1)
   have hi2:=Z52 ha (by rw [hks];exact h1)
   rw [hks] at hdr htk hi2
   rw [hdr] at g4 g5
   have hol2:(offs (q+1) ks).length=ks.length:=Z1s ..
   have hvx:=hg.vl hi2
   have hxk:Z8 v ((offs (q+1) ks).getD i 0)∈ks:=by
    have:Z8 v ((offs (q+1) ks).getD i 0)∈ks.drop i:=by rw [hdr];exact List.mem_cons_self ..
    exact List.mem_of_mem_drop this
   have hxl:=ZR hxk
   unfold wkR
   subst hkr
   repeat' (first|refine Sg.Y3 ?_|(apply S.condQ;apply rfl;all_goals intro _)|fail)
   generalize (offs (q+1) ks).getD i 0=qi at *
   have hqlt:=hi2.lt
   have e2:Z3 (Z8 v qi)=v.getD qi default:=Zc hqlt
   have hnsn:=Z78 (ks.take i) (Z8 v qi)
   have hhsn:=Z6n (ks.take i) (Z8 v qi)
   rw [←htk,e2] at hnsn hhsn
   have hkl2:=(hg.texts _ (Z26 hqlt)).1
   rw [Zc hqlt] at hkl2
   by_cases c1:(v.getD qi default).key=[95,115,100]
   ·have c1':(v.getD qi default).key=sdN:=c1
    rw [if_pos c1'] at hnsn hhsn
    rw [Z8H e2 c1'] at g4
    rw [List.filter_cons_of_neg (by rw [e2];simpa using c1')] at g5
    rw [←hnsn] at g8
    repeat' (first|refine Sg.Y3 ?_|(apply S.condQ;apply rfl;all_goals intro _)|fail)
    exact ih _ _ _ _ ⟨i+1,k,(qi:Int),E',N',mt,xa,xc,ys,rfl,rfl,⟨by omega,by omega,g7,g3,g8,by rw [hhsn];exact ⟨qi,rfl,hi2,rfl⟩,g4,g5,g6⟩,rfl⟩ (by omega) (by repeat' first|exact trivial|refine And.intro rfl ?_)
   ·have c1':¬(v.getD qi default).key=sdN:=c1
    rw [if_neg c1'] at hnsn hhsn
    rw [List.filter_cons_of_pos (by rw [e2];simpa using c1'),Z5] at g5
    have hnp:=Zcj g8 (v.getD qi default).key
    rw [←hnsn] at hnp
    have hgn:=g8.get (v.getD qi default).key
    have hcn:(ZX (ks.take i)).count (v.getD qi default).key≤(ZX (ks.take i)).length:=List.count_le_length
    have hnl:(ZX (ks.take i)).length≤ks.length:=by
     unfold ZX
     refine Nat.le_trans (List.length_filter_le ..) ?_
     rw [List.length_map,List.length_take]
     omega
    have hNl:=g8.len
    have step:∀ {k':List Item} {e':Env} {cx:Ctx},True:=trivial
    by_cases cA:top=true∧(v.getD qi default).key=[95,115,100,95,97,108,103]
    ·obtain ⟨rfl,cB⟩:=cA
     rw [Z7a e2 c1' ⟨rfl,cB⟩] at g4
     repeat' (first|refine Sg.Y3 ?_|(apply S.condQ;apply rfl;all_goals intro _)|fail)
     rw [hgn]
     repeat' (first|(apply Sr.same;refine T.mapPutA (z:=((ZX (ks.take i)).count (v.getD qi default).key:Int)+1) rfl rfl rfl inferInstance hkl2 (by omega) (Z9d (by constructor<;>omega)) ?_)|refine Sg.Y3 ?_|(apply S.condQ;apply rfl;all_goals intro _)|fail)
     dsimp only
     generalize eput N' (v.getD qi default).key (((ZX (ks.take i)).count (v.getD qi default).key:Int)+1)=N2 at hnp ⊢
     exact ih _ _ _ _ ⟨i+1,k,hI,E',N2,mt,xa,xc,ys,rfl,rfl,⟨by omega,by omega,g7,g3,hnp,by rw [hhsn];exact g9,g4,by omega,g6⟩,rfl⟩ (by omega) (by repeat' first|exact trivial|refine And.intro rfl ?_)
    ·have cA':¬(top=true∧(v.getD qi default).key=algN):=cA
     have cB:top=true→¬(v.getD qi default).key=[95,115,100,95,97,108,103]:=fun h h'=>cA ⟨h,h'⟩
     rw [Z79 e2 c1' cA'] at g4
     clear cA cA'
     have hN2:∃ N2,N2=eput N' (v.getD qi default).key (((ZX (ks.take i)).count (v.getD qi default).key:Int)+1):=⟨_,rfl⟩
     obtain ⟨N2,hN2⟩:=hN2
     rw [←hN2] at hnp
     have hc:=hv _ E' mt xa xc (o++hdN 7 key::ys.flatten) v va vc qi (v.getD qi default).key false (hRv N2) hg hi2 hkl2 (hRd N2) g3 (by rw [hL];omega) (by rw [hL];omega)
     rw [hL] at hc
     cases hr:revV f L false mt (Z8 v qi) (v.getD qi default).key with
     | none =>
      rw [hr] at g4 hc
      simp only at g4
      rw [←g4]
      cases top
      all_goals
       try replace cB:=cB rfl
       repeat' (first|refine Sg.Y3 ?_|(apply S.condQ;apply rfl;all_goals intro _)|fail)
       rw [hgn]
       repeat' (first|(apply Sr.same;refine T.mapPutA (z:=((ZX (ks.take i)).count (v.getD qi default).key:Int)+1) rfl rfl rfl inferInstance hkl2 (by omega) (Z9d (by constructor<;>omega)) ?_)|refine Sg.Y3 ?_|(apply S.condQ;apply rfl;all_goals intro _)|fail)
       dsimp only
       rw [←hN2]
       refine T.call rfl rfl hc ?_
       rintro _ _ ⟨rfl,rfl⟩
       repeat' (first|(with_reducible apply T.diesW)|(with_reducible apply T.ofPan)|fail)
       exact ⟨_,PSub.drop (PSub.drop (PSub.refl _)),rfl,rfl⟩
     | some my =>
      obtain ⟨m,y⟩:=my
      rw [hr] at g4 hc
      simp only at g4
      obtain ⟨b1,b2⟩:=Z0J hLv f false mt _ _ m y hvx (by omega) hr
      have b3:=b1.size
      obtain ⟨r1,b4⟩:=b1.grow
      have b5:=ZE L mt r1
      rw [←b4] at b5
      have hys:=Z0B ys y
      have hyl:(ys++[y]).length=ys.length+1:=List.length_append
      have hmt:mt.length≤m.length:=by rw [b4,List.length_append];omega
      cases top
      all_goals
       try replace cB:=cB rfl
       repeat' (first|refine Sg.Y3 ?_|(apply S.condQ;apply rfl;all_goals intro _)|fail)
       rw [hgn]
       repeat' (first|(apply Sr.same;refine T.mapPutA (z:=((ZX (ks.take i)).count (v.getD qi default).key:Int)+1) rfl rfl rfl inferInstance hkl2 (by omega) (Z9d (by constructor<;>omega)) ?_)|refine Sg.Y3 ?_|(apply S.condQ;apply rfl;all_goals intro _)|fail)
       dsimp only
       rw [←hN2]
       refine T.call rfl rfl hc ?_
       rintro _ _ ⟨E3,ya,yc,k2,rfl,rfl⟩
       repeat' (first|refine Sg.Y2 ?_|fail)
       rw [show o++hdN 7 key::ys.flatten++y=o++hdN 7 key::(ys++[y]).flatten by simp]
       exact ih _ _ _ _ ⟨i+1,k+1,hI,E3,N2,m,ya,yc,ys++[y],rfl,rfl,⟨by omega,by omega,by omega,k2,hnp,by rw [hhsn];exact g9,g4,by omega,by omega⟩,rfl⟩ (by omega) (by repeat' first|exact trivial|refine And.intro rfl ?_)
  ·obtain rfl:i=ks.length:=by omega
   clear ih
   rw [List.drop_length] at g4
   rw [List.take_length] at g8 g9
   have hq2:Q=some (mt,ys):=g4.symm
   subst hq2
   subst g7
   simp only
   have hgi:(o++hdN 7 key::ys.flatten)[o.length]?=some (hdN 7 key):=by simp
   have hse:(o++hdN 7 key::ys.flatten).set o.length ⟨7,key,[],false,0,(ys.length:Int)⟩=o++rowN 7 key ys:=by simp [rowN]
   cases hh:Z0x ks with
   | none =>
    rw [hh] at g9
    have g9':hI = -1:=g9
    subst g9'
    unfold wkR
    repeat' (first|(apply Sr.same;refine T.storeF (g:=ndV) ⟨7,key,[],false,0,(ys.length:Int)⟩ rfl rfl inferInstance (fun _=>rfl) rfl hgi rfl rfl ?_)|refine Sg.Y3 ?_|(apply S.condQ;apply rfl;all_goals intro _)|fail)
    rw [hse,show (o++hdN 7 key::ys.flatten).length=(o++rowN 7 key ys).length by simp [rowN]]
    exact ⟨_,PSub.take Z0 (PSub.take Z0 (PSub.take Z0 (PSub.take Z0 (PSub.trans (Z3b _ _ _) (Z3b _ _ _))))),E',xa,xc,g3,rfl,rfl⟩
   | some h =>
    rw [hh] at g9
    obtain ⟨j,rfl,g10,g11⟩:=g9
    obtain ⟨w1,w2,w3,w4⟩:=Z4d hkv hh
    subst g11
    rw [Zh g10] at w4
    dsimp only
    rw [Zh g10,ZS]
    have hnl:(ZX ks).length≤ks.length:=by
     unfold ZX
     refine Nat.le_trans (List.length_filter_le ..) ?_
     rw [List.length_map]
     omega
    have hc:=Z4C (F:=F) (M:=M) (H:=kr::H) (p:=p) (bb:=bb) (sb:=sb) (nb:=mb) (B:=B) (E:=E') (N:=N') (met:=mt) (oa:=xa) (oc:=xc) (o:=o++hdN 7 key::ys.flatten) (ns:=ZX ks) (va:=va) (vc:=vc) hv hG hGn (by subst hkr;exact Rd.tl) hg g10 (fun x hx=>by have:=hD x hx;subst hkr;exact Rd.tl) g3 g8 (by rw [hL];omega) (by rw [hL];omega) (by omega)
    rw [hL] at hc
    unfold wkR
    have hsw:∀ mt,(dcR mt ds (kr::nmE mb N'::H)).Perm (dcR mt ds (nmE mb N'::kr::H)):=fun mt=>Z8g (List.Perm.swap _ _ _) ds
    refine S.perm ?_ ((((hsw mt).cons _).cons _).cons _ |>.cons _)
    by_cases hk6:(Zz v j).kind=6
    ·rw [if_pos hk6] at hc ⊢
     rw [Z1j]
     generalize hQ2:Zq (revV f L false) L mt (ZX ks) [] (kidsOf v j)=Q2 at hc ⊢
     cases Q2 with
     | none =>
      repeat' (first|refine Sg.Y3 ?_|(apply S.condQ;apply rfl;all_goals intro _)|fail)
      refine T.call rfl rfl hc ?_
      rintro _ _ ⟨rfl,rfl⟩
      repeat' (first|(with_reducible apply T.diesW)|(with_reducible apply T.ofPan)|fail)
      subst hkr
      exact ⟨_,PSub.drop (PSub.refl _),rfl,rfl⟩
     | some mu =>
      obtain ⟨m,us⟩:=mu
      obtain ⟨⟨us',d1,d2⟩,d3⟩:=Z2f (Z0J hLv f false) hLv _ _ _ _ _ _ (by rw [←Zh g10];exact w1.kids) (fun y hy=>by cases hy) (by omega) hQ2
      rw [List.nil_append] at d1
      subst d1
      have d4:=d2.size
      have d5:=Zaw us d3
      have husl:us.length≤1000000000000:=by omega
      dsimp only [addP]
      repeat' (first|refine Sg.Y3 ?_|(apply S.condQ;apply rfl;all_goals intro _)|fail)
      refine T.call rfl rfl hc ?_
      rintro _ _ ⟨E3,ya,yc,N3,k2,rfl,rfl⟩
      have hgi2:(o++hdN 7 key::ys.flatten++us.flatten)[o.length]?=some (hdN 7 key):=by simp
      have hse2:(o++hdN 7 key::ys.flatten++us.flatten).set o.length ⟨7,key,[],false,0,(ys.length:Int)+(us.length:Int)⟩=o++rowN 7 key (ys++us):=by simp [rowN]
      have hgl:o.length < (o++hdN 7 key::ys.flatten++us.flatten).length:=by simp
      repeat' (first|(apply Sr.same;refine T.storeF (g:=ndV) ⟨7,key,[],false,0,(ys.length:Int)+(us.length:Int)⟩ rfl rfl inferInstance (fun _=>rfl) rfl hgi2 rfl rfl ?_)|refine Sg.Y2 ?_|fail)
      rw [hse2,show (o++hdN 7 key::ys.flatten++us.flatten).length=(o++rowN 7 key (ys++us)).length by simp [rowN]]
      exact ⟨_,PSub.take Z0 (PSub.take Z0 (PSub.take Z0 (PSub.take Z0 (PSub.trans (Z3b _ _ _) (Z3b _ _ _))))),E3,ya,yc,k2,rfl,rfl⟩
    ·rw [if_neg hk6] at hc ⊢
     repeat' (first|refine Sg.Y3 ?_|(apply S.condQ;apply rfl;all_goals intro _)|fail)
     refine T.call rfl rfl hc ?_
     rintro _ _ ⟨rfl,rfl⟩
     repeat' (first|(with_reducible apply T.diesW)|(with_reducible apply T.ofPan)|fail)
     subst hkr
     exact ⟨_,PSub.drop (PSub.refl _),rfl,rfl⟩
 ·rw [m1,m2]
  repeat' (first|(apply T.lss;(iterate 3 apply rfl))|(with_reducible apply T.ofRet)|fail)
  rw [decide_eq_false (by omega)]
  refine T.call rfl rfl Z0a ?_
  rintro _ _ ⟨rfl,rfl⟩
  repeat' (first|(with_reducible apply T.diesW)|(with_reducible apply T.ofPan)|fail)
  exact ⟨_,(PSub.drop (PSub.drop (PSub.drop (PSub.drop (Z0k _ _ _))))),rfl,rfl⟩
theorem Z9h (hG:∀ x∈ds,NGood x.s.value∧Fo 1 x.s.value) (hGn:∀ x∈ds,x.s.name.length≤maxLen):∀ f,ValS F M p bb sb B ds f:=by
 intro f
 induction f with
 | zero=>intro H E met oa oc o v va vc q key top _ _ _ _ _ _ h;omega
 | succ f ih =>
  intro H E met oa oc o v va vc q key top hR hg ha hkl hD hB hf hn
  refine Meets.enter Tryz.func25 rfl rfl ?_
  have hlt:=ha.lt
  have hvl:=hg.len
  have e1:=Zc (v:=v) hlt
  have hval:(Z8 v q).length=(kidsOf v q).flatten.length+1:=rfl
  generalize hS:revV (f+1) (ds.map (·.s)) top met (Z8 v q) key=S'
  unfold wkR
  repeat' (first|(apply T.alloc;apply rfl;intro nb)|refine Sg.Y1 ?_|fail)
  by_cases c7:(v.getD q default).kind=7
  ·rw [Zbh (by rw [ZS,e1];exact c7)] at hS
   have hc:=Z73 ih hG hGn (key:=key) (top:=top) (vc:=vc) (oa:=oa) (oc:=oc) hR hg ha hkl hD hB hf hn
   rw [hS] at hc
   refine S.sublist ?_ (PSub.drop (PSub.refl _))
   repeat' (first|(apply T.mv;apply rfl;apply rfl)|with_reducible refine S.reg ?_|(apply S.condQ;apply rfl;all_goals (intro _;try (exfalso;first|omega|with_reducible contradiction)))|fail)
   refine T.call rfl rfl hc ?_
   cases S' with
   | none =>
    rintro _ _ ⟨rfl,rfl⟩
    repeat' (first|(with_reducible apply T.diesW)|(with_reducible apply T.ofPan)|fail)
    exact ⟨_,PSub.refl _,rfl,rfl⟩
   | some my =>
    rintro _ _ ⟨E3,ya,yc,k2,rfl,rfl⟩
    repeat' (first|refine Sg.Y2 ?_|fail)
    exact ⟨_,PSub.refl _,E3,ya,yc,k2,rfl,rfl⟩
  ·by_cases c6:(v.getD q default).kind=6
   ·rw [Z9G (by rw [ZS,e1];exact c6),Zh ha] at hS
    have hc:=Zaa ih hG (key:=key) (vc:=vc) (oa:=oa) (oc:=oc) hR hg ha hkl hD hB hf hn
    rw [hS] at hc
    refine S.sublist ?_ (PSub.drop (PSub.refl _))
    repeat' (first|refine Sg.Y3 ?_|(apply S.condQ;apply rfl;all_goals intro _)|fail)
    refine T.call rfl rfl hc ?_
    cases S' with
    | none =>
     rintro _ _ ⟨rfl,rfl⟩
     repeat' (first|(with_reducible apply T.diesW)|(with_reducible apply T.ofPan)|fail)
     exact ⟨_,PSub.refl _,rfl,rfl⟩
    | some my =>
     rintro _ _ ⟨E3,ya,yc,k2,rfl,rfl⟩
     repeat' (first|refine Sg.Y2 ?_|fail)
     exact ⟨_,PSub.refl _,E3,ya,yc,k2,rfl,rfl⟩
   ·rw [Z9H (by rw [ZS,e1];exact c7) (by rw [ZS,e1];exact c6),ZS,e1] at hS
    subst hS
    repeat' (first|refine Sg.Y3 ?_|(apply S.condQ;apply rfl;all_goals intro _)|fail)
    (apply S.drawL;(case Hs=>exact [.blk nb ((ndV (v.getD q default)).set 1 (sV key)) 34,.blk p (wkV bb sb (dupB met) oa o.length oc) 54]);(case es=>exact  [6,7,10]);(case lt=>exact  [10]);(case n=>exact  11);(case hn=>rfl))
    repeat' (first|(refine T.appendF (g:=ndV) ((v.getD q default).key_ key) rfl rfl rfl inferInstance (fun _=>rfl) rfl rfl rfl (by constructor<;>omega) rfl ?_;intro oa' oc')|(apply T.bsL;(iterate 5 apply rfl);intro nb)|(apply SA.qn;(iterate 4 apply rfl);kernel_rfl)|(apply SA.qz;(iterate 4 apply rfl);kernel_rfl)|(apply SA.qsn;(iterate 3 apply rfl);kernel_rfl;(first|exact fun _ h=>h|exact fun _ h=>St.psub h (by ((repeat (first|dsimp only [List.set_cons_zero]|dsimp only [List.set_cons_succ]));repeat' first|exact PSub.refl _|exact PSub.nil|(apply PSub.take;(repeat' first|(with_reducible exact Z0)|(with_reducible apply Z1)))|(with_reducible apply PSub.drop)|((apply PSub.take);(repeat' first|exact Z0|(apply Z1)))))))|(apply SA.done;apply rfl;kernel_rfl)|(apply SK.late;decide)|(apply SK.intro;(first|exact fun _ h=>h|exact fun _ h=>St.psub h (by ((repeat (first|dsimp only [List.set_cons_zero]|dsimp only [List.set_cons_succ]));repeat' first|exact PSub.refl _|exact PSub.nil|(apply PSub.take;(repeat' first|(with_reducible exact Z0)|(with_reducible apply Z1)))|(with_reducible apply PSub.drop)|((apply PSub.take);(repeat' first|exact Z0|(apply Z1)))))))|refine Sg.Y2 ?_|fail)
    rw [show o.length+1=(o++[(v.getD q default).key_ key]).length by simp]
    exact ⟨_,PSub.drop (PSub.refl _),E,oa',oc',hB,rfl,rfl⟩
end
end Go.Proofs.YtophlopiigpbgaaGreatDoor
/- Both spellings of bytes in 64 signs. -/
namespace Go.Proofs.YtophlopiigpbgaaGreatDoor
open Sg Go Go.RowKit Go.IntWalk
set_option maxRecDepth 100000
set_option maxHeartbeats 2000000
theorem Z7e {l:List UInt8} {o j:Nat}:(l.drop o).getD j 0=l.getD (o+j) 0:=by simp [List.getD]
theorem Zar (bs:List UInt8) (q:Nat):six bs (4*q)=grp bs q / 2 ^ 18 % 64∧six bs (4*q+1)=grp bs q / 2 ^ 12 % 64∧six bs (4*q+2)=grp bs q / 2 ^ 6 % 64∧six bs (4*q+3)=grp bs q % 64:=by
 refine ⟨?_,?_,?_,?_⟩
 ·rw [six,show 4*q / 4=q by omega,show 4*q % 4=0 by omega]
 ·rw [six,show (4*q+1) / 4=q by omega,show (4*q+1) % 4=1 by omega]
 ·rw [six,show (4*q+2) / 4=q by omega,show (4*q+2) % 4=2 by omega]
 ·rw [six,show (4*q+3) / 4=q by omega,show (4*q+3) % 4=3 by omega,Nat.sub_self,Nat.pow_zero,Nat.div_one]
theorem Z8v {F:World} {M:List Nat} {H:List Res} {sa:Option Addr} {gs bs:List UInt8} {c:Nat} (hR:Rd F M H sa (bs.map bV)) (hc:bs.length≤c) (hS:gs.length=64) (hn:bs.length≤35184372088832) :
  Meets Tryz.prog 58 [.slice sa bs.length c,sV gs] F M H (fun e H'=>∃ ad cp,e=.returned (.slice ad (enc gs bs).length cp)∧H'=.row ad cp 5 1 (enc gs bs).length ((enc gs bs).map bV)::H):=by
 refine Meets.enter Tryz.func58 rfl rfl ?_
 repeat' (first|((with_reducible apply T.quoI64 (n:=3));apply rfl;apply rfl;omega;omega;apply rfl)|(apply T.makeB0;apply rfl;apply rfl;omega;apply rfl;intro nb)|refine Sg.Y1 ?_|fail)
 refine S.loopE 1 [1] (fun R b' μ H' e=>∃ (q:Nat) (r:List UInt8) (ra:Option Addr) (rc:Nat) (o:List UInt8) (ad:Option Addr) (cp:Nat),H'=.row ad cp 5 1 o.length (o.map bV)::R∧e=(0,.slice ra r.length rc)::(5,.slice ad o.length cp)::b'∧r=bs.drop (3*q)∧Rd F M H ra (r.map bV)∧r.length≤rc∧o=(List.range (4*q)).map (fun i=>gs.getD (six bs i) 0)∧3*q≤bs.length∧μ=r.length) rfl rfl ?_ _ _ ⟨0,bs,sa,c,[],_,_,rfl,rfl,rfl,hR,hc,rfl,by omega,rfl⟩ (by repeat' first|exact trivial|refine And.intro rfl ?_)
 rintro _ _ _ ⟨q,r,ra,rc,o,ad,cp,rfl,rfl,hr,hRr,hrc,ho,hq,rfl⟩ ih
 have hrl:r.length=bs.length - 3*q:=by rw [hr,List.length_drop]
 have hol:o.length=4*q:=by rw [ho,List.length_map,List.length_range]
 have hg:∀ j,r.getD j 0=bs.getD (3*q+j) 0:=fun j=>by rw [hr,Z7e]
 by_cases h1:3≤r.length
 ·have b0:=UInt8.toNat_lt (r.getD 0 0)
  have b1:=UInt8.toNat_lt (r.getD 1 0)
  have b2:=UInt8.toNat_lt (r.getD 2 0)
  have hgv:(r.getD 0 0).toNat*65536+(r.getD 1 0).toNat*256+(r.getD 2 0).toNat=grp bs q:=by rw [hg,hg,hg];rfl
  have hV:grp bs q < 16777216:=by rw [←hgv];omega
  have hd12:grp bs q / 2 ^ 12 < 18446744073709551616:=by omega
  have hd6:grp bs q / 2 ^ 6 < 18446744073709551616:=by omega
  repeat' (first|((with_reducible apply T.shlU64 (n:=16));apply rfl;apply rfl;omega;omega;apply rfl)|((with_reducible apply T.shlU64 (n:=8));apply rfl;apply rfl;omega;omega;apply rfl)|(apply T.orU64;apply rfl;apply rfl;(first|omega|exact Nat.or_lt_two_pow (n:=64) (by omega) (by omega));omega;apply rfl)|refine Sg.Y3 ?_|(apply S.condQ;apply rfl;all_goals intro _)|fail)
  rw [ZdT b1 b2,hgv]
  (apply S.draw;(case Hs=>exact []);(case es=>exact  [19,20]);(case n=>exact  22);(case hn=>rfl))
  repeat' (first|((with_reducible apply T.shrU64 (n:=18));apply rfl;apply rfl;omega;apply rfl)|((with_reducible apply T.shrU64 (n:=12));apply rfl;apply rfl;omega;apply rfl)|((with_reducible apply T.shrU64 (n:=6));apply rfl;apply rfl;omega;apply rfl)|((with_reducible apply T.andU64 (n:=63));apply rfl;apply rfl;omega;omega;apply rfl)|(apply T.sidx;apply rfl;apply rfl;(first|omega|(rw [b64and63,hS];exact Nat.mod_lt _ (by decide)));apply rfl)|(apply T.append4;apply rfl;apply rfl;infer_instance;apply rfl;(constructor<;>omega);apply rfl;intro na nc)|(apply T.bs;(iterate 6 apply rfl);intro nb)|(apply SA.qn;(iterate 4 apply rfl);kernel_rfl)|(apply SA.qz;(iterate 4 apply rfl);kernel_rfl)|(apply SA.done;apply rfl;kernel_rfl)|(apply SK.intro;(first|exact fun _ h=>h|exact fun _ h=>St.psub h (by ((repeat (first|dsimp only [List.set_cons_zero]|dsimp only [List.set_cons_succ]));repeat' first|exact PSub.refl _|exact PSub.nil|(apply PSub.take;(repeat' first|(with_reducible exact Z0)|(with_reducible apply Z1)))|(with_reducible apply PSub.drop)|((apply PSub.take);(repeat' first|exact Z0|(apply Z1)))))))|refine Sg.Y2 ?_|fail)
  obtain ⟨s0,s1,s2,s3⟩:=Zar bs q
  have ho2:o++[gs.getD (grp bs q / 2 ^ 18) 0,gs.getD (grp bs q / 2 ^ 12&&&63) 0,gs.getD (grp bs q / 2 ^ 6&&&63) 0,gs.getD (grp bs q&&&63) 0]=(List.range (4*(q+1))).map (fun i=>gs.getD (six bs i) 0):=by
   rw [show 4*(q+1)=4*q+4 from rfl,range4,←ho,b64and63,b64and63,b64and63,s0,s1,s2,s3,Nat.mod_eq_of_lt (show grp bs q / 2 ^ 18 < 64 by omega)]
  have ho3:o.length+4=((List.range (4*(q+1))).map (fun i=>gs.getD (six bs i) 0)).length:=by rw [←ho2,List.length_append];rfl
  rw [ho3,ho2,show r.length - 3=(r.drop 3).length by rw [List.length_drop]]
  exact ih _ _ _ _ ⟨q+1,r.drop 3,_,rc - 3,_,_,_,rfl,rfl,by rw [hr,List.drop_drop];rfl,hRr.sub1 (cp:=rc) (lo:=3) hrc,by rw [List.length_drop];omega,rfl,by omega,rfl⟩ (by rw [List.length_drop];omega) (by repeat' first|exact trivial|refine And.intro rfl ?_)
 ·clear ih
  have hgq:grp bs q=(r.getD 0 0).toNat*65536+(r.getD 1 0).toNat*256+(r.getD 2 0).toNat:=by rw [hg,hg,hg];rfl
  obtain ⟨s0,s1,s2,s3⟩:=Zar bs q
  have b0:=UInt8.toNat_lt (r.getD 0 0)
  have b1:=UInt8.toNat_lt (r.getD 1 0)
  have hz:∀ j,r.length≤j→r.getD j 0=0:=fun j hj=>by simp [List.getD,hj]
  by_cases h2:r.length=2
  ·have e1:((r.getD 0 0).toNat&&&3)*2 ^ 4|||(r.getD 1 0).toNat / 2 ^ 4=(r.getD 0 0).toNat % 4*16+(r.getD 1 0).toNat / 16:=by rw [and3,or16 (by omega)]
   repeat' (first|refine Sg.Y3 ?_|(apply S.condQ;apply rfl;all_goals intro _)|fail)
   (apply S.draw;(case Hs=>exact H);(case es=>exact  [26,27]);(case n=>exact  29);(case hn=>rfl))
   repeat' (first|((with_reducible apply T.shrU8 (n:=2));apply rfl;apply rfl;omega;apply rfl)|((with_reducible apply T.shrU8 (n:=4));apply rfl;apply rfl;omega;apply rfl)|((with_reducible apply T.andU8 (n:=3));apply rfl;apply rfl;omega;omega;apply rfl)|((with_reducible apply T.andU8 (n:=15));apply rfl;apply rfl;omega;omega;apply rfl)|((with_reducible apply T.shlU8 (n:=4));apply rfl;apply rfl;(rw [and3];omega);omega;apply rfl)|((with_reducible apply T.shlU8 (n:=2));apply rfl;apply rfl;(rw [b64and15];omega);omega;apply rfl)|(apply T.orU8;apply rfl;apply rfl;(rw [and3];omega);omega;apply rfl)|(apply T.sidx;apply rfl;apply rfl;(first|omega|(rw [e1];omega)|(rw [b64and15];omega));apply rfl)|(apply T.append3;apply rfl;apply rfl;infer_instance;apply rfl;(constructor<;>omega);apply rfl;intro na nc)|(apply T.bs;(iterate 6 apply rfl);intro nb)|(apply SA.qn;(iterate 4 apply rfl);kernel_rfl)|(apply SA.qz;(iterate 4 apply rfl);kernel_rfl)|(apply SA.qsn;(iterate 3 apply rfl);kernel_rfl;(first|exact fun _ h=>h|exact fun _ h=>St.psub h (by ((repeat (first|dsimp only [List.set_cons_zero]|dsimp only [List.set_cons_succ]));repeat' first|exact PSub.refl _|exact PSub.nil|(apply PSub.take;(repeat' first|(with_reducible exact Z0)|(with_reducible apply Z1)))|(with_reducible apply PSub.drop)|((apply PSub.take);(repeat' first|exact Z0|(apply Z1)))))))|(apply SA.done;apply rfl;kernel_rfl)|(apply SK.intro;(first|exact fun _ h=>h|exact fun _ h=>St.psub h (by ((repeat (first|dsimp only [List.set_cons_zero]|dsimp only [List.set_cons_succ]));repeat' first|exact PSub.refl _|exact PSub.nil|(apply PSub.take;(repeat' first|(with_reducible exact Z0)|(with_reducible apply Z1)))|(with_reducible apply PSub.drop)|((apply PSub.take);(repeat' first|exact Z0|(apply Z1)))))))|refine Sg.Y1 ?_|fail)
   have hz2:=hz 2 (by omega)
   rw [hz2] at hgq
   have hen:enc gs bs=o++[gs.getD ((r.getD 0 0).toNat / 2 ^ 2) 0,gs.getD (((r.getD 0 0).toNat&&&3)*2 ^ 4|||(r.getD 1 0).toNat / 2 ^ 4) 0,gs.getD (((r.getD 1 0).toNat&&&15)*2 ^ 2) 0]:=by
    rw [enc,show Z0e bs.length=4*q+3 by unfold Z0e;omega,range3,←ho,e1,b64and15,s0,s1,s2,hgq,show (0:UInt8).toNat=0 from rfl]
    rw [show ((r.getD 0 0).toNat*65536+(r.getD 1 0).toNat*256+0) / 2 ^ 18 % 64=(r.getD 0 0).toNat / 2 ^ 2 by omega,show ((r.getD 0 0).toNat*65536+(r.getD 1 0).toNat*256+0) / 2 ^ 12 % 64=(r.getD 0 0).toNat % 4*16+(r.getD 1 0).toNat / 16 by omega,
     show ((r.getD 0 0).toNat*65536+(r.getD 1 0).toNat*256+0) / 2 ^ 6 % 64=(r.getD 1 0).toNat % 16*2 ^ 2 by omega]
   have hel:o.length+3=(enc gs bs).length:=by rw [hen,List.length_append];rfl
   rw [hel,←hen]
   exact ⟨_,PSub.refl _,_,_,rfl,rfl⟩
  ·by_cases h3:r.length=1
   ·repeat' (first|refine Sg.Y3 ?_|(apply S.condQ;apply rfl;all_goals intro _)|fail)
    (apply S.draw;(case Hs=>exact H);(case es=>exact  [14,15]);(case n=>exact  17);(case hn=>rfl))
    repeat' (first|((with_reducible apply T.shrU8 (n:=2));apply rfl;apply rfl;omega;apply rfl)|((with_reducible apply T.andU8 (n:=3));apply rfl;apply rfl;omega;omega;apply rfl)|((with_reducible apply T.shlU8 (n:=4));apply rfl;apply rfl;(rw [and3];omega);omega;apply rfl)|(apply T.sidx;apply rfl;apply rfl;(first|omega|(rw [and3];omega));apply rfl)|(apply T.append2;apply rfl;apply rfl;infer_instance;apply rfl;(constructor<;>omega);apply rfl;intro na nc)|(apply T.bs;(iterate 6 apply rfl);intro nb)|(apply SA.qn;(iterate 4 apply rfl);kernel_rfl)|(apply SA.qz;(iterate 4 apply rfl);kernel_rfl)|(apply SA.done;apply rfl;kernel_rfl)|(apply SK.intro;(first|exact fun _ h=>h|exact fun _ h=>St.psub h (by ((repeat (first|dsimp only [List.set_cons_zero]|dsimp only [List.set_cons_succ]));repeat' first|exact PSub.refl _|exact PSub.nil|(apply PSub.take;(repeat' first|(with_reducible exact Z0)|(with_reducible apply Z1)))|(with_reducible apply PSub.drop)|((apply PSub.take);(repeat' first|exact Z0|(apply Z1)))))))|refine Sg.Y1 ?_|fail)
    have hz1:=hz 1 (by omega)
    have hz2:=hz 2 (by omega)
    rw [hz2,hz1] at hgq
    have hen:enc gs bs=o++[gs.getD ((r.getD 0 0).toNat / 2 ^ 2) 0,gs.getD (((r.getD 0 0).toNat&&&3)*2 ^ 4) 0]:=by
     rw [enc,show Z0e bs.length=4*q+2 by unfold Z0e;omega,range2,←ho,and3,s0,s1,hgq,show (0:UInt8).toNat=0 from rfl]
     rw [show ((r.getD 0 0).toNat*65536+0*256+0) / 2 ^ 18 % 64=(r.getD 0 0).toNat / 2 ^ 2 by omega,show ((r.getD 0 0).toNat*65536+0*256+0) / 2 ^ 12 % 64=(r.getD 0 0).toNat % 4*2 ^ 4 by omega]
    have hel:o.length+2=(enc gs bs).length:=by rw [hen,List.length_append];rfl
    rw [hel,←hen]
    exact ⟨_,PSub.refl _,_,_,rfl,rfl⟩
   ·have hen:enc gs bs=o:=by
     rw [enc,show Z0e bs.length=4*q by unfold Z0e;omega,←ho]
    rw [hen]
    repeat' (first|refine Sg.Y3 ?_|(apply S.condQ;apply rfl;all_goals intro _)|fail)
    exact ⟨_,PSub.refl _,_,_,rfl,rfl⟩
theorem Z1t {F:World} {M:List Nat} {H:List Res} {sa:Option Addr} {bs:List UInt8} {c:Nat} (hR:Rd F M H sa (bs.map bV)) (hc:bs.length≤c) (hn:bs.length≤35184372088832) :
  Meets Tryz.prog 32 [.slice sa bs.length c] F M H (fun e H'=>e=.returned (sV (enc urlS bs))∧∃ r,H'=r::H):=by
 refine Meets.enter Tryz.func32 rfl rfl ?_
 repeat' (first|refine Sg.Y1 ?_|fail)
 refine T.call rfl rfl (Z8v (gs:=urlS) hR hc rfl hn) ?_
 rintro _ _ ⟨ad,cp,rfl,rfl⟩
 repeat' (first|refine Sg.Y2 ?_|fail)
 exact ⟨_,PSub.refl _,rfl,_,rfl⟩
/- The document's own spelling. -/
end Go.Proofs.YtophlopiigpbgaaGreatDoor
/- The library's contracts, laid at this program (printed by the kit's tools lay-shelf and lay-plain, cut out by a program). -/
namespace Go.Proofs
open Go.Shelf
def Tryz.lays137_ren:Go.Shelf.Ren:=⟨fun|137=>43|217=>69|266=>103|n=>n,fun|9=>9|5=>5|3=>3|n=>n,fun|n=>n⟩
theorem Tryz.lays137:Go.Proofs.Lays.n137 Tryz.prog Tryz.lays137_ren:={
 mixed:=by kernel_rfl
 f137:=Tryz.func43.trans (congrArg some (by kernel_rfl))
 f217:=Tryz.func69.trans (congrArg some (by kernel_rfl))
 f266:=Tryz.func103.trans (congrArg some (by kernel_rfl))
 t3:=Tryz.underlying3
 a3:=Tryz.isAgg3
 z3:=Tryz.sizeOf3
 v3:=Tryz.zeroValue3
 t5:=Tryz.underlying5
 a5:=Tryz.isAgg5
 z5:=Tryz.sizeOf5
 v5:=Tryz.zeroValue5
 t9:=Tryz.underlying9
 a9:=Tryz.isAgg9
 z9:=Tryz.sizeOf9
 v9:=Tryz.zeroValue9 }
open Go.RowKit in
theorem Tryz.strings_IndexByte (s:ByteArray) (c:Int) (w:World) :
  Calls Tryz.prog 43 #[.string s,.int .u8 c] w fun e w'=>e=.returned (.int .i64 (Lib.indexByte s.data.toList c.toNat.toUInt8))∧w'=w:=Any.strings_IndexByte Tryz.lays137 s c w
end Go.Proofs
/- The walk of the program's reading of 64 signs. -/
namespace Go.Proofs.YtophlopiigpbgaaGreatDoor
open Sg Go Go.RowKit Go.IntWalk
set_option maxRecDepth 100000
set_option maxHeartbeats 4000000
theorem Z15 (s:List UInt8) (ch:UInt8):PCall Tryz.prog 43 [sV s,.int .u8 (ch.toNat:Nat)] (.int .i64 (Lib.indexByte s ch)):=fun w=>by
 have h:=Tryz.strings_IndexByte (ByteArray.mk s.toArray) (ch.toNat:Nat) w
 have h2:((ch.toNat:Nat):Int).toNat.toUInt8=ch:=by rw [Int.toNat_natCast];simp
 rw [h2] at h
 exact h
theorem ZQ {ch:UInt8} (h:ch∈urlS):PCall Tryz.prog 70 [.int .u8 (ch.toNat:Nat),sV urlS] (.int .u64 (urlS.idxOf ch:Nat)):=by
 intro w
 have hlt:urlS.idxOf ch < 64:=List.idxOf_lt_length_iff.2 h
 have hi:=Zcm ch urlS h
 have hc:=Z15 urlS ch
 rw [hi] at hc
 generalize urlS.idxOf ch=k at *
 have hw:IntKind.u64.wrap (k:Int)=(k:Int):=by rw [Z7t];omega
 generalize (ch.toNat:Int)=z at hc ⊢
 generalize sV urlS=u at hc ⊢
 clear hi h
 go_enter Tryz.func70,Tryz.ntmps70
 go_wp2_with (go_at_call 43;refine (hc w).mono ?_;rintro e w' ⟨rfl,rfl⟩)
 go_wp2
 go_ret
 exact ⟨rfl,rfl⟩
theorem Z3l {F:World} {M:List Nat} {H:List Res} {s:List UInt8} (hs:∀ c∈s,c∈urlS) (h4:s.length % 4≠1) (hn:s.length≤140737488351232) :
  Meets Tryz.prog 44 [sV s,sV urlS] F M H (fun e H'=>∃ ad cp,e=.returned (.tuple ⟨[.slice ad (decB s).length cp,.bool (Z1B s)]⟩)∧H'=.row ad cp 5 1 (decB s).length ((decB s).map bV)::H):=by
 refine Meets.enter Tryz.func44 rfl rfl ?_
 repeat' (first|((with_reducible apply T.quoI64 (n:=4));apply rfl;apply rfl;omega;omega;apply rfl)|(apply T.makeB0;apply rfl;apply rfl;omega;apply rfl;intro nb)|refine Sg.Y1 ?_|fail)
 refine S.loopE 1 [1] (fun R b' μ H' e=>∃ (q:Nat) (r o:List UInt8) (ad:Option Addr) (cp:Nat),H'=.row ad cp 5 1 o.length (o.map bV)::R∧e=(0,sV r)::(6,.slice ad o.length cp)::b'∧(r=s.drop (4*q)∧o=(List.range (3*q)).map (fun i=>UInt8.ofNat (dgrp s (i / 3) / 256 ^ (2 - i % 3)))∧4*q≤s.length)∧μ=r.length) rfl rfl ?_ _ _ ⟨0,s,[],_,_,rfl,rfl,⟨rfl,rfl,by omega⟩,rfl⟩ (by repeat' first|exact trivial|refine And.intro rfl ?_)
 rintro _ _ _ ⟨q,r,o,ad,cp,rfl,rfl,⟨hr,ho,hq⟩,rfl⟩ ih
 have hrl:r.length=s.length - 4*q:=by rw [hr,List.length_drop]
 have hol:o.length=3*q:=by rw [ho,List.length_map,List.length_range]
 have hg:∀ j,j < r.length→sgn s (4*q+j)=urlS.idxOf (r.getD j 0):=fun j hj=>by rw [←Zbc,←hr,ZcL hj]
 have hm:∀ j,j < r.length→r.getD j 0∈urlS:=fun j hj=>by
  have:r.getD j 0∈r:=by simp [List.getD,hj]
  exact hs _ (List.mem_of_mem_drop (by rw [←hr];exact this))
 have hlt:∀ j,j < r.length→urlS.idxOf (r.getD j 0) < 64:=fun j hj=>List.idxOf_lt_length_iff.2 (hm j hj)
 by_cases h1:4≤r.length
 ·have m0:=ZQ (hm 0 (by omega))
  have m1:=ZQ (hm 1 (by omega))
  have m2:=ZQ (hm 2 (by omega))
  have m3:=ZQ (hm 3 (by omega))
  have g0:=hg 0 (by omega)
  have g1:=hg 1 (by omega)
  have g2:=hg 2 (by omega)
  have g3:=hg 3 (by omega)
  have l0:=hlt 0 (by omega)
  have l1:=hlt 1 (by omega)
  have l2:=hlt 2 (by omega)
  have l3:=hlt 3 (by omega)
  generalize urlS.idxOf (r.getD 0 0)=n0 at m0 g0 l0
  generalize urlS.idxOf (r.getD 1 0)=n1 at m1 g1 l1
  generalize urlS.idxOf (r.getD 2 0)=n2 at m2 g2 l2
  generalize urlS.idxOf (r.getD 3 0)=n3 at m3 g3 l3
  have hv:=Z7k (a:=n0) l1 l2 l3
  have hd:dgrp s q=n0*262144+n1*4096+n2*64+n3:=by rw [dgrp,←g0,←g1,←g2,←g3];rfl
  have o1:n0*2 ^ 18|||n1*2 ^ 12 < 2 ^ 64:=Nat.or_lt_two_pow (by omega) (by omega)
  have o2:n0*2 ^ 18|||n1*2 ^ 12|||n2*2 ^ 6 < 2 ^ 64:=Nat.or_lt_two_pow o1 (by omega)
  repeat' (first|refine Sg.Y3 ?_|(apply S.condQ;apply rfl;all_goals intro _)|fail)
  (apply S.draw;(case Hs=>exact .row ad cp 5 1 o.length (o.map bV)::H);(case es=>exact  []);(case n=>exact  23);(case hn=>rfl))
  repeat' (first|(apply Sr.same;refine (T.sidx (i:=0) rfl rfl (by omega) rfl ?_))|(apply Sr.same;refine (T.sidx (i:=1) rfl rfl (by omega) rfl ?_))|(apply Sr.same;refine (T.sidx (i:=2) rfl rfl (by omega) rfl ?_))|(apply Sr.same;refine (T.sidx (i:=3) rfl rfl (by omega) rfl ?_))|(apply SA.qcall;(iterate 3 apply rfl);kernel_rfl;apply rfl;infer_instance;apply rfl;first|with_reducible exact m0|with_reducible exact m1|with_reducible exact m2|with_reducible exact m3)|((with_reducible apply T.shlU64 (n:=18));apply rfl;apply rfl;omega;omega;apply rfl)|((with_reducible apply T.shlU64 (n:=12));apply rfl;apply rfl;omega;omega;apply rfl)|((with_reducible apply T.shlU64 (n:=6));apply rfl;apply rfl;omega;omega;apply rfl)|(apply T.orU64;apply rfl;apply rfl;(first|exact o1|exact o2|omega);omega;apply rfl)|(apply SA.qn;(iterate 4 apply rfl);kernel_rfl)|(apply SA.done;apply rfl;kernel_rfl)|refine Sg.Y1 ?_|fail)
  rw [hv,←hd]
  repeat' (first|((with_reducible apply T.shrU64 (n:=16));apply rfl;apply rfl;omega;apply rfl)|((with_reducible apply T.shrU64 (n:=8));apply rfl;apply rfl;omega;apply rfl)|(apply T.append3;apply rfl;apply rfl;infer_instance;apply rfl;(constructor<;>omega);apply rfl;intro na nc)|(apply Sr.same;refine (T.ssliceL (i:=4) rfl rfl (by omega) rfl ?_))|(apply T.bs;(iterate 6 apply rfl);intro nb)|refine Sg.Y2 ?_|fail)
  have ho2:=Z91 s q
  rw [←ho] at ho2
  have ho3:o.length+3=((List.range (3*(q+1))).map (fun i=>UInt8.ofNat (dgrp s (i / 3) / 256 ^ (2 - i % 3)))).length:=by rw [ho2,List.length_append];rfl
  rw [ho3]
  have ho4:o++[UInt8.ofNat (dgrp s q / 2 ^ 16),UInt8.ofNat (dgrp s q / 2 ^ 8),UInt8.ofNat (dgrp s q)]=_:=ho2.symm
  rw [ho4]
  exact ih _ _ _ _ ⟨q+1,r.drop 4,_,_,_,rfl,rfl,⟨by rw [hr,List.drop_drop];rfl,rfl,by omega⟩,rfl⟩ (by rw [List.length_drop];omega) (by repeat' first|exact trivial|refine And.intro rfl ?_)
 ·clear ih
  have hlo:sgn s (4*q+3)=0:=Z6Q (by omega)
  have hq4:s.length / 4=q:=by omega
  by_cases h2:r.length=3
  ·have m0:=ZQ (hm 0 (by omega))
   have m1:=ZQ (hm 1 (by omega))
   have m2:=ZQ (hm 2 (by omega))
   have g0:=hg 0 (by omega)
   have g1:=hg 1 (by omega)
   have g2:=hg 2 (by omega)
   have l0:=hlt 0 (by omega)
   have l1:=hlt 1 (by omega)
   have l2:=hlt 2 (by omega)
   generalize urlS.idxOf (r.getD 0 0)=n0 at m0 g0 l0
   generalize urlS.idxOf (r.getD 1 0)=n1 at m1 g1 l1
   generalize urlS.idxOf (r.getD 2 0)=n2 at m2 g2 l2
   have hv:n2*2 ^ 6|||(n0*2 ^ 18|||n1*2 ^ 12)=n0*262144+n1*4096+n2*64:=by
    have:=Z7k (a:=n0) l1 l2 (show 0 < 64 by decide)
    rw [Nat.or_comm]
    simpa using this
   have hd:dgrp s q=n0*262144+n1*4096+n2*64:=by have e0:sgn s (4*q)=n0:=g0;rw [dgrp,hlo,e0,g1,g2];omega
   have o1:n0*2 ^ 18|||n1*2 ^ 12 < 2 ^ 64:=Nat.or_lt_two_pow (by omega) (by omega)
   repeat' (first|(apply T.pcall;apply rfl;infer_instance;apply rfl;with_reducible exact m2)|(apply Sr.same;refine (T.sidx (i:=2) rfl rfl (by omega) rfl ?_))|((with_reducible apply T.shlU64 (n:=6));apply rfl;apply rfl;omega;omega;apply rfl)|refine Sg.Y3 ?_|(apply S.condQ;apply rfl;all_goals intro _)|fail)
   (apply S.draw;(case Hs=>exact .row ad cp 5 1 o.length (o.map bV)::H);(case es=>exact  []);(case n=>exact  14);(case hn=>rfl))
   repeat' (first|(apply Sr.same;refine (T.sidx (i:=0) rfl rfl (by omega) rfl ?_))|(apply Sr.same;refine (T.sidx (i:=1) rfl rfl (by omega) rfl ?_))|(apply SA.qcall;(iterate 3 apply rfl);kernel_rfl;apply rfl;infer_instance;apply rfl;first|with_reducible exact m0|with_reducible exact m1)|((with_reducible apply T.shlU64 (n:=18));apply rfl;apply rfl;omega;omega;apply rfl)|((with_reducible apply T.shlU64 (n:=12));apply rfl;apply rfl;omega;omega;apply rfl)|(apply T.orU64;apply rfl;apply rfl;(first|exact o1|omega);(first|exact o1|omega);apply rfl)|(apply SA.qn;(iterate 4 apply rfl);kernel_rfl)|(apply SA.done;apply rfl;kernel_rfl)|refine Sg.Y1 ?_|fail)
   rw [hv,←hd]
   have hdlt:dgrp s q < 18446744073709551616:=by omega
   repeat' (first|((with_reducible apply T.shrU64 (n:=16));apply rfl;apply rfl;omega;apply rfl)|((with_reducible apply T.shrU64 (n:=8));apply rfl;apply rfl;omega;apply rfl)|((with_reducible apply T.andU64 (n:=255));apply rfl;apply rfl;omega;omega;apply rfl)|(apply T.bs;(iterate 6 apply rfl);intro nb)|(apply T.appendB;apply rfl;apply rfl;infer_instance;apply rfl;(constructor<;>omega);apply rfl;intro na nc)|refine Sg.Y3 ?_|(apply S.condQ;apply rfl;all_goals intro _)|fail)
   have hdb:decB s=o++[UInt8.ofNat (dgrp s q / 2 ^ 16)]++[UInt8.ofNat (dgrp s q / 2 ^ 8)]:=by
    rw [decB,show s.length*6 / 8=3*q+2 by omega,range2,←ho,show 3*q / 3=q by omega,show (3*q+1) / 3=q by omega,show 3*q % 3=0 by omega,show (3*q+1) % 3=1 by omega,List.append_assoc]
    rfl
   have hsp:decide (((dgrp s q&&&255:Nat):Int)=0)=Z1B s:=by
    rw [Z1B,if_pos (by omega),hq4,show 255=2 ^ 8 - 1 from rfl,Nat.and_two_pow_sub_one_eq_mod]
    rw [decide_eq_decide]
    omega
   have hdl:o.length+1+1=(decB s).length:=by rw [hdb];simp
   rw [hsp,hdl,←hdb]
   exact ⟨_,PSub.refl _,_,_,rfl,rfl⟩
  ·by_cases h3:r.length=2
   ·have m0:=ZQ (hm 0 (by omega))
    have m1:=ZQ (hm 1 (by omega))
    have g0:=hg 0 (by omega)
    have g1:=hg 1 (by omega)
    have l0:=hlt 0 (by omega)
    have l1:=hlt 1 (by omega)
    have hl2:sgn s (4*q+2)=0:=Z6Q (by omega)
    generalize urlS.idxOf (r.getD 0 0)=n0 at m0 g0 l0
    generalize urlS.idxOf (r.getD 1 0)=n1 at m1 g1 l1
    have hv:0|||(n0*2 ^ 18|||n1*2 ^ 12)=n0*262144+n1*4096:=by
     have:=Z7k (a:=n0) l1 (show 0 < 64 by decide) (show 0 < 64 by decide)
     rw [Nat.or_comm]
     simpa using this
    have hd:dgrp s q=n0*262144+n1*4096:=by have e0:sgn s (4*q)=n0:=g0;rw [dgrp,hlo,hl2,e0,g1];omega
    have o1:n0*2 ^ 18|||n1*2 ^ 12 < 2 ^ 64:=Nat.or_lt_two_pow (by omega) (by omega)
    repeat' (first|refine Sg.Y3 ?_|(apply S.condQ;apply rfl;all_goals intro _)|fail)
    (apply S.draw;(case Hs=>exact .row ad cp 5 1 o.length (o.map bV)::H);(case es=>exact  []);(case n=>exact  14);(case hn=>rfl))
    repeat' (first|(apply Sr.same;refine (T.sidx (i:=0) rfl rfl (by omega) rfl ?_))|(apply Sr.same;refine (T.sidx (i:=1) rfl rfl (by omega) rfl ?_))|(apply SA.qcall;(iterate 3 apply rfl);kernel_rfl;apply rfl;infer_instance;apply rfl;first|with_reducible exact m0|with_reducible exact m1)|((with_reducible apply T.shlU64 (n:=18));apply rfl;apply rfl;omega;omega;apply rfl)|((with_reducible apply T.shlU64 (n:=12));apply rfl;apply rfl;omega;omega;apply rfl)|((with_reducible apply T.orU64 (m:=0));apply rfl;apply rfl;omega;exact o1;apply rfl)|(apply SA.qn;(iterate 4 apply rfl);kernel_rfl)|(apply SA.done;apply rfl;kernel_rfl)|refine Sg.Y1 ?_|fail)
    rw [hv,←hd]
    have hdlt:dgrp s q < 18446744073709551616:=by omega
    repeat' (first|((with_reducible apply T.shrU64 (n:=16));apply rfl;apply rfl;omega;apply rfl)|((with_reducible apply T.andU64 (n:=65535));apply rfl;apply rfl;omega;omega;apply rfl)|(apply T.bs;(iterate 6 apply rfl);intro nb)|(apply T.appendB;apply rfl;apply rfl;infer_instance;apply rfl;(constructor<;>omega);apply rfl;intro na nc)|refine Sg.Y3 ?_|(apply S.condQ;apply rfl;all_goals intro _)|fail)
    have hdb:decB s=o++[UInt8.ofNat (dgrp s q / 2 ^ 16)]:=by
     rw [decB,show s.length*6 / 8=3*q+1 by omega,List.range_succ,List.map_append,←ho]
     simp only [List.map_cons,List.map_nil,show 3*q / 3=q by omega,show 3*q % 3=0 by omega]
     try rfl
    have hsp:decide (((dgrp s q&&&65535:Nat):Int)=0)=Z1B s:=by
     rw [Z1B,if_neg (by omega),if_pos (by omega),hq4,show 65535=2 ^ 16 - 1 from rfl,Nat.and_two_pow_sub_one_eq_mod]
     rw [decide_eq_decide]
     omega
    have hdl:o.length+1=(decB s).length:=by rw [hdb];simp
    rw [hsp,hdl,←hdb]
    exact ⟨_,PSub.refl _,_,_,rfl,rfl⟩
   ·have hdb:decB s=o:=by rw [decB,show s.length*6 / 8=3*q by omega,←ho]
    have hsp:Z1B s=true:=by rw [Z1B,if_neg (by omega),if_neg (by omega)]
    rw [hdb,hsp]
    repeat' (first|refine Sg.Y3 ?_|(apply S.condQ;apply rfl;all_goals intro _)|fail)
    exact ⟨_,PSub.refl _,_,_,rfl,rfl⟩
def DecP (H:List Res) (s:List UInt8) (e:Ending) (H':List Res):Prop:=∃ ad cp,e=.returned (.tuple ⟨[.slice ad (decX s).1.length cp,.int .i64 (decX s).2.1,.int .i64 ((decX s).2.2:Nat)]⟩)∧H'=.row ad cp 5 1 (decX s).1.length ((decX s).1.map bV)::H
theorem Z2r {F:World} {M:List Nat} {H:List Res} {s:List UInt8} (hn:s.length≤140737488351232) :
  Meets Tryz.prog 18 [sV s] F M H (DecP H s):=by
 refine Meets.enter Tryz.func18 rfl rfl ?_
 unfold DecP
 repeat' (first|refine Sg.Y1 ?_|fail)
 refine S.loopE 0 [0,9] (fun R b' μ H' e=>∃ i:Nat,H'=R∧e=(10,.int .i64 i)::b'∧(i≤s.length∧∀ j,j < i→s.getD j 0∈urlS)∧μ=s.length - i) rfl rfl ?_ _ _ ⟨0,rfl,rfl,⟨by omega,fun j hj=>by omega⟩,rfl⟩ (by repeat' first|exact trivial|refine And.intro rfl ?_)
 rintro _ _ _ ⟨i,rfl,rfl,⟨hi,hb⟩,rfl⟩ ih
 by_cases h1:i < s.length
 ·have hx:=Zan (s.getD i 0) urlS
  by_cases h2:s.getD i 0∈urlS
  ·have h3:¬Lib.indexByte urlS (s.getD i 0) < 0:=fun h=>hx.1 h h2
   repeat' (first|(apply T.pcall;apply rfl;infer_instance;apply rfl;with_reducible exact Z15 _ _)|refine Sg.Y3 ?_|(apply S.condQ;apply rfl;all_goals intro _)|fail)
   ·rename_i h4
    exact absurd h4 h3
   exact ih _ _ _ _ ⟨i+1,rfl,rfl,⟨h1,fun j hj=>by
    rcases Nat.lt_succ_iff_lt_or_eq.1 hj with hj|rfl
    ·exact hb j hj
    ·exact h2⟩,rfl⟩ (by omega) (by repeat' first|exact trivial|refine And.intro rfl ?_)
  ·have h3:=hx.2 h2
   have h4:=Zdo h1 h2 hb
   have h5:decX s=([],20,i):=by rw [decX,h4,if_pos h1]
   rw [h5]
   refine S.nilrow 5 1 ?_
   repeat' (first|(apply T.pcall;apply rfl;infer_instance;apply rfl;with_reducible exact Z15 _ _)|refine Sg.Y3 ?_|(apply S.condQ;apply rfl;all_goals intro _)|fail)
   ·exact ⟨_,PSub.refl _,_,_,rfl,rfl⟩
   ·rename_i h6
    exact absurd h3 h6
 ·obtain rfl:i=s.length:=by omega
  clear ih
  have hall:∀ c∈s,c∈urlS:=fun c hc=>by
   obtain ⟨j,hj,rfl⟩:=List.getElem_of_mem hc
   have:=hb j hj
   simpa [List.getD,hj] using this
  have hbad:¬badB s < s.length:=fun h=>by
   have h2:=List.findIdx_getElem (p:=fun c=>!(urlS.contains c)) (w:=h)
   exact absurd (hall _ (List.getElem_mem h)) (by unfold badB;simpa using h2)
  by_cases h2:s.length % 4=1
  ·have h5:decX s=([],21,s.length):=by rw [decX,if_neg hbad,if_pos h2]
   rw [h5]
   refine S.nilrow 5 1 ?_
   repeat' (first|((with_reducible apply T.remI64 (n:=4));apply rfl;apply rfl;omega;apply rfl)|refine Sg.Y3 ?_|(apply S.condQ;apply rfl;all_goals intro _)|fail)
   exact ⟨_,PSub.refl _,_,_,rfl,rfl⟩
  ·cases h3:Z1B s with
   | true =>
    have h5:decX s=(decB s,0,0):=by rw [decX,if_neg hbad,if_neg h2,if_pos h3]
    rw [h5]
    repeat' (first|((with_reducible apply T.remI64 (n:=4));apply rfl;apply rfl;omega;apply rfl)|refine Sg.Y3 ?_|(apply S.condQ;apply rfl;all_goals intro _)|fail)
    refine T.call rfl rfl (Z3l hall h2 hn) ?_
    rintro _ _ ⟨ad,cp,rfl,rfl⟩
    rw [h3]
    repeat' (first|refine Sg.Y1 ?_|fail)
    exact ⟨_,PSub.refl _,_,_,rfl,rfl⟩
   | false =>
    have h4:0 < s.length:=by
     rcases Nat.eq_zero_or_pos s.length with h0|h0
     ·rw [Z1B,h0] at h3
      cases h3
     ·exact h0
    have h5:decX s=([],22,s.length - 1):=by rw [decX,if_neg hbad,if_neg h2,h3,if_neg (by simp)]
    rw [h5]
    repeat' (first|((with_reducible apply T.remI64 (n:=4));apply rfl;apply rfl;omega;apply rfl)|refine Sg.Y3 ?_|(apply S.condQ;apply rfl;all_goals intro _)|fail)
    refine T.call rfl rfl (Z3l hall h2 hn) ?_
    rintro _ _ ⟨ad,cp,rfl,rfl⟩
    rw [h3]
    refine Sr.nilrow 5 1 ?_
    repeat' (first|refine Sg.Y1 ?_|fail)
    exact ⟨_,PSub.take Z0 (PSub.drop (PSub.refl _)),_,_,by simp;omega,rfl⟩
end Go.Proofs.YtophlopiigpbgaaGreatDoor
/- The walk of the reading of a disclosure. -/
/- ptrs -/
namespace Go.Proofs.YtophlopiigpbgaaGreatDoor
open Sg Go.IntWalk
set_option maxRecDepth 100000
set_option maxHeartbeats 4000000
section
variable {F:World} {M:List Nat} {H:List Res} {t dg:List UInt8}
def decO (t:List UInt8):Option (List UInt8):=if (decX t).2.1=0 then some (decX t).1 else none
def RdO (H:List Res):Option Said→Ending→List Res→Prop
 | none=>fun e H'=>e=.returned (.tuple ⟨[.pointer none,.bool false]⟩)∧H'=H
 | some s=>fun e H'=>∃ b va vc r,e=.returned (.tuple ⟨[.pointer (some ⟨b,0,none⟩),.bool true]⟩)∧(∀ F M X,Rd F M (r::X) va (s.value.flatMap ndV))∧NGood s.value∧Fo 1 s.value∧s.name.length≤maxLen∧H'=.blk b [sV s.name,.bool s.member,.slice va s.value.length vc,.bool false] 64::r::H
theorem Z6S (hT:Tabs F M) (hn:t.length≤140737488351232):Meets Tryz.prog 22 [sV t] F M H (RdO H (Z4z dg (decO t))):=by
 refine Meets.enter Tryz.func22 rfl rfl ?_
 generalize hQ:Z4z dg (decO t)=Q
 repeat' (first|refine Sg.Y1 ?_|fail)
 refine T.call rfl rfl (Z2r hn) ?_
 rintro _ _ ⟨ad,cp,rfl,rfl⟩
 unfold decO at hQ
 by_cases h0:(decX t).2.1=0
 ·rw [if_pos h0] at hQ
  have hdl:(decX t).1.length≤t.length:=by
   unfold decX at h0 ⊢
   split
   ·exact Nat.zero_le _
   ·split
    ·exact Nat.zero_le _
    ·split
     ·rw [Z8f];omega
     ·exact Nat.zero_le _
  generalize (decX t).1=bs at *
  generalize (decX t).2.1=ce at *
  subst h0
  repeat' (first|refine Sg.Y1 ?_|fail)
  refine T.call rfl rfl (Z0F hT (by simp only [maxLen];omega)) ?_
  unfold Z4z at hQ
  dsimp only at hQ
  cases hp:Zy Zb bs with
  | bad c a =>
   rw [hp] at hQ
   dsimp only at hQ
   subst hQ
   have hc:=Z4U hp
   rintro _ _ ⟨rfl,rfl⟩
   repeat' (first|refine Sg.Y3 ?_|(apply T.gcase;apply rfl;apply rfl;all_goals intro _)|fail)
   exact ⟨_,PSub.drop (PSub.refl _),rfl,rfl⟩
  | ok a v =>
   rw [hp] at hQ
   dsimp only at hQ
   rintro _ _ ⟨va,vc,rfl,rfl⟩
   have hf:=Z1r hp
   have hg:=Z72 hp
   have ha:=IsAt.of_fo hf
   have hlt:=ha.lt
   have hvl:=hg.len
   have e0:Z3 v=v.getD 0 default:=by
    rw [←Zc hlt]
    have:=ZV hf
    rw [←ZS,this]
   by_cases k6:(v.getD 0 default).kind=6
   ·have k6':(Z3 v).kind=6:=by rw [e0];exact k6
    have ld:=fun i=>Zae (i:=i) hf
    have kn:=fun i=>ZbD (i:=i) hf
    have hkv:=Vl.kids ⟨hf,hg.flat⟩
    have hol:(offs 1 (kidsOf v 0)).length=(kidsOf v 0).length:=Z1s ..
    have s2:=Z7D (dg:=dg) (v:=v) k6'
    have s3:=Z4K (dg:=dg) (v:=v) k6'
    have s4:=Zbe (dg:=dg) (v:=v)
    rw [hQ] at s2 s3 s4
    refine Sr.capR (ad:=va) inferInstance (fun hcap=>?_)
    repeat' (first|refine Sg.Y3 ?_|(apply S.condQ;apply rfl;all_goals intro _)|fail)
    refine T.call rfl rfl (Z0G (v:=v) rfl hvl ha) ?_
    rintro _ _ ⟨ka,kc,rfl,rfl⟩
    rw [Nat.zero_add]
    generalize hks:kidsOf v 0=ks at *
    obtain ⟨q,hq⟩:∃ q,q=offs 1 ks:=⟨_,rfl⟩
    rw [←hq] at ld kn hol ⊢
    have good:∀ m,(∀ lo,v.drop lo=m→NGood m):=fun m lo h=>by
     subst h
     exact ⟨fun n hn=>hg.flat n (List.mem_of_mem_drop hn),fun n hn=>hg.texts n (List.mem_of_mem_drop hn),by rw [List.length_drop];omega⟩
    have rds:∀ m lo,v.drop lo=m→∀ F M X,Rd F M (ouR va vc v::X) (saddr va vc lo 6) (m.flatMap ndV):=fun m lo h F M X=>by
     subst h
     exact Rd.subF (g:=ndV) (sz:=6) Rd.row (fun _=>rfl) hcap
    by_cases l2:ks.length=2
    ·have s2:=s2 l2
     obtain ⟨kn1,kn2⟩:=kn 0 (by omega)
     rw [Zc kn1] at kn2
     rw [←kn2] at s2
     have ld1:=ld 1 (by omega)
     have kn3:=(kn 1 (by omega)).1
     have hq2:q.length=2:=by omega
     have hx1:Vl (ks.getD 1 []):=hkv _ (by simp [List.getD,show 1 < ks.length by omega])
     have hl:v.length - q.getD 1 0=(ks.getD 1 []).length:=by rw [←ld1,List.length_drop]
     rw [l2]
     by_cases c5:(v.getD (q.getD 0 0) default).kind=5
     ·rw [if_pos c5] at s2
      repeat' (first|(apply T.subI;apply rfl;apply rfl;omega;apply rfl;rw [show ((2:Nat):Int) - 1=((1:Nat):Int) from rfl])|(apply T.box;apply rfl;apply rfl;intro nb)|refine Sg.Y3 ?_|(apply S.condQ;apply rfl;all_goals intro _)|fail)
      rw [hl,s2]
      exact ⟨_,PSub.take Z0 (PSub.drop (PSub.take Z0 (PSub.drop (PSub.refl _)))),nb,_,_,_,rfl,rds _ _ ld1,good _ _ ld1,hx1.1,by simp,rfl⟩
     ·rw [if_neg c5] at s2
      rw [s2]
      repeat' (first|refine Sg.Y3 ?_|(apply S.condQ;apply rfl;all_goals intro _)|fail)
      exact ⟨H,by repeat (first|exact PSub.refl _|apply PSub.drop),rfl,rfl⟩
    ·by_cases l3:ks.length=3
     ·have s3:=s3 l3
      obtain ⟨kn1,kn2⟩:=kn 0 (by omega)
      rw [Zc kn1] at kn2
      rw [←kn2] at s3
      obtain ⟨kn4,kn5⟩:=kn 1 (by omega)
      rw [Zc kn4] at kn5
      rw [←kn5] at s3
      have ld1:=ld 2 (by omega)
      have kn3:=(kn 2 (by omega)).1
      have hq2:q.length=3:=by omega
      have hx1:Vl (ks.getD 2 []):=hkv _ (by simp [List.getD,show 2 < ks.length by omega])
      have hl:v.length - q.getD 2 0=(ks.getD 2 []).length:=by rw [←ld1,List.length_drop]
      have htx:=(hg.texts _ (Z26 kn4)).2
      rw [Zc kn4] at htx
      rw [l3]
      by_cases c5:(v.getD (q.getD 0 0) default).kind=5
      ·by_cases c6:(v.getD (q.getD 1 0) default).kind=5
       ·by_cases c7:(v.getD (q.getD 1 0) default).text=[95,115,100]
        ·rw [if_neg (fun h=>h.2.2.1 c7)] at s3
         rw [s3]
         repeat' (first|(apply T.subI;apply rfl;apply rfl;omega;apply rfl;rw [show ((3:Nat):Int) - 1=((2:Nat):Int) from rfl])|(apply T.alloc;apply rfl;intro nb)|(apply T.box;apply rfl;apply rfl;intro nb)|refine Sg.Y3 ?_|(apply S.condQ;apply rfl;all_goals intro _)|(apply T.gcase;apply rfl;apply rfl;all_goals intro _)|fail)
         exact ⟨H,by repeat (first|exact PSub.refl _|apply PSub.drop),rfl,rfl⟩
        ·by_cases c8:(v.getD (q.getD 1 0) default).text=[46,46,46]
         ·rw [if_neg (fun h=>h.2.2.2 c8)] at s3
          rw [s3]
          repeat' (first|(apply T.subI;apply rfl;apply rfl;omega;apply rfl;rw [show ((3:Nat):Int) - 1=((2:Nat):Int) from rfl])|(apply T.alloc;apply rfl;intro nb)|(apply T.box;apply rfl;apply rfl;intro nb)|refine Sg.Y3 ?_|(apply S.condQ;apply rfl;all_goals intro _)|(apply T.gcase;apply rfl;apply rfl;all_goals intro _)|fail)
          exact ⟨H,by repeat (first|exact PSub.refl _|apply PSub.drop),rfl,rfl⟩
         ·rw [if_pos ⟨c5,c6,c7,c8⟩] at s3
          rw [s3]
          repeat' (first|(apply T.subI;apply rfl;apply rfl;omega;apply rfl;rw [show ((3:Nat):Int) - 1=((2:Nat):Int) from rfl])|(apply T.alloc;apply rfl;intro nb)|(apply T.box;apply rfl;apply rfl;intro nb)|refine Sg.Y3 ?_|(apply S.condQ;apply rfl;all_goals intro _)|(apply T.gcase;apply rfl;apply rfl;all_goals intro _)|fail)
          rw [hl]
          exact ⟨_,PSub.drop (PSub.take Z0 (PSub.drop (PSub.take Z0 (PSub.drop (PSub.refl _))))),_,_,_,_,rfl,rds _ _ ld1,good _ _ ld1,hx1.1,htx,rfl⟩
       ·rw [if_neg (fun h=>c6 h.2.1)] at s3
        rw [s3]
        repeat' (first|(apply T.subI;apply rfl;apply rfl;omega;apply rfl;rw [show ((3:Nat):Int) - 1=((2:Nat):Int) from rfl])|(apply T.alloc;apply rfl;intro nb)|(apply T.box;apply rfl;apply rfl;intro nb)|refine Sg.Y3 ?_|(apply S.condQ;apply rfl;all_goals intro _)|(apply T.gcase;apply rfl;apply rfl;all_goals intro _)|fail)
        exact ⟨H,by repeat (first|exact PSub.refl _|apply PSub.drop),rfl,rfl⟩
      ·rw [if_neg (fun h=>c5 h.1)] at s3
       rw [s3]
       repeat' (first|refine Sg.Y3 ?_|(apply S.condQ;apply rfl;all_goals intro _)|fail)
       exact ⟨H,by repeat (first|exact PSub.refl _|apply PSub.drop),rfl,rfl⟩
     ·rw [s4 l2 l3]
      by_cases l1:ks.length < 2
      ·repeat' (first|refine Sg.Y3 ?_|(apply T.gcase;apply rfl;apply rfl;all_goals intro _)|fail)
       exact ⟨H,by repeat (first|exact PSub.refl _|apply PSub.drop),rfl,rfl⟩
      ·have hq0:0 < q.length:=by omega
       repeat' (first|refine Sg.Y3 ?_|(apply T.gcase;apply rfl;apply rfl;all_goals intro _)|fail)
       exact ⟨H,by repeat (first|exact PSub.refl _|apply PSub.drop),rfl,rfl⟩
   ·rw [Z9C (by rw [e0];exact k6)] at hQ
    subst hQ
    repeat' (first|refine Sg.Y3 ?_|(apply S.condQ;apply rfl;all_goals intro _)|fail)
    exact ⟨_,PSub.drop (PSub.drop (PSub.refl _)),rfl,rfl⟩
 ·rw [if_neg h0] at hQ
  have hQ':Q=none:=hQ.symm
  subst hQ'
  repeat' (first|refine Sg.Y3 ?_|(apply S.condQ;apply rfl;all_goals intro _)|fail)
  exact ⟨_,PSub.drop (PSub.refl _),rfl,rfl⟩
end
end Go.Proofs.YtophlopiigpbgaaGreatDoor
