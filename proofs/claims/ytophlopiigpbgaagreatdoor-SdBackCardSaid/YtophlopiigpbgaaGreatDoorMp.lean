/- Texts put together by a program: HidF Law LawS SdT. -/
import Derived.Test.YtophlopiigpbgaaGreatDoorMo
import Derived.Test.YtophlopiigpbgaaGreatDoorRecs
import Derived.ProofKit
import Derived.Carry
import Derived.LaidMore
import Derived.OpenShut
import Derived.Stop.Joined
import Derived.SizedLaws
import Derived.Handed
import Derived.Shelf.Vars
import Derived.Test.YtophlopiigpbgaaGreatDoorMj
import Derived.Test.YtophlopiigpbgaaGreatDoorMd
import Derived.Test.YtophlopiigpbgaaGreatDoorRows
import Derived.Lay
import Derived.ChangeMaps5
set_option linter.unusedVariables false
set_option linter.unusedSimpArgs false
/- The law of SdBack: walked, the whole of it. -/
namespace Go.Proofs.YtophlopiigpbgaaGreatDoor
open Sg Go Go.RowKit Go.IntWalk
set_option maxRecDepth 100000
set_option maxHeartbeats 4000000
section
variable {F:World} {H:List Res}
theorem Z3V {t:List UInt8} {a:Nat} {v:List Nd} (h:Zy Zb t=.ok a v):v.length≤t.length∧t.length≤262144∧AllB v∧(∀ n∈v,n.kids≤9223372036854775807):=by
 obtain ⟨h1,h2,h3⟩:=Z3s h
 refine ⟨h1,h3,fun n hn=>⟨Nat.le_trans (h2 n hn).text (by omega),Nat.le_trans (h2 n hn).key (by omega)⟩,fun n hn=>?_⟩
 have:=(Z1r h).kids_le n hn
 omega
theorem Z5s {a:List UInt8}:∀ {l:List (List UInt8)},a∈l→a.length≤lenA l
 | x::r,h=>by
  show _≤((x::r).map List.length).sum
  rw [List.map_cons,List.sum_cons]
  rcases List.mem_cons.1 h with rfl|h
  ·omega
  ·have:=Z5s h
   unfold lenA at this
   omega
theorem ZbA {a b:List (List UInt8)} (h:List.Sublist a b):lenA a≤lenA b:=by
 induction h with
 | slnil=>exact Nat.le_refl _
 | cons x _ ih =>
  unfold lenA at *
  rw [List.map_cons,List.sum_cons]
  omega
 | cons_cons x _ ih =>
  unfold lenA at *
  rw [List.map_cons,List.map_cons,List.sum_cons,List.sum_cons]
  omega
theorem ZaO {t:List UInt8} {pick:List Int} {pa:Option Addr} {pc:Nat} {turn:Int} (hT:Tabs F []) (hS:ShP F []) (hI:ItP F) (ht:t.length≤maxLen) (hRp:∀ X,Rd F [] X pa (pick.map iVz)) (hpl:pick.length≤141000000000000) (htn : -9223372036854775808≤turn∧turn≤9223372036854775807) :
  Meets Tryz.prog 4 [sV t,.slice pa pick.length pc,.int .i64 turn] F [] H (fun e _=>e=.returned (.bool true)):=by
 refine Meets.enter Tryz.func4 rfl rfl ?_
 repeat' (first|refine Sg.Y1 ?_|fail)
 refine T.call rfl rfl (Z97 hT hS) ?_
 rintro _ _ ⟨rfl,hH⟩
 have hH2:=hH.symm
 subst hH2
 have ip:∀ {X:List Res},Rd F [] X pa (pick.map iVz):=fun {X}=>hRp X
 repeat' (first|refine Sg.Y1 ?_|fail)
 refine T.call rfl rfl (Z0F (t:=t) hT ht) ?_
 cases hp:Zy Zb t with
 | bad c b =>
  have hc:=Z4U hp
  rintro _ _ ⟨rfl,rfl⟩
  repeat' (first|refine Sg.Y3 ?_|(apply T.gcase;apply rfl;apply rfl;all_goals intro _)|fail)
  exact ⟨_,PSub.refl _,rfl⟩
 | ok a v =>
  rintro _ _ ⟨va,vc,rfl,rfl⟩
  obtain ⟨b0,b1,b2,b3⟩:=Z3V hp
  have ha:=IsAt.of_fo (Z1r hp)
  repeat' (first|refine Sg.Y1 ?_|fail)
  refine T.call rfl rfl (Z71 (v:=v) Rd.row (by omega)) ?_
  rintro _ _ ⟨rfl,hH⟩
  have hH2:=hH.symm
  subst hH2
  cases hpl2:Z66 v with
  | false =>
   repeat' (first|refine Sg.Y1 ?_|fail)
   exact ⟨_,PSub.refl _,rfl⟩
  | true =>
   obtain ⟨hbare,hk7⟩:=plainB_iff.1 hpl2
   repeat' (first|refine Sg.Y2 ?_|fail)
   refine T.call rfl rfl (Z9q ip (by omega)) ?_
   rintro _ _ ⟨tb,rfl,htb,hH⟩
   subst hH
   cases tb with
   | false =>
    repeat' (first|refine Sg.Y1 ?_|fail)
    exact ⟨_,PSub.refl _,rfl⟩
   | true =>
    have htd:=htb rfl
    repeat' (first|refine Sg.Y2 ?_|fail)
    refine T.call rfl rfl (Z0W (v:=v) (key:=algN) (p:=0) rfl (by omega) ha) ?_
    rintro _ _ ⟨rfl,hH⟩
    have hH2:=hH.symm
    subst hH2
    by_cases hm:0≤memI v 0 algN
    ·repeat' (first|refine Sg.Y3 ?_|(apply T.gcase;apply rfl;apply rfl;all_goals intro _)|fail)
     exact ⟨_,PSub.refl _,rfl⟩
    by_cases hl:8192 < t.length
    ·repeat' (first|refine Sg.Y3 ?_|(apply S.condQ;apply rfl;all_goals intro _)|(apply T.gcase;apply rfl;apply rfl;all_goals intro _)|fail)
     exact ⟨_,PSub.refl _,rfl⟩
    refine Sr.capR (ad:=va) inferInstance (fun hcap=>?_)
    have hv:=Z3U hp
    have hsum:=Z4S hp
    have h0:Z8 v 0=v:=ZV (Z1r hp)
    have hat:Z4E v 0 0 v.length:=⟨ha,by rw [h0];exact Nat.le_refl _,⟨32,none,by omega,by rw [h0];exact hv⟩,by rw [h0];exact hbare,by rw [h0];omega⟩
    have hmade:=Zd1 (dg:=Z2) (pk:=Za pick) ZU Z4t hp (by omega) hbare
    have halg:=Za6 (Z1r hp) (k:=algN) (by omega)
    repeat' (first|refine Sg.Y3 ?_|(apply S.condQ;apply rfl;all_goals intro _)|(apply T.gcase;apply rfl;apply rfl;all_goals intro _)|fail)
    refine T.call rfl rfl (Z4c (q:=0) (n:=0) hT hS hI htd hpl hcap (by omega) (by omega) v.length hat) ?_
    rw [h0]
    have hrev:=fun ts (h1:_) h2 h3 h4 h5=>Z6W (dg:=Z2) (rd:=Z2G) (pk:=Za pick) (ts:=ts) Zbj (fun n=>(Z1c n).2) ZU hv hbare hk7 halg h1 h2 h3 h4 h5
    have hc1:=Z2a (dg:=Z2) (pk:=Za pick) v.length (x:=v) (n:=0)
    have hc2:=Z2p (dg:=Z2) (pk:=Za pick) v.length (x:=v) (n:=0) (Z1r hp) (Nat.le_refl _)
    generalize Z7 Z2 (Za pick) v.length v 0=h at *
    rintro _ _ ⟨la,aa,lc,ac,rfl,rfl⟩
    have c1:=hmade.len
    have c2:=hmade.lenS
    have c3:=ZbA hmade.sub
    have hcntL:h.L.length≤1000000000:=by
     have:=hmade.sub.length_le
     omega
    have hcL2:h.L.length≤100000:=by
     have:=hmade.sub.length_le
     omega
    have hall:∀ x∈h.A,x.length≤100000000:=fun x hx=>by
     have:=Z5s hx
     omega
    repeat' (first|(apply T.alloc;apply rfl;intro nb)|refine Sg.Y1 ?_|fail)
    refine T.call rfl rfl (Z0F (t:=sp h.T) hT (by simp only [maxLen];omega)) ?_
    rcases Za7 hmade with ⟨c,b,e1,hc⟩|⟨a1,e1⟩
    ·rw [e1]
     rintro _ _ ⟨rfl,rfl⟩
     rcases hc with rfl|rfl
     ·repeat' (first|refine Sg.Y1 ?_|fail)
      exact ⟨_,PSub.refl _,rfl⟩
     ·repeat' (first|refine Sg.Y1 ?_|fail)
      exact ⟨_,PSub.refl _,rfl⟩
    rw [e1]
    obtain ⟨p0,p1,p2,p3⟩:=Z3V e1
    have hshT:=Z3g e1
    have e2:=Z8J hmade
    obtain ⟨q0,q1,q2,q3⟩:=Z3V e2
    have hshS:=Z3g e2
    have hdisc:=fun t ht=>Za9 (t:=t) hmade ht
    have hLl:h.L.length≤1000000000:=hcntL
    rintro _ _ ⟨ta,tc,rfl,rfl⟩
    rename_i bo
    repeat' (first|refine Sg.Y1 ?_|fail)
    refine S.loopE 0 [2,10,11] (fun R b' μ H' e=>∃ i:Nat,H'=R∧e=(14,.int .i64 i)::b'∧(i≤h.L.length∧∀ j,j < i→∃ s,Z2G (h.L.getD j [])=some s∧s.dig=Z2 (h.L.getD j []))∧μ=h.L.length - i) rfl rfl ?_ _ _ ⟨0,rfl,rfl,⟨Nat.zero_le _,fun j hj=>by omega⟩,rfl⟩ (by repeat' first|exact trivial|refine And.intro rfl ?_)
    rintro _ _ _ ⟨i,hR1,rfl,⟨g1,g2⟩,rfl⟩ ih
    have hR2:=hR1.symm
    subst hR2
    have get:∀ j,j < h.L.length→h.L.getD j []∈h.L:=fun j hj=>by
     rw [List.getD_eq_getElem?_getD,List.getElem?_eq_getElem hj]
     exact List.getElem_mem hj
    by_cases h3:i < h.L.length
    ·have hmem:=get i h3
     have hlen:=Z5s hmem
     obtain ⟨w,d1,d2⟩:=hdisc _ hmem
     repeat' (first|refine Sg.Y3 ?_|(apply S.condQ;apply rfl;all_goals intro _)|fail)
     refine T.call rfl rfl (Z2r (s:=h.L.getD i []) (by omega)) ?_
     unfold DecP
     rw [d1]
     dsimp only
     rintro _ _ ⟨ad,cp,rfl,rfl⟩
     have hwl:(sp w).length≤(h.L.getD i []).length:=by
      have:=Z8e (t:=h.L.getD i []) (b:=sp w) (by unfold decO;rw [d1];rfl)
      exact this
     repeat' (first|refine Sg.Y1 ?_|fail)
     refine T.call rfl rfl (Z0F (t:=sp w) hT (by simp only [maxLen];omega)) ?_
     rcases d2 with ⟨c,b,e3,hc⟩|⟨⟨a2,e3⟩,s,s1,s2⟩
     ·rw [e3]
      rintro _ _ ⟨rfl,rfl⟩
      rcases hc with rfl|rfl
      ·repeat' (first|refine Sg.Y1 ?_|fail)
       exact ⟨_,PSub.refl _,rfl⟩
      ·repeat' (first|refine Sg.Y1 ?_|fail)
       exact ⟨_,PSub.refl _,rfl⟩
     rw [e3]
     rintro _ _ ⟨wa,wc,rfl,rfl⟩
     repeat' (first|refine Sg.Y1 ?_|fail)
     refine S.sublist ?_ (PSub.drop (PSub.drop (PSub.refl _)))
     exact ih _ _ _ _ ⟨i+1,rfl,rfl,⟨by omega,fun j hj=>by
      rcases Nat.lt_succ_iff_lt_or_eq.1 hj with hj|rfl
      ·exact g2 j hj
      ·refine ⟨s,?_,s2⟩
       unfold Z2G decO
       rw [d1,if_pos rfl]
       unfold Z4z
       simp only
       rw [e3]
       exact s1⟩,rfl⟩ (by omega) (by repeat' first|exact trivial|refine And.intro rfl ?_)
    ·have hread:∀ d∈h.L,∃ s,Z2G d=some s∧s.dig=Z2 d:=fun d hd=>by
      obtain ⟨j,hj,rfl⟩:=List.mem_iff_getElem.1 hd
      have:=g2 j (by omega)
      rw [List.getD_eq_getElem?_getD,List.getElem?_eq_getElem hj] at this
      exact this
     clear g2 ih hdisc
     repeat' (first|refine Sg.Y3 ?_|(apply S.condQ;apply rfl;all_goals intro _)|fail)
     refine T.call rfl rfl (Z0F (t:=sp h.S) hT (by simp only [maxLen];omega)) ?_
     rw [e2]
     rintro _ _ ⟨sa,sc,rfl,rfl⟩
     repeat' (first|refine Sg.Y1 ?_|fail)
     refine T.call rfl rfl (Z6K (l:=h.A) hS inferInstance (by omega) hall) ?_
     rintro _ _ ⟨ub,rfl,hub,hH⟩
     subst hH
     cases ub with
     | false =>
      repeat' (first|refine Sg.Y1 ?_|fail)
      exact ⟨_,PSub.refl _,rfl⟩
     | true =>
      have hnd:=hub rfl
      have hr0:=hrev h.L hshT hshS (List.Perm.refl _) hread hnd
      have hsm:(h.L.map List.length).sum≤1500000:=by
       have:lenA h.L=(h.L.map List.length).sum:=rfl
       omega
      repeat' (first|refine Sg.Y1 ?_|fail)
      refine T.call rfl rfl (Z2t (v:=h.T) (ts:=h.L) hT hS inferInstance inferInstance p2 p3 (by omega) (by omega)) ?_
      rw [hr0]
      rintro _ _ ⟨oa,oc,rfl,rfl⟩
      dsimp only
      repeat' (first|refine Sg.Y1 ?_|fail)
      refine T.call rfl rfl (Z2n (a:=h.S) (b:=h.S) inferInstance inferInstance (by omega) (by omega)) ?_
      rintro _ _ ⟨rfl,hH⟩
      have hH2:=hH.symm
      subst hH2
      rw [Z4W]
      repeat' (first|refine Sg.Y1 ?_|fail)
      refine S.nilrow 9 1 ?_
      have hmodp:0 < h.L.length → -(h.L.length:Int) < turn.tmod h.L.length∧turn.tmod h.L.length < h.L.length:=fun h0=>⟨Int.lt_tmod_of_pos _ (by omega),Int.tmod_lt_of_pos _ (by omega)⟩
      refine S.loopE 1 [2,10,11,21,26] (fun R b' μ H' e=>∃ (j:Nat) (ra:Option Addr) (rc:Nat),H'=.row ra rc 9 1 j (((turned h.L ((turn.tmod h.L.length+h.L.length) % h.L.length).toNat).take j).map sV)::R∧e=(27,.slice ra j rc)::(28,.int .i64 j)::b'∧j≤h.L.length∧μ=h.L.length - j) rfl rfl ?_ _ _ ⟨0,none,0,rfl,rfl,Nat.zero_le _,rfl⟩ (by repeat' first|exact trivial|refine And.intro rfl ?_)
      rintro _ _ _ ⟨j,ra,rc,rfl,rfl,g1,rfl⟩ ih
      have htl:(turned h.L ((turn.tmod h.L.length+h.L.length) % h.L.length).toNat).length=h.L.length:=Z8q _ _
      have htp:=Z3C h.L ((turn.tmod h.L.length+h.L.length) % h.L.length).toNat
      by_cases h4:j < h.L.length
      ·obtain ⟨m1,m2⟩:=hmodp (by omega)
       have hc0:0≤(turn.tmod h.L.length+h.L.length) % h.L.length:=Int.emod_nonneg _ (by omega)
       have hc1:(turn.tmod h.L.length+h.L.length) % h.L.length < h.L.length:=Int.emod_lt_of_pos _ (by omega)
       obtain ⟨c,hc⟩:∃ c:Nat,((turn.tmod h.L.length+h.L.length) % h.L.length).toNat=c:=⟨_,rfl⟩
       have hc2:(turn.tmod h.L.length+h.L.length) % h.L.length=(c:Int):=by omega
       have e5:((j:Int)+turn.tmod h.L.length+h.L.length).tmod h.L.length=(((j+c) % h.L.length:Nat):Int):=by
        rw [Int.tmod_eq_emod_of_nonneg (by omega),Int.natCast_emod,Int.natCast_add,←hc2,Int.add_comm (j:Int) ((turn.tmod h.L.length+h.L.length) % h.L.length),Int.emod_add_emod]
        congr 1
        omega
       have hk:(j+c) % h.L.length < h.L.length:=Nat.mod_lt _ (by omega)
       have e6:(h.L.length:Int) - 1 - (((j+c) % h.L.length:Nat):Int)=((h.L.length - 1 - (j+c) % h.L.length:Nat):Int):=by omega
       have hgt:=Z8r h.L (c:=c) (j:=j) (by omega) h4
       rw [hc] at htl ih ⊢
       repeat' (first|(apply T.remZ;apply rfl;apply rfl;omega;apply rfl;try rw [e5])|(apply T.subI;apply rfl;apply rfl;omega;apply rfl;try rw [e6])|(apply T.bs;(iterate 6 apply rfl);intro nb)|(apply T.append;apply rfl;apply rfl;infer_instance;(first|rfl|(simp;done));(first|rfl|(simp;done));apply rfl;apply rfl;(constructor<;>omega);apply rfl;intro na nc)|refine Sg.Y3 ?_|(apply S.condQ;apply rfl;all_goals intro _)|fail)
       have htk:(turned h.L c).take (j+1)=(turned h.L c).take j++[h.L.getD (h.L.length - 1 - (j+c) % h.L.length) []]:=by
        rw [List.take_succ_eq_append_getElem (by omega)]
        rw [List.getElem?_eq_getElem (by omega)] at hgt
        rw [List.getD_eq_getElem?_getD,←hgt]
        rfl
       have hrow:((turned h.L c).take j).map sV++[sV (h.L.getD (h.L.length - 1 - (j+c) % h.L.length) [])]=((turned h.L c).take (j+1)).map sV:=by
        rw [htk,List.map_append]
        rfl
       rw [hrow]
       exact ih _ _ _ _ ⟨j+1,na,nc,rfl,rfl,h4,rfl⟩ (by omega) (by repeat' first|exact trivial|refine And.intro rfl ?_)
      ·obtain rfl:j=h.L.length:=by omega
       rw [List.take_of_length_le (Nat.le_of_eq htl)]
       generalize turned h.L ((turn.tmod h.L.length+h.L.length) % h.L.length).toNat=ts at *
       have hr1:=hrev ts hshT hshS htp hread hnd
       have hsm2:(ts.map List.length).sum≤1500000:=by
        have:(ts.map List.length).sum=(h.L.map List.length).sum:=(htp.map List.length).sum_nat
        omega
       rw [←htl]
       repeat' (first|refine Sg.Y3 ?_|(apply S.condQ;apply rfl;all_goals intro _)|fail)
       refine T.call rfl rfl (Z2t (v:=h.T) (ts:=ts) hT hS inferInstance inferInstance p2 p3 (by omega) (by omega)) ?_
       rw [hr1]
       rintro _ _ ⟨oa2,oc2,rfl,rfl⟩
       dsimp only
       repeat' (first|refine Sg.Y1 ?_|fail)
       refine T.call rfl rfl (Z2n (a:=h.S) (b:=h.S) inferInstance inferInstance (by omega) (by omega)) ?_
       rintro _ _ ⟨rfl,hH⟩
       have hH2:=hH.symm
       subst hH2
       rw [Z4W]
       repeat' (first|refine Sg.Y2 ?_|fail)
       exact ⟨_,PSub.refl _,rfl⟩
end
end Go.Proofs.YtophlopiigpbgaaGreatDoor
/- From a walk of a law to its row: the arguments opened, and read again behind the call; for every program. -/
namespace Sg
open Go Go.ChangeShapes Go.WideShapes Go.RowKit

theorem Z2A {H:Type} {enc:TypeId × Value→H} {P:Program} (hl:laidOutB P=true) {W W':World} (hb:Below W.heap.size W W'):∀ {ts:List TypeId} {vs:List Value} {ds:List (DataW H)} {ps:List MemPlace},
  ts.all (fun t=>P.readableRec t&&decide (t < P.types.size))=true→DataW.TrodAll enc P W 0 (fun _=>true) true ts vs ds ps→(∀ x∈ps,x.block < W.heap.size)→DataW.TrodAll enc P W' 0 (fun b=>decide (b < W.heap.size)) true ts vs ds ps
 | [],[],[],_,_,h,_=>h
 | t::ts,v::vs,d::ds,ps,ht,h,hlt=>by
  obtain ⟨p,q,h1,h2,rfl⟩:=h
  simp only [List.all_cons,Bool.and_eq_true,decide_eq_true_eq] at ht
  exact ⟨p,q,Below.trod hl ht.1.1 ht.1.2 h1 hb (fun x hx=>hlt x (List.mem_append_left _ hx)),Z2A hl hb (by simpa using ht.2) h2 (fun x hx=>hlt x (List.mem_append_right _ hx)),rfl⟩
 | [],_::_,_,_,_,h,_=>h.elim
 | [],[],_::_,_,_,h,_=>h.elim
 | _::_,[],_,_,_,h,_=>h.elim
 | _::_,_::_,[],_,_,h,_=>h.elim
theorem Z3D {H:Type} {enc:TypeId × Value→H} {P:Program} {W:World} {base:Nat} {sp:Nat→Bool} {held:Bool}:∀ {ts:List TypeId} {vs:List Value} {ds:List (DataW H)} {ps:List MemPlace},DataW.TrodAll enc P W base sp held ts vs ds ps→ds.length=ts.length
 | [],[],[],_,_=>rfl
 | t::ts,v::vs,d::ds,ps,h=>by
  obtain ⟨p,q,h1,h2,rfl⟩:=h
  rw [List.length_cons,List.length_cons,Z3D h2]
 | [],_::_,_,_,h=>h.elim
 | [],[],_::_,_,h=>h.elim
 | _::_,[],_,_,h=>h.elim
 | _::_,_::_,[],_,h=>h.elim
/- Arguments, opened. -/
theorem Zdj {w:World} {a:Addr} {v:Value} (h:w.cell? a=some v):a.block < w.heap.size:=by
 rcases Nat.lt_or_ge a.block w.heap.size with h1|h1
 ·exact h1
 ·simp [World.cell?,Array.getElem?_eq_none h1] at h
theorem Rd.ofF {F:World} {H:List Res} {ad:Option Addr} {vs:List Value} (h:∀ j u,vs[j]?=some u→∃ a,ad=some a∧F.cell? (a.add j)=some u):Rd F [] H ad vs:=⟨fun w hw j u hu=>by
 obtain ⟨a,ha,hc⟩:=h j u hu
 refine ⟨a,ha,?_⟩
 have hlt:=Zdj hc
 have:=hw.keep _ hlt (by simp)
 simp only [World.cell?] at hc ⊢
 rw [this]
 exact hc⟩
theorem Z3W {H:Type} {enc:TypeId × Value→H} {P:Program} {W:World} {b0:Nat} {t e:TypeId} {k:IntKind} {v:Value} {d:DataW H} {ps:List MemPlace} (ht:P.underlying t=some (.slice e)) (he:P.underlying e=some (.int k)) (hc:P.cellsOf e=1)
  (hval:Value.okWide P W .any b0 t v) (hd:DataW.Trod enc P W 0 (fun _=>true) true t v d ps) :
  ∃ (ad:Option Addr) (cp:Nat) (zs:List Int),v=.slice ad zs.length cp∧zs.length≤cp∧(cp=0∨∃ el sp,d=.slice el sp∧el.length+sp.length=cp)∧(∀ n∈zs,(Lit.int k n).wf=true)∧∀ H',Rd W [] H' ad (zs.map (Value.int k)):=by
 obtain ⟨ad,len,cap,rfl⟩:=okWide_slice ht hval
 obtain ⟨fuel,hf⟩:=hd
 rcases open_ints ht he hc hf with ⟨hcs,hx⟩|⟨a,len',cap',zs,hcs,_,hl,hm,hz,hx,hcell,hwz⟩
 ·simp only [Value.cells,List.cons.injEq,Value.slice.injEq,and_true] at hcs
  obtain ⟨rfl,rfl,rfl⟩:=hcs
  exact ⟨none,0,[],rfl,Nat.le_refl _,.inl rfl,by simp,fun H'=>.ofF fun j u hu=>by simp at hu⟩
 ·simp only [Value.cells,List.cons.injEq,Value.slice.injEq,and_true] at hcs
  obtain ⟨rfl,rfl,rfl⟩:=hcs
  simp only [if_true] at hz
  simp only [Prod.mk.injEq] at hx
  have hlen:(zs.take len).length=len:=by simp;omega
  refine ⟨some a,cap,zs.take len,by rw [hlen],by omega,.inr ⟨_,_,hx.1,?_⟩,fun n hn=>hwz n (List.mem_of_mem_take hn),fun H'=>.ofF fun j u hu=>⟨a,rfl,?_⟩⟩
  ·simp [lits]
   omega
  ·have hj:j < len:=by
    have:=(List.getElem?_eq_some_iff.1 hu).1
    have h2:j < min len zs.length:=by simpa using this
    omega
   rw [List.getElem?_map,List.getElem?_take_of_lt hj,List.getElem?_eq_getElem (by omega)] at hu
   simp only [Option.map_some,Option.some.injEq] at hu
   subst hu
   rw [hcell j (by omega)]
   simp [List.getD,show j < zs.length by omega]
/- Listed arrays of numbers. -/
theorem Z6d {P:Program} {W:World} {nm:String} {g T E n:Nat} {k:IntKind} {ns:List Int} {cs:Array Value} {fuel:Nat} {p:List MemPlace} {sp:Nat→Bool} (hg:P.globalNamed nm=some g) (hT:P.underlying T=some (.array n E)) (hE:P.underlying E=some (.int k)) (hc:P.cellsOf E=1)
  (hv:W.var? P nm=some cs) (hd:DataW.trod (fun _=>()) P W 0 sp false fuel T cs.toList=some (.agg (ns.map fun z=>.lit (.int k z)),p)):∀ j z,ns[j]?=some z→W.cell? ⟨g,j,none⟩=some (.int k z):=by
 intro j z hz
 obtain ⟨xs,m,rfl,hx,hlen,hn,hel⟩:=DataW.trod_array hT hd
 simp only [Prod.mk.injEq,DataW.agg.injEq] at hx
 have hj:j < ns.length:=(List.getElem?_eq_some_iff.1 hz).1
 have hxl:xs.length=ns.length:=by
  have:=congrArg List.length hx.1
  simpa using this.symm
 have h1:=hel j (by omega)
 rw [hc,Nat.mul_one,List.getElem?_eq_getElem (by omega)] at h1
 obtain ⟨z',e1,e2,-⟩:=DataW.trod_int hE h1
 have h2:(xs.map (·.1))[j]?=(ns.map fun z=>(DataW.lit (.int k z):DataW Unit))[j]?:=by rw [hx.1]
 rw [List.getElem?_map,List.getElem?_map,hz,List.getElem?_eq_getElem (by omega),e2] at h2
 simp only [Option.map_some,Option.some.injEq,DataW.lit.injEq,Lit.int.injEq,true_and] at h2
 subst h2
 have h3:cs[j]?=some (.int k z'):=by
  have:(cs.toList.drop j).take 1=[.int k z']:=e1
  have h4:((cs.toList.drop j).take 1)[0]?=some (.int k z'):=by rw [this];rfl
  rw [List.getElem?_take_of_lt (by omega),List.getElem?_drop] at h4
  simpa using h4
 rw [World.var?_cell hg hv j]
 exact h3
theorem Z7p {H:Type} {P:Program} {ts:List TypeId} {ds:List (DataW H)} {j n cp:Nat} {t e:TypeId} {d:DataW H} (hz:(DataW.weightsEach P ts ds).all (·≤reachBytes)=true) (ht:ts[j]?=some t) (hd:ds[j]?=some d) (hu:P.underlying t=some (.slice e)) (hby:1≤P.bytesOf e) (hle:n≤cp) (hcp:cp=0∨∃ el sp,d=.slice el sp∧el.length+sp.length=cp):n≤140737488351232:=by
 rcases hcp with h|⟨el,sp,rfl,h⟩
 ·omega
 ·have h1:=sized_slice hz ht hd hu
  have h2:el.length+sp.length≤(el.length+sp.length)*P.bytesOf e:=Nat.le_mul_of_pos_right _ hby
  have h3:reachBytes=140737488351232:=rfl
  omega
end Sg
/- From a walk of a law to its row, the world's shape handed on. -/
namespace Sg
open Go Go.ChangeShapes Go.WideShapes Go.RowKit
section
variable {H:Type} {enc:TypeId × Value→H}
theorem Z4y {a:Assume} {C:Checked} {os:Os} {f:FuncId} {fn:Func} {s:ChangeSpec} {conds:List PathCond} {apart fresh handsOn again:Bool} {X:World→Array Value→Prop}
  (hX:∀ (w w':World) (args:Array Value),w.heap=w'.heap→X w args→X w' args)
  (own:ownKnob C.prog.godebug=none) (started:os.Started) (noInit:C.prog.inits.idxOf? f=none) (hfn:C.prog.funcs[f]?=some fn)
  (witness:∃ (w:World) (tape:Tape) (i:Input),w.os=os∧(w.forCall tape i).Shaped C.prog∧i.vars=[]∧Input.okWide C.prog (w.forCall tape i) .any w.heap.size f i ∧
   ((s.pre enc C.prog fn conds apart (w.forCall tape i).memory i.args∧X (w.forCall tape i).memory i.args)∧sizedMet enc C.prog fn (OpenSpec.ofChange s) apart (w.forCall tape i).memory i.args)∧a.holds C.prog (lone (Frame.enter C.prog f i.args .normal) [] (w.forCall tape i)))
  (contract:∀ (W:World) (base:Nat) (args:Array Value) (ds gs:List (DataW H)) (before:List MemPlace),
   (∀ (j:Nat) t v,fn.params[j]?=some t→args[j]?=some v→Value.okWide C.prog W .any base t v) →
   DataW.Whole enc C.prog fn.params.toList s.vars apart W args.toList ds gs before →
   conds.all (PathCond.test C.prog ⟨fn.params.toList,ds,s.plain.varTypes C.prog,gs⟩)=true →
   (DataW.weightsEach C.prog (fn.params.toList++s.plain.varTypes C.prog) (ds++gs)).all (·≤reachBytes)=true→X W args→W.ShapedOpen C.prog →
   a.holds C.prog (lone (Frame.enter C.prog f args .normal) [] W) →
   Calls C.prog f args W fun e W'=>∃ v,e=.returned v∧s.post enc C.prog fn apart fresh handsOn again W args v W') :
  ReturnsInHanded a C os f .any (fun w args=>(s.pre enc C.prog fn conds apart w args∧X w args)∧sizedMet enc C.prog fn (OpenSpec.ofChange s) apart w args) (s.post enc C.prog fn apart fresh handsOn again):=by
 refine returnsInHanded_of_calls own started noInit witness ?_
 intro w tape i _ hsh _ hok hpre hholds
 obtain ⟨_,_,_,fn',hfn',_,_,_,_,hval⟩:=hok
 have e:fn'=fn:=Option.some.inj (hfn'.symm.trans hfn)
 subst e
 obtain ⟨⟨⟨ds,gs,before,hw,hc⟩,hx⟩,hz⟩:=hpre
 have hw':=DataW.Whole.of_heap (w':=w.forCall tape i) (by rfl) hw
 refine (contract (w.forCall tape i) w.heap.size i.args ds gs before hval hw' hc (hz.weights hw) (hX _ _ _ (by rfl) hx) hsh hholds).mono fun e W' ⟨v,he,hp⟩=>?_
 subst he
 exact ChangeSpec.post_blind hp
end
def Z8j (P:Program) (f:FuncId) (fn:Func) (X:World→Prop):Prop :=
 ∀ {H:Type} {enc:TypeId × Value→H} (W:World) (base:Nat) (args:Array Value) (ds:List (DataW H)) (p:List MemPlace),(∀ (j:Nat) t v,fn.params[j]?=some t→args[j]?=some v→Value.okWide P W .any base t v) →
  DataW.TrodAll enc P W 0 (fun _=>true) true fn.params.toList args.toList ds p→(DataW.weightsEach P fn.params.toList ds).all (·≤reachBytes)=true→X W→W.ShapedOpen P →
  Meets P f args.toList W [] [] (fun e _=>e=.returned (.bool true))
theorem Z36 {C:Checked} {os:Os} {f:FuncId} {fn:Func} {s:ChangeSpec} {rt:TypeId} {X:World→Prop} {fresh handsOn:Bool} (H:Type) (enc:TypeId × Value→H) (hX:∀ (w w':World),w.heap=w'.heap→X w→X w') (own:ownKnob C.prog.godebug=none) (started:os.Started) (noInit:C.prog.inits.idxOf? f=none) (hfn:C.prog.funcs[f]?=some fn)
  (witness:∃ (w:World) (tape:Tape) (i:Input),w.os=os∧(w.forCall tape i).Shaped C.prog∧i.vars=[]∧Input.okWide C.prog (w.forCall tape i) .any w.heap.size f i ∧
   ((s.pre enc C.prog fn [] false (w.forCall tape i).memory i.args∧X (w.forCall tape i).memory)∧sizedMet enc C.prog fn (OpenSpec.ofChange s) false (w.forCall tape i).memory i.args)∧({}:Assume).holds C.prog (lone (Frame.enter C.prog f i.args .normal) [] (w.forCall tape i)))
  (hres:fn.resultTypes=#[rt]) (hrt:C.prog.underlying rt=some .bool) (hvars:s.vars=[]) (hs:∀ (H:Type) (ds:List (DataW H)),ds.length=fn.params.toList.length→s.fn H ds={ results:=[.lit (.bool true)],args:=ds })
  (hl:laidOutB C.prog=true) (hts:fn.params.toList.all (fun t=>C.prog.readableRec t&&decide (t < C.prog.types.size))=true) (law:Z8j C.prog f fn X) :
  ReturnsInHanded {} C os f .any (fun w args=>(s.pre enc C.prog fn [] false w args∧X w)∧sizedMet enc C.prog fn (OpenSpec.ofChange s) false w args) (s.post enc C.prog fn false fresh handsOn false):=by
 refine Z4y (X:=fun w _=>X w) (fun w w' _ hh h=>hX w w' hh h) own started noInit hfn witness ?_
 intro W base args ds gs before hval hW _ hz hx hsh _
 have hW':=hW
 obtain ⟨p,q,hA,hV,rfl,hfz,hnd⟩:=hW
 rw [hvars] at hV
 obtain ⟨rfl,rfl⟩:=trodVars_none hV
 have hvt:s.plain.varTypes C.prog=[]:=by simp [DataSpec.varTypes,ChangeSpec.plain,hvars]
 rw [hvt,List.append_nil,List.append_nil] at hz
 have hlt:∀ x∈p,x.block < W.heap.size:=fun x hx=>hW'.lt x (List.mem_append_left _ hx)
 have hlen:=Z3D hA
 refine (law W base args ds p hval hA hz hx hsh W (St.refl W)).mono fun e W' ⟨H',he,hst⟩=>?_
 subst he
 have hb:Below W.heap.size W W':=⟨hst.os,hst.tape,hst.output,hst.size,fun k hk=>hst.keep k hk (by simp)⟩
 refine ⟨_,rfl,ds,[],_,[],p,[],hW',?_,?_,?_,Below.frame hb _,fun h=>by cases h⟩
 ·rw [List.append_nil,hs H ds hlen,hres]
  exact trodAll_mk1 (shut_bool hrt true)
 ·rw [List.append_nil,hs H ds hlen]
  exact Z2A hl hb hts hA hlt
 ·rw [hvars,List.append_nil,hs H ds hlen]
  rfl
theorem Z8L {P:Program} {W:World} {nm:String} {g T E n:Nat} {ns:List UInt32} {cs:Array Value} {fuel:Nat} {p:List MemPlace} {sp:Nat→Bool} (hg:P.globalNamed nm=some g) (hT:P.underlying T=some (.array n E)) (hE:P.underlying E=some (.int .u32)) (hc:P.cellsOf E=1)
  (hv:W.var? P nm=some cs) (hd:DataW.trod (fun _=>()) P W 0 sp false fuel T cs.toList=some (.agg (ns.map fun z=>.lit (.int .u32 (z.toNat:Int))),p)) (H:List Res):Rd W [] H (some ⟨g,0,none⟩) (ns.map fun z=>.int .u32 ((z.toNat:Nat):Int)):=by
 have hm:(ns.map fun z=>(DataW.lit (.int .u32 (z.toNat:Int)):DataW Unit))=(ns.map fun z=>(z.toNat:Int)).map fun z=>.lit (.int .u32 z):=by rw [List.map_map];rfl
 rw [hm] at hd
 have h1:=Z6d (k:=.u32) (ns:=ns.map fun z=>(z.toNat:Int)) hg hT hE hc hv hd
 refine .ofF fun j u hu=>⟨_,rfl,?_⟩
 rw [Zo,Nat.zero_add]
 rw [List.getElem?_map] at hu
 cases hn:ns[j]? with
 | none=>rw [hn] at hu;cases hu
 | some z =>
  rw [hn] at hu
  simp only [Option.map_some,Option.some.injEq] at hu
  subst hu
  exact h1 j _ (by rw [List.getElem?_map,hn];rfl)
theorem Z1Q {P:Program} {W:World} {nm:String} {d:DataW Unit}:∀ {l:List (String × DataW Unit)} {ps:List MemPlace},DataW.LaidVars P W l ps→(nm,d)∈l →
  ∃ g t cs fuel p,P.globalNamed nm=some g∧(P.globals[g]?).map (·.type)=some t∧W.var? P nm=some cs∧DataW.trod (fun _=>()) P W 0 (fun _=>true) false fuel t cs.toList=some (d,p)
 | [],_,_,hm=>by cases hm
 | (n,e)::r,ps,h,hm=>by
  obtain ⟨g,t,cs,fuel,p,q,h1,h2,h3,h4,h5,-⟩:=h
  rcases List.mem_cons.1 hm with hm|hm
  ·simp only [Prod.mk.injEq] at hm
   obtain ⟨rfl,rfl⟩:=hm
   exact ⟨g,t,cs,fuel,p,h1,h2,h3,h4⟩
  ·exact Z1Q h5 hm
theorem Zaf {P:Program} {W:World} {nm:String} {d:DataW Unit} {l:List (String × DataW Unit)} {g T E n:Nat} {ns:List UInt32} (h:laidMet P l W) (hm:(nm,d)∈l) (hg:P.globalNamed nm=some g) (ht:(P.globals[g]?).map (·.type)=some T) (hT:P.underlying T=some (.array n E)) (hE:P.underlying E=some (.int .u32)) (hc:P.cellsOf E=1)
  (hd:d=.agg (ns.map fun z=>.lit (.int .u32 (z.toNat:Int)))) (H:List Res):Rd W [] H (some ⟨g,0,none⟩) (ns.map fun z=>.int .u32 ((z.toNat:Nat):Int)):=by
 obtain ⟨ps,hl,-,-⟩:=h
 obtain ⟨g',t',cs,fuel,p,h1,h2,h3,h4⟩:=Z1Q hl hm
 obtain rfl:=Option.some.inj (hg.symm.trans h1)
 obtain rfl:=Option.some.inj (ht.symm.trans h2)
 subst hd
 exact Z8L hg hT hE hc h3 h4 H
end Sg
/- The tables that the laws' worlds hold, from what the cards list. -/
namespace Go.Proofs.YtophlopiigpbgaaGreatDoor
open Sg Go Go.ChangeShapes Go.WideShapes Go.RowKit Go.Lib
set_option maxRecDepth 100000
theorem own:ownKnob Tryz.prog.godebug=none:=by kernel_rfl
theorem Zd4:laidOutB Tryz.prog=true:=by kernel_rfl
theorem n_first : Tryz.prog.globalNamed "unicode/utf8.first" = some 0 := by kernel_rfl
theorem n_acc : Tryz.prog.globalNamed "unicode/utf8.acceptRanges" = some 1 := by kernel_rfl
theorem c_u8:Tryz.prog.cellsOf 5=1:=by kernel_rfl
theorem t_first:(Tryz.prog.globals[0]?).map (·.type)=some 123:=by kernel_rfl
theorem t_acc:(Tryz.prog.globals[1]?).map (·.type)=some 126:=by kernel_rfl
theorem Z8V:Rows.laid_unicode_utf8_first=.agg (((List.range 256).map fun c=>((firstT c:Nat):Int)).map fun z=>.lit (.int .u8 z)):=by kernel_rfl
theorem ZaS:(Rows.laid_unicode_utf8_acceptRanges:DataW Unit)=.agg ((List.range 16).map fun i=>.agg [.lit (.int .u8 (accLo i:Nat)),.lit (.int .u8 (accHi i:Nat))]):=by kernel_rfl
theorem Z8M {P:Program} {W:World} {nm:String} {g T E f0 n:Nat} {ps:List (Int × Int)} {cs:Array Value} {fuel:Nat} {p:List MemPlace} {sp:Nat→Bool} {fa fb:Field} (hg:P.globalNamed nm=some g) (hT:P.underlying T=some (.array n E)) (hE:P.underlying E=some (.struct #[fa,fb])) (hc:P.cellsOf E=2)
  (ha:fa.type=f0∧fa.offset=0) (hb:fb.type=f0∧fb.offset=1) (h0:P.underlying f0=some (.int .u8)) (hc0:P.cellsOf f0=1)
  (hv:W.var? P nm=some cs) (hd:DataW.trod (fun _=>()) P W 0 sp false fuel T cs.toList=some (.agg (ps.map fun z=>.agg [.lit (.int .u8 z.1),.lit (.int .u8 z.2)]),p)) :
  ∀ j z,ps[j]?=some z→W.cell? ⟨g,2*j,none⟩=some (.int .u8 z.1)∧W.cell? ⟨g,2*j+1,none⟩=some (.int .u8 z.2):=by
 intro j z hz
 obtain ⟨xs,m,rfl,hx,hlen,hn,hel⟩:=DataW.trod_array hT hd
 simp only [Prod.mk.injEq,DataW.agg.injEq] at hx
 have hj:j < ps.length:=(List.getElem?_eq_some_iff.1 hz).1
 have hxl:xs.length=ps.length:=by
  have:=congrArg List.length hx.1
  simpa using this.symm
 have h1:=hel j (by omega)
 rw [hc,List.getElem?_eq_getElem (by omega)] at h1
 obtain ⟨y0,y1,m',e1,e2,e3,e4⟩:=Go.ChangeShapes.trod_struct2 hE h1
 rw [ha.1,ha.2,hc0,List.drop_zero] at e3
 rw [hb.1,hb.2,hc0] at e4
 obtain ⟨z0,k1,k2,-⟩:=DataW.trod_int h0 e3
 obtain ⟨z1,k3,k4,-⟩:=DataW.trod_int h0 e4
 have h2:(xs.map (·.1))[j]?=(ps.map fun z=>(DataW.agg [.lit (.int .u8 z.1),.lit (.int .u8 z.2)]:DataW Unit))[j]?:=by rw [hx.1]
 rw [List.getElem?_map,List.getElem?_map,hz,List.getElem?_eq_getElem (by omega),e1] at h2
 simp only [Option.map_some,Option.some.injEq,DataW.agg.injEq,List.cons.injEq,and_true,k2,k4,DataW.lit.injEq,Lit.int.injEq,true_and] at h2
 obtain ⟨rfl,rfl⟩:=h2
 have q0:cs[2*j]?=some (.int .u8 z.1):=by
  have h4:(((cs.toList.drop (j*2)).take 2).take 1)[0]?=some (.int .u8 z.1):=by rw [k1];rfl
  rw [List.getElem?_take_of_lt (by omega),List.getElem?_take_of_lt (by omega),List.getElem?_drop] at h4
  simpa [Nat.mul_comm] using h4
 have q1:cs[2*j+1]?=some (.int .u8 z.2):=by
  have h4:((((cs.toList.drop (j*2)).take 2).drop 1).take 1)[0]?=some (.int .u8 z.2):=by rw [k3];rfl
  rw [List.getElem?_take_of_lt (by omega),List.getElem?_drop,List.getElem?_take_of_lt (by omega),List.getElem?_drop] at h4
  simpa [Nat.mul_comm,Nat.add_comm] using h4
 exact ⟨by rw [World.var?_cell hg hv];exact q0,by rw [World.var?_cell hg hv];exact q1⟩
theorem ZcA {W : World} {ls : List (String × DataW Unit)} (h : laidMet Tryz.prog ls W) (m1 : ("unicode/utf8.first", Rows.laid_unicode_utf8_first) ∈ ls) (m2 : ("unicode/utf8.acceptRanges", Rows.laid_unicode_utf8_acceptRanges) ∈ ls) : Tabs W [] := by
 obtain ⟨ps,hl,-,-⟩:=h
 constructor
 ·intro H
  obtain ⟨g',t',cs,fuel,p,h1,h2,h3,h4⟩:=Z1Q hl m1
  obtain rfl:=Option.some.inj (n_first.symm.trans h1)
  obtain rfl:=Option.some.inj (t_first.symm.trans h2)
  rw [Z8V] at h4
  have h5:=Z6d (k:=.u8) n_first Tryz.underlying123 Tryz.underlying5 c_u8 h3 h4
  refine .ofF fun j u hu=>⟨_,rfl,?_⟩
  rw [Zo,Nat.zero_add]
  unfold Z8a at hu
  rw [List.getElem?_map] at hu
  cases hn:(List.range 256)[j]? with
  | none=>rw [hn] at hu;cases hu
  | some c =>
   rw [hn] at hu
   simp only [Option.map_some,Option.some.injEq] at hu
   subst hu
   exact h5 j _ (by rw [List.getElem?_map,hn];rfl)
 ·intro H
  obtain ⟨g',t',cs,fuel,p,h1,h2,h3,h4⟩:=Z1Q hl m2
  obtain rfl:=Option.some.inj (n_acc.symm.trans h1)
  obtain rfl:=Option.some.inj (t_acc.symm.trans h2)
  rw [ZaS] at h4
  have hmm:((List.range 16).map fun i=>(DataW.agg [.lit (.int .u8 (accLo i:Nat)),.lit (.int .u8 (accHi i:Nat))]:DataW Unit))=((List.range 16).map fun i=>(((accLo i:Nat):Int),((accHi i:Nat):Int))).map fun z=>.agg [.lit (.int .u8 z.1),.lit (.int .u8 z.2)]:=by rw [List.map_map];rfl
  rw [hmm] at h4
  have h5:=Z8M n_acc Tryz.underlying126 Tryz.underlying125 (by kernel_rfl) ⟨rfl,rfl⟩ ⟨rfl,rfl⟩ Tryz.underlying5 c_u8 h3 h4
  refine .ofF fun j u hu=>⟨_,rfl,?_⟩
  rw [Zo,Nat.zero_add]
  have hj:j < 32:=by
   have:=(List.getElem?_eq_some_iff.1 hu).1
   have hlen:accL.length=32:=by decide
   omega
  have h6:=Z7r ⟨j / 2,by omega⟩
  simp only at h6
  have h7:=h5 (j / 2) (((accLo (j / 2):Nat):Int),((accHi (j / 2):Nat):Int)) (by rw [List.getElem?_map,List.getElem?_range (by omega)];rfl)
  rcases Nat.mod_two_eq_zero_or_one j with hm|hm
  ·have h8:accL[j]?=some (.int .u8 (accLo (j / 2):Nat)):=by
    have:=congrArg (fun l=>l[0]?) h6
    rw [show j=j / 2*2 by omega]
    simpa [List.getElem?_take,List.getElem?_drop] using this
   rw [h8] at hu
   cases hu
   have:=h7.1
   rwa [show 2*(j / 2)=j by omega] at this
  ·have h8:accL[j]?=some (.int .u8 (accHi (j / 2):Nat)):=by
    have:=congrArg (fun l=>l[1]?) h6
    rw [show j=j / 2*2+1 by omega]
    simpa [List.getElem?_take,List.getElem?_drop,show (j / 2*2+1) / 2=j / 2 by omega] using this
   rw [h8] at hu
   cases hu
   have:=h7.2
   rwa [show 2*(j / 2)+1=j by omega] at this
theorem n_k : Tryz.prog.globalNamed "signet/sha.k256" = some 12 := by kernel_rfl
theorem n_g : Tryz.prog.globalNamed "signet/sha.start256" = some 2 := by kernel_rfl
theorem c52:Tryz.prog.cellsOf 160=1:=by kernel_rfl
theorem t_k:(Tryz.prog.globals[12]?).map (·.type)=some 196:=by kernel_rfl
theorem t_g:(Tryz.prog.globals[2]?).map (·.type)=some 161:=by kernel_rfl
theorem ZdE {W : World} {ls : List (String × DataW Unit)} (h : laidMet Tryz.prog ls W) (m1 : ("signet/sha.k256", Rows.laid_signet_sha_k256) ∈ ls) (m2 : ("signet/sha.start256", Rows.laid_signet_sha_start256) ∈ ls) : ShP W [] :=
 ⟨fun H => Zaf h (nm := "signet/sha.k256") (d := Rows.laid_signet_sha_k256) m1 n_k t_k Tryz.underlying196 Tryz.underlying160 c52 (by kernel_rfl) H,
  fun H => Zaf h (nm := "signet/sha.start256") (d := Rows.laid_signet_sha_start256) m2 n_g t_g Tryz.underlying161 Tryz.underlying160 c52 (by kernel_rfl) H⟩
end Go.Proofs.YtophlopiigpbgaaGreatDoor
