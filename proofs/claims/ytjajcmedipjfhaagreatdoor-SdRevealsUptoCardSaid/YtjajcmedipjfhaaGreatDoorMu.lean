/- Texts put together by a program: DsQ DsT. -/
import Derived.Test.YtjajcmedipjfhaaGreatDoorMt
import Derived.Test.YtjajcmedipjfhaaGreatDoorMj
import Derived.Test.YtjajcmedipjfhaaGreatDoorMg
/- The walks of the document's look at a value: is it well shaped. -/
namespace Sg
def take1 (ok:List UInt8→Bool) (f d:Nat) (obj:Bool) (l:List Nd):Option (List Nd):=match l with
 | []=>none
 | n::r=>if Zk ok n=false∨ok n.key=false∨(obj=false∧n.key≠[])∨(Z0u n∧d=0) then none else Z0i ok f (d - 1) (if n.kind=7 then some [] else none) n.kids.toNat r
theorem Z3v {ok:List UInt8→Bool} {f d k:Nat} {nm:Option (List (List UInt8))} {l:List Nd}:Z0i ok (f+1) d nm (k+1) l=match take1 ok f d nm.isSome l with
  | none=>none
  | some r'=>if hasN nm (Z2 l).key=true then none else Z0i ok f d (nm.map ((Z2 l).key::·)) k r':=by
 cases l with
 | nil=>rfl
 | cons n r =>
  rw [Z0i,take1]
  try simp only
  have h:(nm.isSome=false∧n.key≠[])↔(nm=none∧n.key≠[]):=by cases nm<;>simp
  have e:(Zk ok n=false∨ok n.key=false∨(nm.isSome=false∧n.key≠[])∨(Z0u n∧d=0))↔(Zk ok n=false∨ok n.key=false∨(nm=none∧n.key≠[])∨(Z0u n∧d=0)):=by rw [h]
  by_cases hc:Zk ok n=false∨ok n.key=false∨(nm=none∧n.key≠[])∨(Z0u n∧d=0)
  ·rw [if_pos hc,if_pos (e.2 hc)]
  ·rw [if_neg hc,if_neg (fun h=>hc (e.1 h))]
   rfl
theorem Z3w {ok:List UInt8→Bool} {f d:Nat} {obj:Bool} {l r:List Nd} (h:take1 ok f d obj l=some r):r.length < l.length:=by
 cases l with
 | nil=>cases h
 | cons n t =>
  rw [take1] at h
  try simp only at h
  split at h
  ·cases h
  ·have:=Z2v h
   simp only [List.length_cons]
   omega
theorem Z4w {ok:List UInt8→Bool} {f d q:Nat} {obj:Bool} {v r:List Nd} (h:take1 ok f d obj (v.drop q)=some r):v.drop (v.length - r.length)=r:=by
 have h1:∃ a,v.drop q=a++r:=by
  cases hv:v.drop q with
  | nil=>rw [hv] at h;cases h
  | cons n t =>
   rw [hv,take1] at h
   try simp only at h
   split at h
   ·cases h
   ·obtain ⟨a,h2,-⟩:=Z3f h
    exact ⟨n::a,by rw [h2];rfl⟩
 obtain ⟨a,h1⟩:=h1
 have h2:v=(v.take q++a)++r:=by rw [List.append_assoc,←h1,List.take_append_drop]
 have h3:v.length - r.length=(v.take q++a).length:=by
  have:=congrArg List.length h2
  rw [List.length_append] at this
  omega
 have h4:=List.drop_left (l₁:=v.take q++a) (l₂:=r)
 rw [←h2] at h4
 rw [h3,h4]
theorem Z5m (ok:List UInt8→Bool) (v:List Nd):ZH ok v=(match take1 ok v.length 32 false v with
  | some []=>true
  | _=>false):=by
 rw [Z32,Z3v]
 cases h:take1 ok v.length 32 (none:Option (List (List UInt8))).isSome v with
 | none=>rw [show take1 ok v.length 32 false v=none from h]
 | some r =>
  rw [show take1 ok v.length 32 false v=some r from h]
  dsimp only
  rw [if_neg (show ¬hasN none (Z2 v).key=true by simp [hasN]),Z01]
  cases r<;>rfl
theorem hasN_if {c:Prop} [Decidable c] {x:List UInt8} {ns:List (List UInt8)}:hasN (if c then some ns.reverse else none) x=true↔(c∧x∈ns):=by by_cases h:c<;>simp [hasN,h]
theorem Zch {c:Prop} [Decidable c] {ns:List (List UInt8)}:(if c then some ns else none).isSome=decide c:=by by_cases h:c<;>simp [h]
theorem Zcg {c:Prop} [Decidable c] {x:List UInt8} {ns:List (List UInt8)}:(if c then some ns.reverse else none).map (x::·)=(if c then some (ns++[x]).reverse else none):=by by_cases h:c<;>simp [h]
end Sg
namespace Go.Proofs.YtjajcmedipjfhaaGreatDoor
open Sg Go.IntWalk
set_option maxRecDepth 100000
set_option maxHeartbeats 4000000
section
variable {F:World} {M:List Nat} {H:List Res} {v:List Nd} {oa:Option Addr} {oc n:Nat}
theorem Z5j {A H:List Res}:PSub H (A++H):=⟨A,List.perm_append_comm⟩
theorem Z5a {xa:Option Addr} {xc m:Nat} {xs:List (List UInt8)} {s:List UInt8} [Rd F M H xa (xs.map sV)] (hm:xs.length=m) (hl:m≤140737488355328) :
  Meets Tryz.prog 86 [.slice xa m xc,sV s] F M H (fun e H'=>e=.returned (.bool (decide (s∈xs)))∧H'=H):=by
 subst hm
 refine Meets.enter Tryz.func86 rfl rfl ?_
 generalize hQ:decide (s∈xs)=Q
 repeat' (first|refine Sg.Y1 ?_|fail)
 refine S.loopE 0 [0,1] (fun R b' μ H' e=>∃ i:Nat,H'=R∧e=(5,.int .i64 i)::b'∧(i≤xs.length∧decide (s∈xs.drop i)=Q)∧μ=xs.length - i) rfl rfl ?_ _ _ ⟨0,rfl,rfl,⟨Nat.zero_le _,hQ⟩,rfl⟩ (by repeat' first|exact trivial|refine And.intro rfl ?_)
 rintro _ _ _ ⟨i,hR1,rfl,⟨h1,h2⟩,rfl⟩ ih
 subst hR1
 by_cases h3:i < xs.length
 ·have h4:xs.drop i=xs.getD i []::xs.drop (i+1):=by
   rw [List.drop_eq_getElem_cons h3]
   simp [List.getD,h3]
  rw [h4] at h2
  by_cases h5:xs.getD i []=s
  ·have h6:Q=true:=by rw [←h2,h5];simp
   subst h6
   repeat' (first|refine Sg.Y3 ?_|(apply S.condQ;apply rfl;all_goals intro _)|fail)
   exact ⟨_,PSub.refl _,rfl,rfl⟩
  ·have h6:decide (s∈xs.drop (i+1))=Q:=by
    rw [←h2]
    have:¬s=xs.getD i []:=fun h=>h5 h.symm
    exact decide_eq_decide.2 (by rw [List.mem_cons];exact ⟨fun h=>.inr h,fun h=>h.resolve_left this⟩)
   repeat' (first|refine Sg.Y3 ?_|(apply S.condQ;apply rfl;all_goals intro _)|fail)
   exact ih _ _ _ _ ⟨i+1,rfl,rfl,⟨h3,h6⟩,rfl⟩ (by omega) (by repeat' first|exact trivial|refine And.intro rfl ?_)
 ·obtain rfl:i=xs.length:=by omega
  have h6:Q=false:=by rw [←h2,List.drop_length];simp
  subst h6
  repeat' (first|refine Sg.Y3 ?_|(apply S.condQ;apply rfl;all_goals intro _)|fail)
  exact ⟨_,PSub.refl _,rfl,rfl⟩
def tkI (v:List Nd) (r:Option (List Nd)):Int:=match r with
 | none => -1
 | some r=>((v.length - r.length:Nat):Int)
theorem Z6b:∀ (N f:Nat) {p d:Nat} {obj:Bool} {H:List Res} [Rd F M H oa (v.flatMap ndV)],f≤N→v.length=n→n≤2200000→(∀ x∈v,x.text.length≤2200000∧x.key.length≤2200000)→p≤v.length→v.length - p≤f→d≤32 →
  Meets Tryz.prog 55 [.slice oa n oc,.int .i64 p,.bool obj,.int .i64 ((32 - d:Nat):Int)] F M H (fun e H'=>e=.returned (.int .i64 (tkI v (take1 Lib.validD f d obj (v.drop p))))∧H'=H):=by
 intro N
 induction N with
 | zero =>
  intro f p d obj H _ hN hn hl htx hp hf hd
  subst hn
  refine Meets.enter Tryz.func55 rfl rfl ?_
  have h0:p=v.length:=by omega
  subst h0
  rw [List.drop_length,show tkI v (take1 Lib.validD f d obj []) = -1 from rfl]
  repeat' (first|refine Sg.Y3 ?_|(apply S.condQ;apply rfl;all_goals intro _)|fail)
  exact ⟨_,PSub.refl _,rfl,rfl⟩
 | succ N IH =>
  intro f p d obj H _ hN hn hl htx hp hf hd
  subst hn
  by_cases h0:p=v.length
  ·subst h0
   refine Meets.enter Tryz.func55 rfl rfl ?_
   rw [List.drop_length,show tkI v (take1 Lib.validD f d obj []) = -1 from rfl]
   repeat' (first|refine Sg.Y3 ?_|(apply S.condQ;apply rfl;all_goals intro _)|fail)
   exact ⟨_,PSub.refl _,rfl,rfl⟩
  have h1:p < v.length:=by omega
  have e1:v.drop p=v.getD p default::v.drop (p+1):=by
   rw [List.drop_eq_getElem_cons h1,List.getD_eq_getElem?_getD,List.getElem?_eq_getElem h1,Option.getD_some]
  obtain ⟨x1,x2⟩:=htx (v.getD p default) (by rw [List.getD_eq_getElem?_getD,List.getElem?_eq_getElem h1,Option.getD_some];exact List.getElem_mem h1)
  rw [e1,take1]
  try simp only
  refine Meets.enter Tryz.func55 rfl rfl ?_
  cases hp1:Zk Lib.validD (v.getD p default) with
  | false =>
   rw [if_pos (.inl rfl),show tkI v none = -1 from rfl]
   repeat' (first|(apply T.alloc;apply rfl;intro nb)|refine Sg.Y3 ?_|(apply S.condQ;apply rfl;all_goals intro _)|fail)
   refine T.call rfl rfl (Zw x1) ?_
   rintro _ _ ⟨rfl,rfl⟩
   rw [hp1]
   repeat' (first|refine Sg.Y1 ?_|fail)
   refine T.call rfl rfl (Zz (by omega)) ?_
   rintro _ _ ⟨rfl,rfl⟩
   repeat' (first|refine Sg.Y1 ?_|fail)
   exact ⟨_,PSub.drop (PSub.refl _),rfl,rfl⟩
  | true =>
  cases hv1:Lib.validD (v.getD p default).key with
  | false =>
   rw [if_pos (.inr (.inl rfl)),show tkI v none = -1 from rfl]
   repeat' (first|(apply T.alloc;apply rfl;intro nb)|refine Sg.Y3 ?_|(apply S.condQ;apply rfl;all_goals intro _)|fail)
   refine T.call rfl rfl (Zw x1) ?_
   rintro _ _ ⟨rfl,rfl⟩
   rw [hp1]
   repeat' (first|refine Sg.Y1 ?_|fail)
   refine T.call rfl rfl (Zz (by omega)) ?_
   rintro _ _ ⟨rfl,rfl⟩
   rw [hv1]
   repeat' (first|refine Sg.Y1 ?_|fail)
   exact ⟨_,PSub.drop (PSub.refl _),rfl,rfl⟩
  | true =>
  obtain ⟨⟨hk1,hk2,hk3⟩,hk0⟩:=Z5x hp1
  by_cases ho:obj=false∧(v.getD p default).key≠[]
  ·rw [if_pos (.inr (.inr (.inl ho))),show tkI v none = -1 from rfl]
   obtain ⟨rfl,ho2⟩:=ho
   repeat' (first|(apply T.alloc;apply rfl;intro nb)|refine Sg.Y3 ?_|(apply S.condQ;apply rfl;all_goals intro _)|fail)
   refine T.call rfl rfl (Zw x1) ?_
   rintro _ _ ⟨rfl,rfl⟩
   rw [hp1]
   repeat' (first|refine Sg.Y1 ?_|fail)
   refine T.call rfl rfl (Zz (by omega)) ?_
   rintro _ _ ⟨rfl,rfl⟩
   rw [hv1]
   repeat' (first|refine Sg.Y3 ?_|(apply T.gcase;apply rfl;apply rfl;all_goals intro _)|fail)
   exact ⟨_,PSub.drop (PSub.refl _),rfl,rfl⟩
  by_cases hd0:Z0u (v.getD p default)∧d=0
  ·rw [if_pos (.inr (.inr (.inr hd0))),show tkI v none = -1 from rfl]
   obtain ⟨hr,rfl⟩:=hd0
   have h6:6≤(v.getD p default).kind:=by unfold Z0u at hr;omega
   cases obj
   ·have ho2:(v.getD p default).key=[]:=by simpa using ho
    repeat' (first|(apply T.alloc;apply rfl;intro nb)|refine Sg.Y3 ?_|(apply S.condQ;apply rfl;all_goals intro _)|fail)
    refine T.call rfl rfl (Zw x1) ?_
    rintro _ _ ⟨rfl,rfl⟩
    rw [hp1]
    repeat' (first|refine Sg.Y1 ?_|fail)
    refine T.call rfl rfl (Zz (by omega)) ?_
    rintro _ _ ⟨rfl,rfl⟩
    rw [hv1]
    repeat' (first|refine Sg.Y3 ?_|(apply T.gcase;apply rfl;apply rfl;all_goals intro _)|fail)
    all_goals exact ⟨_,PSub.drop (PSub.refl _),rfl,rfl⟩
   ·repeat' (first|(apply T.alloc;apply rfl;intro nb)|refine Sg.Y3 ?_|(apply S.condQ;apply rfl;all_goals intro _)|fail)
    refine T.call rfl rfl (Zw x1) ?_
    rintro _ _ ⟨rfl,rfl⟩
    rw [hp1]
    repeat' (first|refine Sg.Y1 ?_|fail)
    refine T.call rfl rfl (Zz (by omega)) ?_
    rintro _ _ ⟨rfl,rfl⟩
    rw [hv1]
    repeat' (first|refine Sg.Y3 ?_|(apply T.gcase;apply rfl;apply rfl;all_goals intro _)|fail)
    all_goals exact ⟨_,PSub.drop (PSub.refl _),rfl,rfl⟩
  rw [if_neg (by simp only [hp1,hv1,not_or];exact ⟨by simp,by simp,ho,hd0⟩)]
  obtain ⟨kk,hkk⟩:∃ kk:Nat,(v.getD p default).kids=(kk:Int):=⟨_,(Int.toNat_of_nonneg hk0).symm⟩
  rw [hkk,Int.toNat_natCast]
  have hdd:0 < kk→0 < d:=fun h=>by
   by_cases hr:Z0u (v.getD p default)
   ·have:¬d=0:=fun h=>hd0 ⟨hr,h⟩
    omega
   ·have:=hk3 hr
    omega
  have io:((32 - d:Nat):Int)+1=((32 - (d - 1):Nat):Int)∨d=0:=by omega
  generalize hQ:tkI v (Z0i Lib.validD f (d - 1) (if (v.getD p default).kind=7 then some [] else none) kk (v.drop (p+1)))=Q
  refine S.nilrow 9 1 ?_
  have hd2:6≤(v.getD p default).kind→¬((32 - d:Nat):Int)=32:=fun h=>by
   have:¬d=0:=fun h2=>hd0 ⟨by unfold Z0u;omega,h2⟩
   omega
  have ho2:obj=true∨(v.getD p default).key=[]:=by
   cases obj
   ·exact .inr (by simpa using ho)
   ·exact .inl rfl
  clear ho hd0
  have hgo:obj=true∨obj=false:=by cases obj<;>simp
  rcases hgo with rfl|rfl
  rotate_left
  ·have ho3:(v.getD p default).key=[]:=ho2.resolve_left (by simp)
   clear ho2
   by_cases h6:6≤(v.getD p default).kind
   ·have h32:=hd2 h6
    repeat' (first|(apply T.alloc;apply rfl;intro nb)|refine Sg.Y3 ?_|(apply S.condQ;apply rfl;all_goals intro _)|fail)
    refine T.call rfl rfl (Zw x1) ?_
    rintro _ _ ⟨rfl,rfl⟩
    rw [hp1]
    repeat' (first|refine Sg.Y1 ?_|fail)
    refine T.call rfl rfl (Zz (by omega)) ?_
    rintro _ _ ⟨rfl,rfl⟩
    rw [hv1]
    repeat' (first|refine Sg.Y3 ?_|(apply S.condQ;apply rfl;all_goals intro _)|(apply T.gcase;apply rfl;apply rfl;all_goals intro _)|fail)
    refine S.frontR none ?_
    refine S.loopE 1 [0,3,9] (fun R b' μ H' e=>∃ (i q g:Nat) (na:Option Addr) (nc:Nat) (names:List (List UInt8)),H'=.row na nc 9 1 names.length (names.map sV)::R∧e=(12,.int .i64 q)::(13,.slice na names.length nc)::(14,.int .i64 i)::b' ∧
     (i≤kk∧q≤v.length∧v.length - q < g∧g≤N+1∧names.length=i∧i≤q∧tkI v (Z0i Lib.validD g (d - 1) (if (v.getD p default).kind=7 then some names.reverse else none) (kk - i) (v.drop q))=Q)∧μ=kk - i) rfl rfl ?_ _ _ ⟨0,p+1,f,none,0,[],rfl,rfl,⟨Nat.zero_le _,h1,by omega,hN,rfl,by omega,hQ⟩,rfl⟩ (by repeat' first|exact trivial|refine And.intro rfl ?_)
    rintro _ _ _ ⟨i,q,g,na,nc,names,rfl,rfl,⟨c1,c2,c3,c4,c5,c6,c7⟩,rfl⟩ ih
    by_cases c8:i < kk
    ·have hd1:=hdd (by omega)
     have io2:((32 - d:Nat):Int)+1=((32 - (d - 1):Nat):Int):=by omega
     obtain ⟨g',rfl⟩:∃ g',g=g'+1:=⟨g - 1,by omega⟩
     have c9:kk - i=(kk - (i+1))+1:=by omega
     rw [c9,Z3v,Zch,Zcg] at c7
     repeat' (first|(apply T.addI;apply rfl;apply rfl;omega;apply rfl;rw [io2])|refine Sg.Y3 ?_|(apply S.condQ;apply rfl;all_goals intro _)|fail)
     refine T.call rfl rfl (IH g' (p:=q) (d:=d - 1) (obj:=decide ((v.getD p default).kind=7)) (by omega) rfl hl htx c2 (by omega) (by omega)) ?_
     rintro _ _ ⟨rfl,hH⟩
     have hH2:=hH.symm
     subst hH2
     cases ht:take1 Lib.validD g' (d - 1) (decide ((v.getD p default).kind=7)) (v.drop q) with
     | none =>
      rw [ht] at c7
      have c10:Q = -1:=c7.symm
      subst c10
      rw [show tkI v none = -1 from rfl]
      repeat' (first|refine Sg.Y1 ?_|fail)
      exact ⟨_,PSub.drop (PSub.drop (PSub.refl _)),rfl,rfl⟩
     | some r' =>
      rw [ht] at c7
      dsimp only at c7
      have d1:=Z3w ht
      have d2:=Z4w ht
      rw [List.length_drop] at d1
      have d3:q < v.length:=by omega
      have d4:Z2 (v.drop q)=v.getD q default:=by
       rw [List.drop_eq_getElem_cons d3]
       simp [Z2,List.getD,d3]
      rw [d4] at c7
      obtain ⟨y1,y2⟩:=htx (v.getD q default) (by rw [List.getD_eq_getElem?_getD,List.getElem?_eq_getElem d3,Option.getD_some];exact List.getElem_mem d3)
      rw [show tkI v (some r')=((v.length - r'.length:Nat):Int) from rfl]
      generalize hqq:v.length - r'.length=q' at *
      have hmm:names.map sV++[sV (v.getD q default).key]=(names++[(v.getD q default).key]).map sV:=by rw [List.map_append];rfl
      have hnl:(names++[(v.getD q default).key]).length=names.length+1:=List.length_append
      by_cases k7:(v.getD p default).kind=7
      ·repeat' (first|refine Sg.Y3 ?_|(apply T.gcase;apply rfl;apply rfl;all_goals intro _)|fail)
       refine T.call rfl rfl (Z5a rfl (by omega)) ?_
       rintro _ _ ⟨rfl,hH⟩
       have hH2:=hH.symm
       subst hH2
       by_cases hin:(v.getD q default).key∈names
       ·rw [if_pos (hasN_if.2 ⟨k7,hin⟩)] at c7
        have c10:Q = -1:=c7.symm
        subst c10
        rw [decide_eq_true hin]
        repeat' (first|refine Sg.Y1 ?_|fail)
        exact ⟨_,PSub.drop (PSub.drop (PSub.refl _)),rfl,rfl⟩
       ·rw [if_neg (fun h=>hin (hasN_if.1 h).2)] at c7
        rw [decide_eq_false hin]
        repeat' (first|(apply T.appendK1;(iterate 4 apply rfl);(constructor<;>omega);apply rfl;intro na2 nc2 Y hY)|(apply T.bs;(iterate 6 apply rfl);intro nb)|refine Sg.Y2 ?_|fail)
        refine S.sublist (H':=.row na2 nc2 9 1 (names.length+1) (names.map sV++[sV (v.getD q default).key])::_) ?_ (PSub.take Z0 Z5j)
        rw [hmm,←hnl]
        exact ih _ _ _ _ ⟨i+1,q',g',na2,nc2,names++[(v.getD q default).key],rfl,rfl,⟨c8,by omega,by omega,by omega,by omega,by omega,by rw [d2];exact c7⟩,rfl⟩ (by omega) (by repeat' first|exact trivial|refine And.intro rfl ?_)
      ·rw [if_neg (fun h=>k7 (hasN_if.1 h).1)] at c7
       repeat' (first|(apply T.appendK1;(iterate 4 apply rfl);(constructor<;>omega);apply rfl;intro na2 nc2 Y hY)|(apply T.bs;(iterate 6 apply rfl);intro nb)|refine Sg.Y3 ?_|(apply T.gcase;apply rfl;apply rfl;all_goals intro _)|fail)
       refine S.sublist (H':=.row na2 nc2 9 1 (names.length+1) (names.map sV++[sV (v.getD q default).key])::_) ?_ (PSub.take Z0 Z5j)
       rw [hmm,←hnl]
       exact ih _ _ _ _ ⟨i+1,q',g',na2,nc2,names++[(v.getD q default).key],rfl,rfl,⟨c8,by omega,by omega,by omega,by omega,by omega,by rw [d2];exact c7⟩,rfl⟩ (by omega) (by repeat' first|exact trivial|refine And.intro rfl ?_)
    ·obtain rfl:i=kk:=by omega
     rw [Nat.sub_self,Z01] at c7
     have c10:Q=(q:Int):=by
      rw [←c7]
      show ((v.length - (v.drop q).length:Nat):Int)=_
      rw [List.length_drop]
      omega
     subst c10
     repeat' (first|refine Sg.Y3 ?_|(apply S.condQ;apply rfl;all_goals intro _)|fail)
     exact ⟨_,PSub.drop (PSub.drop (PSub.refl _)),rfl,rfl⟩
   ·have hkz:kk=0:=by
     have:=hk3 (by unfold Z0u;omega)
     omega
    repeat' (first|(apply T.alloc;apply rfl;intro nb)|refine Sg.Y3 ?_|(apply S.condQ;apply rfl;all_goals intro _)|fail)
    refine T.call rfl rfl (Zw x1) ?_
    rintro _ _ ⟨rfl,rfl⟩
    rw [hp1]
    repeat' (first|refine Sg.Y1 ?_|fail)
    refine T.call rfl rfl (Zz (by omega)) ?_
    rintro _ _ ⟨rfl,rfl⟩
    rw [hv1]
    repeat' (first|refine Sg.Y3 ?_|(apply T.gcase;apply rfl;apply rfl;all_goals intro _)|fail)
    refine S.frontR none ?_
    refine S.loopE 1 [0,3,9] (fun R b' μ H' e=>∃ (i q g:Nat) (na:Option Addr) (nc:Nat) (names:List (List UInt8)),H'=.row na nc 9 1 names.length (names.map sV)::R∧e=(12,.int .i64 q)::(13,.slice na names.length nc)::(14,.int .i64 i)::b' ∧
     (i≤kk∧q≤v.length∧v.length - q < g∧g≤N+1∧names.length=i∧i≤q∧tkI v (Z0i Lib.validD g (d - 1) (if (v.getD p default).kind=7 then some names.reverse else none) (kk - i) (v.drop q))=Q)∧μ=kk - i) rfl rfl ?_ _ _ ⟨0,p+1,f,none,0,[],rfl,rfl,⟨Nat.zero_le _,h1,by omega,hN,rfl,by omega,hQ⟩,rfl⟩ (by repeat' first|exact trivial|refine And.intro rfl ?_)
    rintro _ _ _ ⟨i,q,g,na,nc,names,rfl,rfl,⟨c1,c2,c3,c4,c5,c6,c7⟩,rfl⟩ ih
    by_cases c8:i < kk
    ·exfalso;omega
    ·obtain rfl:i=kk:=by omega
     rw [Nat.sub_self,Z01] at c7
     have c10:Q=(q:Int):=by
      rw [←c7]
      show ((v.length - (v.drop q).length:Nat):Int)=_
      rw [List.length_drop]
      omega
     subst c10
     repeat' (first|refine Sg.Y3 ?_|(apply S.condQ;apply rfl;all_goals intro _)|fail)
     exact ⟨_,PSub.drop (PSub.drop (PSub.refl _)),rfl,rfl⟩
  ·clear ho2
   by_cases h6:6≤(v.getD p default).kind
   ·have h32:=hd2 h6
    repeat' (first|(apply T.alloc;apply rfl;intro nb)|refine Sg.Y3 ?_|(apply S.condQ;apply rfl;all_goals intro _)|fail)
    refine T.call rfl rfl (Zw x1) ?_
    rintro _ _ ⟨rfl,rfl⟩
    rw [hp1]
    repeat' (first|refine Sg.Y1 ?_|fail)
    refine T.call rfl rfl (Zz (by omega)) ?_
    rintro _ _ ⟨rfl,rfl⟩
    rw [hv1]
    repeat' (first|refine Sg.Y3 ?_|(apply S.condQ;apply rfl;all_goals intro _)|(apply T.gcase;apply rfl;apply rfl;all_goals intro _)|fail)
    refine S.frontR none ?_
    refine S.loopE 1 [0,3,9] (fun R b' μ H' e=>∃ (i q g:Nat) (na:Option Addr) (nc:Nat) (names:List (List UInt8)),H'=.row na nc 9 1 names.length (names.map sV)::R∧e=(12,.int .i64 q)::(13,.slice na names.length nc)::(14,.int .i64 i)::b' ∧
     (i≤kk∧q≤v.length∧v.length - q < g∧g≤N+1∧names.length=i∧i≤q∧tkI v (Z0i Lib.validD g (d - 1) (if (v.getD p default).kind=7 then some names.reverse else none) (kk - i) (v.drop q))=Q)∧μ=kk - i) rfl rfl ?_ _ _ ⟨0,p+1,f,none,0,[],rfl,rfl,⟨Nat.zero_le _,h1,by omega,hN,rfl,by omega,hQ⟩,rfl⟩ (by repeat' first|exact trivial|refine And.intro rfl ?_)
    rintro _ _ _ ⟨i,q,g,na,nc,names,rfl,rfl,⟨c1,c2,c3,c4,c5,c6,c7⟩,rfl⟩ ih
    by_cases c8:i < kk
    ·have hd1:=hdd (by omega)
     have io2:((32 - d:Nat):Int)+1=((32 - (d - 1):Nat):Int):=by omega
     obtain ⟨g',rfl⟩:∃ g',g=g'+1:=⟨g - 1,by omega⟩
     have c9:kk - i=(kk - (i+1))+1:=by omega
     rw [c9,Z3v,Zch,Zcg] at c7
     repeat' (first|(apply T.addI;apply rfl;apply rfl;omega;apply rfl;rw [io2])|refine Sg.Y3 ?_|(apply S.condQ;apply rfl;all_goals intro _)|fail)
     refine T.call rfl rfl (IH g' (p:=q) (d:=d - 1) (obj:=decide ((v.getD p default).kind=7)) (by omega) rfl hl htx c2 (by omega) (by omega)) ?_
     rintro _ _ ⟨rfl,hH⟩
     have hH2:=hH.symm
     subst hH2
     cases ht:take1 Lib.validD g' (d - 1) (decide ((v.getD p default).kind=7)) (v.drop q) with
     | none =>
      rw [ht] at c7
      have c10:Q = -1:=c7.symm
      subst c10
      rw [show tkI v none = -1 from rfl]
      repeat' (first|refine Sg.Y1 ?_|fail)
      exact ⟨_,PSub.drop (PSub.drop (PSub.refl _)),rfl,rfl⟩
     | some r' =>
      rw [ht] at c7
      dsimp only at c7
      have d1:=Z3w ht
      have d2:=Z4w ht
      rw [List.length_drop] at d1
      have d3:q < v.length:=by omega
      have d4:Z2 (v.drop q)=v.getD q default:=by
       rw [List.drop_eq_getElem_cons d3]
       simp [Z2,List.getD,d3]
      rw [d4] at c7
      obtain ⟨y1,y2⟩:=htx (v.getD q default) (by rw [List.getD_eq_getElem?_getD,List.getElem?_eq_getElem d3,Option.getD_some];exact List.getElem_mem d3)
      rw [show tkI v (some r')=((v.length - r'.length:Nat):Int) from rfl]
      generalize hqq:v.length - r'.length=q' at *
      have hmm:names.map sV++[sV (v.getD q default).key]=(names++[(v.getD q default).key]).map sV:=by rw [List.map_append];rfl
      have hnl:(names++[(v.getD q default).key]).length=names.length+1:=List.length_append
      by_cases k7:(v.getD p default).kind=7
      ·repeat' (first|refine Sg.Y3 ?_|(apply T.gcase;apply rfl;apply rfl;all_goals intro _)|fail)
       refine T.call rfl rfl (Z5a rfl (by omega)) ?_
       rintro _ _ ⟨rfl,hH⟩
       have hH2:=hH.symm
       subst hH2
       by_cases hin:(v.getD q default).key∈names
       ·rw [if_pos (hasN_if.2 ⟨k7,hin⟩)] at c7
        have c10:Q = -1:=c7.symm
        subst c10
        rw [decide_eq_true hin]
        repeat' (first|refine Sg.Y1 ?_|fail)
        exact ⟨_,PSub.drop (PSub.drop (PSub.refl _)),rfl,rfl⟩
       ·rw [if_neg (fun h=>hin (hasN_if.1 h).2)] at c7
        rw [decide_eq_false hin]
        repeat' (first|(apply T.appendK1;(iterate 4 apply rfl);(constructor<;>omega);apply rfl;intro na2 nc2 Y hY)|(apply T.bs;(iterate 6 apply rfl);intro nb)|refine Sg.Y2 ?_|fail)
        refine S.sublist (H':=.row na2 nc2 9 1 (names.length+1) (names.map sV++[sV (v.getD q default).key])::_) ?_ (PSub.take Z0 Z5j)
        rw [hmm,←hnl]
        exact ih _ _ _ _ ⟨i+1,q',g',na2,nc2,names++[(v.getD q default).key],rfl,rfl,⟨c8,by omega,by omega,by omega,by omega,by omega,by rw [d2];exact c7⟩,rfl⟩ (by omega) (by repeat' first|exact trivial|refine And.intro rfl ?_)
      ·rw [if_neg (fun h=>k7 (hasN_if.1 h).1)] at c7
       repeat' (first|(apply T.appendK1;(iterate 4 apply rfl);(constructor<;>omega);apply rfl;intro na2 nc2 Y hY)|(apply T.bs;(iterate 6 apply rfl);intro nb)|refine Sg.Y3 ?_|(apply T.gcase;apply rfl;apply rfl;all_goals intro _)|fail)
       refine S.sublist (H':=.row na2 nc2 9 1 (names.length+1) (names.map sV++[sV (v.getD q default).key])::_) ?_ (PSub.take Z0 Z5j)
       rw [hmm,←hnl]
       exact ih _ _ _ _ ⟨i+1,q',g',na2,nc2,names++[(v.getD q default).key],rfl,rfl,⟨c8,by omega,by omega,by omega,by omega,by omega,by rw [d2];exact c7⟩,rfl⟩ (by omega) (by repeat' first|exact trivial|refine And.intro rfl ?_)
    ·obtain rfl:i=kk:=by omega
     rw [Nat.sub_self,Z01] at c7
     have c10:Q=(q:Int):=by
      rw [←c7]
      show ((v.length - (v.drop q).length:Nat):Int)=_
      rw [List.length_drop]
      omega
     subst c10
     repeat' (first|refine Sg.Y3 ?_|(apply S.condQ;apply rfl;all_goals intro _)|fail)
     exact ⟨_,PSub.drop (PSub.drop (PSub.refl _)),rfl,rfl⟩
   ·have hkz:kk=0:=by
     have:=hk3 (by unfold Z0u;omega)
     omega
    repeat' (first|(apply T.alloc;apply rfl;intro nb)|refine Sg.Y3 ?_|(apply S.condQ;apply rfl;all_goals intro _)|fail)
    refine T.call rfl rfl (Zw x1) ?_
    rintro _ _ ⟨rfl,rfl⟩
    rw [hp1]
    repeat' (first|refine Sg.Y1 ?_|fail)
    refine T.call rfl rfl (Zz (by omega)) ?_
    rintro _ _ ⟨rfl,rfl⟩
    rw [hv1]
    repeat' (first|refine Sg.Y3 ?_|(apply T.gcase;apply rfl;apply rfl;all_goals intro _)|fail)
    refine S.frontR none ?_
    refine S.loopE 1 [0,3,9] (fun R b' μ H' e=>∃ (i q g:Nat) (na:Option Addr) (nc:Nat) (names:List (List UInt8)),H'=.row na nc 9 1 names.length (names.map sV)::R∧e=(12,.int .i64 q)::(13,.slice na names.length nc)::(14,.int .i64 i)::b' ∧
     (i≤kk∧q≤v.length∧v.length - q < g∧g≤N+1∧names.length=i∧i≤q∧tkI v (Z0i Lib.validD g (d - 1) (if (v.getD p default).kind=7 then some names.reverse else none) (kk - i) (v.drop q))=Q)∧μ=kk - i) rfl rfl ?_ _ _ ⟨0,p+1,f,none,0,[],rfl,rfl,⟨Nat.zero_le _,h1,by omega,hN,rfl,by omega,hQ⟩,rfl⟩ (by repeat' first|exact trivial|refine And.intro rfl ?_)
    rintro _ _ _ ⟨i,q,g,na,nc,names,rfl,rfl,⟨c1,c2,c3,c4,c5,c6,c7⟩,rfl⟩ ih
    by_cases c8:i < kk
    ·exfalso;omega
    ·obtain rfl:i=kk:=by omega
     rw [Nat.sub_self,Z01] at c7
     have c10:Q=(q:Int):=by
      rw [←c7]
      show ((v.length - (v.drop q).length:Nat):Int)=_
      rw [List.length_drop]
      omega
     subst c10
     repeat' (first|refine Sg.Y3 ?_|(apply S.condQ;apply rfl;all_goals intro _)|fail)
     exact ⟨_,PSub.drop (PSub.drop (PSub.refl _)),rfl,rfl⟩
end
end Go.Proofs.YtjajcmedipjfhaaGreatDoor
/- The walk of the document's Shaped. -/
namespace Go.Proofs.YtjajcmedipjfhaaGreatDoor
open Sg Go.IntWalk
set_option maxRecDepth 100000
set_option maxHeartbeats 4000000
section
variable {F:World} {M:List Nat} {H:List Res} {v:List Nd} {oa:Option Addr} {oc n:Nat}
theorem Z2d [Rd F M H oa (v.flatMap ndV)] (hn:v.length=n) (hl:n≤2200000) (htx:∀ x∈v,x.text.length≤2200000∧x.key.length≤2200000) :
  Meets Tryz.prog 30 [.slice oa n oc] F M H (fun e H'=>e=.returned (.bool (ZH Lib.validD v))∧H'=H):=by
 subst hn
 refine Meets.enter Tryz.func30 rfl rfl ?_
 by_cases h0:0 < v.length
 ·have h1:=Z5m Lib.validD v
  repeat' (first|refine Sg.Y8 ?_|(apply T.gcase;apply rfl;apply rfl;all_goals intro _)|fail)
  refine T.call rfl rfl (Z6b (oa:=oa) v.length v.length (p:=0) (d:=32) (obj:=false) (Nat.le_refl _) rfl hl htx (Nat.zero_le _) (by omega) (Nat.le_refl _)) ?_
  rintro _ _ ⟨rfl,rfl⟩
  rw [List.drop_zero]
  cases ht:take1 Lib.validD v.length 32 false v with
  | none =>
   rw [ht] at h1
   rw [h1,show tkI v none = -1 from rfl]
   repeat' (first|refine Sg.Y10 ?_|fail)
   exact ⟨_,PSub.refl _,by rw [decide_eq_false (by omega)],rfl⟩
  | some r =>
   rw [ht] at h1
   have h2:=Z3w ht
   rw [show tkI v (some r)=((v.length - r.length:Nat):Int) from rfl]
   have h3:ZH Lib.validD v=decide (((v.length - r.length:Nat):Int)=(v.length:Nat)):=by
    rw [h1]
    cases r with
    | nil=>simp
    | cons a r =>
     simp only [List.length_cons] at h2 ⊢
     exact (decide_eq_false (by omega)).symm
   repeat' (first|refine Sg.Y10 ?_|fail)
   exact ⟨_,PSub.refl _,by rw [h3],rfl⟩
 ·have h1:v=[]:=List.eq_nil_of_length_eq_zero (by omega)
  subst h1
  repeat' (first|refine Sg.Y9 ?_|fail)
  exact ⟨_,PSub.refl _,rfl,rfl⟩
end
end Go.Proofs.YtjajcmedipjfhaaGreatDoor
