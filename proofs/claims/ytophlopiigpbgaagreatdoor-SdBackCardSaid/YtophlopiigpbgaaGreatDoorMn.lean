/- Texts put together by a program: PrF PrH PrI PrG PrJ HidA ShlJ. -/
import Derived.Test.YtophlopiigpbgaaGreatDoorMm
import Derived.Test.YtophlopiigpbgaaGreatDoorMa
import Derived.Lib.ItoaLen
import Derived.Test.YtophlopiigpbgaaGreatDoorMb
import Derived.Test.YtophlopiigpbgaaGreatDoorMl
import Derived.Shelf.Strconv.Itoa3
import Derived.Test.YtophlopiigpbgaaGreatDoorProg
set_option linter.unusedVariables false
set_option linter.unusedSimpArgs false
/- What has been hidden is revealed, the whole; plain. -/
namespace Sg
open Go.Lib
section
variable {dg:List UInt8→List UInt8} {L:List Said} {rd:List UInt8→Option Said}
theorem Z2P {g:Kd→List (List UInt8)}:∀ {l:List Kd} {K K':Kd} {x x':List UInt8},((l.flatMap g).map dg).Nodup→K∈l→K'∈l→x∈g K→x'∈g K'→dg x=dg x'→K=K'
 | [],K,K',x,x',_,h,_,_,_,_=>by cases h
 | A::r,K,K',x,x',hn,h,h',hx,hx',e=>by
  obtain ⟨-,n2,n3⟩:=Z4n hn
  rcases List.mem_cons.1 h with rfl|h2
  ·rcases List.mem_cons.1 h' with rfl|h3
   ·rfl
   ·exact absurd e (n3 x hx K' h3 x' hx')
  ·rcases List.mem_cons.1 h' with rfl|h3
   ·exact absurd e.symm (n3 x' hx' K h2 x hx)
   ·exact Z2P n2 h2 h3 hx hx' e
theorem Z6r {g:Kd→List (List UInt8)}:∀ {l:List Kd} {K:Kd},((l.flatMap g).map dg).Nodup→K∈l→((g K).map dg).Nodup
 | [],K,_,h=>by cases h
 | A::r,K,hn,h=>by
  obtain ⟨n1,n2,-⟩:=Z4n hn
  rcases List.mem_cons.1 h with rfl|h
  ·exact n1
  ·exact Z6r n2 h
theorem Z3w {g k:Kd→List (List UInt8)}:∀ {l:List Kd},(∀ K∈l,List.Sublist (g K) (k K))→List.Sublist (l.flatMap g) (l.flatMap k)
 | [],_=>List.Sublist.slnil
 | K::r,h=>by
  rw [List.flatMap_cons,List.flatMap_cons]
  exact (h K (List.mem_cons_self ..)).append (Z3w fun K' hK'=>h K' (List.mem_cons_of_mem _ hK'))
theorem ZbC {obj:Bool} {K:Kd} (h:List.Sublist K.h.L K.h.A):List.Sublist (K.l obj) (K.a obj):=by
 unfold Kd.l Kd.a
 refine List.Sublist.append ?_ ?_
 ·split
  ·exact h
  ·exact List.nil_sublist _
 ·by_cases h1:K.how=1
  ·rw [if_pos h1,if_neg (by omega)]
   exact List.Sublist.refl _
  ·rw [if_neg h1]
   exact List.nil_sublist _
theorem Z0X (pk:Nat→Nat):∀ (f:Nat) (x:List Nd) (n:Nat),List.Sublist (Z7 dg pk f x n).L (Z7 dg pk f x n).A
 | 0,x,n=>List.Sublist.slnil
 | f+1,x,n=>by
  rw [Z7]
  split
  ·refine Z3w fun K hK=>ZbC ?_
   obtain ⟨-,m,e,-⟩:=ZN hK
   rw [e]
   exact Z0X pk f _ _
  ·exact List.Sublist.slnil
structure Told (dg:List UInt8→List UInt8) (rd:List UInt8→Option Said) (L:List Said) (ls az:List (List UInt8)):Prop where
 told:∀ d∈ls,∃ s,rd d=some s∧Z0y L (dg d)=some s
 held:∀ a∈az,a∉ls→Z0y L (dg a)=none
 once:(az.map dg).Nodup
theorem Z9D {obj:Bool} {K:Kd} {g:List UInt8} (hT:Fo 1 K.h.T) (hk:K.key≠sdN∧K.key≠ZJ):Z2i g (K.dv obj)=some ⟨g,if obj then K.key else [],obj,K.h.T⟩:=by
 have hh:(Z3 (K.dv obj)).kind=6:=rfl
 have fs:∀ s,Fo 1 (strV s):=fun s=>Fo.one (m:=0) rfl .nil
 have hks:kidsOf (K.dv obj) 0=strV (Z1d K.h.n)::((if obj then [strV K.key] else [])++[K.h.T]):=Z0n (n:=⟨6,[],[],false,0,_⟩) rfl rfl fun y hy=>by
  cases obj with
  | true =>
   rw [if_pos rfl] at hy
   rcases List.mem_cons.1 hy with rfl|hy
   ·exact fs _
   ·rcases List.mem_cons.1 hy with rfl|hy
    ·exact fs _
    ·obtain rfl:=List.mem_singleton.1 hy
     exact hT
  | false =>
   rw [if_neg (by simp)] at hy
   rcases List.mem_cons.1 hy with rfl|hy
   ·exact fs _
   ·obtain rfl:=List.mem_singleton.1 hy
    exact hT
 cases obj with
 | true =>
  have hl:(kidsOf (K.dv true) 0).length=3:=by rw [hks];rfl
  rw [Z4K hh hl,hks]
  exact if_pos ⟨rfl,rfl,hk⟩
 | false =>
  have hl:(kidsOf (K.dv false) 0).length=2:=by rw [hks];rfl
  rw [Z7D hh hl,hks]
  exact if_pos rfl
theorem Zc8 (hd:∀ n,validD (Z1d n)=true) {obj:Bool} {K:Kd} {d:Nat} (hT:VOk d none K.h.T) (hk:validD K.key=true):VOk (d+1) none (K.dv obj):=Z1m (.inl rfl) (Z2F fun y hy=>by
 cases obj with
 | true =>
  rw [if_pos rfl] at hy
  rcases List.mem_cons.1 hy with rfl|hy
  ·exact Z2S (hd _)
  ·rcases List.mem_cons.1 hy with rfl|hy
   ·exact Z2S hk
   ·obtain rfl:=List.mem_singleton.1 hy
    exact hT
 | false =>
  rw [if_neg (by simp)] at hy
  rcases List.mem_cons.1 hy with rfl|hy
  ·exact Z2S (hd _)
  ·obtain rfl:=List.mem_singleton.1 hy
   exact hT)
theorem Z8U {obj:Bool} {l:List Kd}:∀ y∈l.flatMap (Kd.sd dg obj),Fo 1 y:=fun y hy=>by
 obtain ⟨K,hK,hy⟩:=List.mem_flatMap.1 hy
 unfold Kd.sd at hy
 split at hy
 ·obtain rfl:=List.mem_singleton.1 hy
  exact Fo.one (m:=0) rfl .nil
 ·cases hy
theorem Zb2 {obj:Bool} {l:List Kd} {y:List Nd} (h:y∈l.flatMap (Kd.tm dg obj)):(∃ K∈l,K.how=0∧y=Z6 K.h.T K.key)∨(obj=false∧∃ s,y=dotV s):=by
 obtain ⟨K,hK,hy⟩:=List.mem_flatMap.1 h
 unfold Kd.tm at hy
 split at hy
 ·rename_i h0
  exact .inl ⟨K,hK,h0,List.mem_singleton.1 hy⟩
 ·cases obj with
  | true=>rw [if_pos rfl] at hy;cases hy
  | false =>
   rw [if_neg (by simp)] at hy
   exact .inr ⟨rfl,_,List.mem_singleton.1 hy⟩
theorem ZbJ {obj:Bool} {l:List Kd} (h:∀ K∈l,Fo 1 K.h.T):∀ y∈l.flatMap (Kd.tm dg obj),Fo 1 y:=fun y hy=>by
 rcases Zb2 hy with ⟨K,hK,-,rfl⟩|⟨-,s,rfl⟩
 ·exact (h K hK).named _
 ·exact Fo.one (m:=1) rfl (Fo.of (xs:=[Z6 (strV s) ZJ]) fun y hy=>by
   obtain rfl:=List.mem_singleton.1 hy
   exact Fo.one (m:=0) rfl .nil)
theorem Z5x {l:List (List Nd)} (h:∀ y∈l,Fo 1 y):∀ y∈Z02 l,Fo 1 y:=fun y hy=>by
 unfold Z02 at hy
 split at hy
 ·cases hy
 ·obtain rfl:=List.mem_singleton.1 hy
  exact Fo.one (m:=l.length) rfl (Fo.of h)
theorem Z5Y {l:List (List Nd)} {y:List Nd} (h:y∈Z02 l):(Z3 y).key=sdN:=by
 unfold Z02 at h
 split at h
 ·cases h
 ·obtain rfl:=List.mem_singleton.1 h
  rfl
theorem Z45 {kind:Int} {q:List Kd × Nat} (h:∀ K∈q.1,Fo 1 K.h.T):kidsOf (ZI dg kind q).T 0=Z02 (q.1.flatMap (Kd.sd dg (kind==7)))++q.1.flatMap (Kd.tm dg (kind==7)) :=
 Z0n (n:=⟨kind,[],[],false,0,_⟩) rfl rfl fun y hy=>(List.mem_append.1 hy).elim (Z5x Z8U y) (ZbJ h y)
theorem Z40 {kind:Int} {q:List Kd × Nat} (h:∀ K∈q.1,Fo 1 K.h.T) {k:List UInt8} (hk:k≠sdN) (hn:kind=7→∀ K∈q.1,K.key≠k):memV (ZI dg kind q).T k=none:=by
 unfold memV
 split
 ·rename_i h7
  have h7:kind=7:=h7
  subst h7
  rw [Z45 h,List.find?_eq_none]
  intro y hy
  rcases List.mem_append.1 hy with hy|hy
  ·rw [Z5Y hy]
   simpa using fun e=>hk e.symm
  ·rcases Zb2 hy with ⟨K,hK,-,rfl⟩|⟨h1,-⟩
   ·rw [Z0h (h K hK)]
    simpa using hn rfl K hK
   ·cases h1
 ·rfl
theorem ZdR {obj:Bool} {K:Kd} {d:List UInt8} (h:d∈K.l obj):(K.how=0∧d∈K.h.L)∨(K.how=1∧d∈K.l obj):=by
 have h2:=h
 unfold Kd.l at h
 rcases (by omega:K.how=0∨K.how=1∨1 < K.how) with h0|h0|h0
 ·rw [if_pos (by omega),if_neg (by omega),List.append_nil] at h
  exact .inl ⟨h0,h⟩
 ·exact .inr ⟨h0,h2⟩
 ·rw [if_neg (by omega),if_neg (by omega)] at h
  cases h
theorem Z3X {F:Nat} {top:Bool} {q:List Kd × Nat} (hT:∀ K∈q.1,Fo 1 K.h.T) (hk:ZaV q.1) (halg:top=true→∀ K∈q.1,K.key≠algN) (ht:∀ K∈q.1,KTold dg L F true K) (hn:((q.1.flatMap (Kd.a true)).map dg).Nodup)
  {met:List Dg} {key:List UInt8} (hm:∀ a∈(ZI dg 7 q).A,dg a∉met) (hF:(ZI dg 7 q).T.length+pend L met < F+1) :
  ∃ m,revV (F+1) L top met (ZI dg 7 q).T key=some (met++m,Z6 (ZI dg 7 q).S key)∧m.Nodup∧(∀ g∈m,g∈(ZI dg 7 q).A.map dg)∧∀ d∈(ZI dg 7 q).L,dg d∈m:=by
 obtain ⟨hk1,hk2⟩:=hk
 have hkids:=Z45 (dg:=dg) (kind:=7) hT
 have e7:((7:Int)==7)=true:=rfl
 rw [e7] at hkids
 have hA:∀ K∈q.1,∀ a∈K.a true,dg a∉met:=fun K hK a ha=>hm a (List.mem_flatMap.2 ⟨K,hK,ha⟩)
 have hlen:(ZI dg 7 q).T.length=(Z02 (q.1.flatMap (Kd.sd dg true))).flatten.length+(q.1.flatMap (Kd.tm dg true)).flatten.length+1:=by
  show (rowN 7 [] _).length=_
  rw [rowN,e7,List.length_cons,List.flatten_append,List.length_append]
 have hsz:∀ K∈q.1,K.how=0→K.h.T.length < (ZI dg 7 q).T.length:=fun K hK h0=>by
  have:Z6 K.h.T K.key∈q.1.flatMap (Kd.tm dg true):=List.mem_flatMap.2 ⟨K,hK,by unfold Kd.tm;rw [if_pos h0];exact List.mem_singleton_self _⟩
  have:=ZR this
  rw [Z2J] at this
  omega
 have hTpos:1≤(ZI dg 7 q).T.length:=by omega
 obtain ⟨m0,a1,a2,a3,a4⟩:=Z7c (dg:=dg) (L:=L) (F:=F) (top:=top) q.1 met [] (fun K hK h0=>⟨(ht K hK).revs (by omega),by have:=hsz K hK h0;omega,hT K hK,(hk2 K hK).2.1,fun h=>halg h.1 K hK h.2,fun a ha=>hA K hK a (Z0z ha)⟩) hn
 rw [List.nil_append] at a1
 have hrow:Zg (revV F L false) top met [] (Z02 (q.1.flatMap (Kd.sd dg true))++q.1.flatMap (Kd.tm dg true))=some (met++m0,q.1.flatMap (Kd.sh true)):=by
  unfold Z02
  split
  ·exact a1
  ·rw [List.singleton_append,Zg,if_pos (show (Z3 (rowN 6 sdN (q.1.flatMap (Kd.sd dg true)))).key=sdN from rfl)]
   exact a1
 have hfil:(q.1.flatMap (Kd.tm dg true)).filter (fun x=>(Z3 x).key==sdN)=[]:=by
  rw [List.filter_eq_nil_iff]
  intro y hy
  rcases Zb2 hy with ⟨K,hK,-,rfl⟩|⟨h1,-⟩
  ·rw [Z0h (hT K hK)]
   simpa using (hk2 K hK).2.1
  ·cases h1
 have m0A:∀ g∈m0,g∈(ZI dg 7 q).A.map dg:=fun g hg=>by
  obtain ⟨K,hK,-,hg⟩:=a3 g hg
  obtain ⟨z,hz,rfl⟩:=List.mem_map.1 hg
  exact List.mem_map_of_mem (List.mem_flatMap.2 ⟨K,hK,Z0z hz⟩)
 rw [revV]
 simp only
 rw [if_pos (show (Z3 (ZI dg 7 q).T).kind=7 from rfl),Z40 hT (by decide) (fun _ K hK=>(hk2 K hK).2.2)]
 simp only
 rw [hkids,hrow]
 simp only
 by_cases hsd:q.1.flatMap (Kd.sd dg true)=[]
 ·have h0:∀ K∈q.1,K.how=0:=fun K hK=>by
   have:=List.flatMap_eq_nil_iff.1 hsd K hK
   unfold Kd.sd at this
   by_cases h:K.how=0
   ·exact h
   ·rw [if_pos ⟨rfl,h⟩] at this
    cases this
  have hbh:q.1.flatMap (Kd.bh true)=[]:=List.flatMap_eq_nil_iff.2 fun K hK=>by
   unfold Kd.bh
   rw [if_neg (by have:=h0 K hK;omega)]
  have hhid:Z0x (Z02 (q.1.flatMap (Kd.sd dg true))++q.1.flatMap (Kd.tm dg true))=none:=by
   unfold Z0x
   rw [hsd,show Z02 []=[] from rfl,List.nil_append,hfil]
   rfl
  rw [hhid]
  refine ⟨m0,?_,a2,m0A,fun d hd=>?_⟩
  ·simp only [Option.some.injEq,Prod.mk.injEq,true_and]
   show rowN 7 key _=rowN 7 key (q.1.flatMap (Kd.sh true)++q.1.flatMap (Kd.bh true))
   rw [hbh,List.append_nil]
  ·obtain ⟨K,hK,hd⟩:=List.mem_flatMap.1 hd
   rcases ZdR hd with ⟨h1,hd⟩|⟨h1,-⟩
   ·exact a4 K hK h1 d hd
   ·have:=h0 K hK
    omega
 ·have hrw:Z02 (q.1.flatMap (Kd.sd dg true))=[rowN 6 sdN (q.1.flatMap (Kd.sd dg true))]:=if_neg hsd
  have hhid:Z0x (Z02 (q.1.flatMap (Kd.sd dg true))++q.1.flatMap (Kd.tm dg true))=some (rowN 6 sdN (q.1.flatMap (Kd.sd dg true))):=by
   unfold Z0x
   rw [hrw,List.filter_append,hfil]
   rfl
  have hkh:kidsOf (rowN 6 sdN (q.1.flatMap (Kd.sd dg true))) 0=q.1.flatMap (Kd.sd dg true):=Z0n (n:=⟨6,sdN,[],false,0,_⟩) rfl rfl Z8U
  have hnm:∀ K∈q.1,K.how≠0→K.key∉ZX (Z02 (q.1.flatMap (Kd.sd dg true))++q.1.flatMap (Kd.tm dg true)):=fun K hK h0 h=>by
   unfold ZX at h
   obtain ⟨h1,h2⟩:=List.mem_filter.1 h
   obtain ⟨y,hy,ey⟩:=List.mem_map.1 h1
   rcases List.mem_append.1 hy with hy|hy
   ·rw [Z5Y hy] at ey
    rw [←ey] at h2
    exact absurd h2 (by decide)
   ·rcases Zb2 hy with ⟨K',hK',h0',rfl⟩|⟨h3,-⟩
    ·rw [Z0h (hT K' hK')] at ey
     have:=Z0s hk1 K' hK' K hK ey
     subst this
     exact h0 h0'
    ·cases h3
  rw [hhid]
  simp only
  rw [if_pos (show (Z3 (rowN 6 sdN (q.1.flatMap (Kd.sd dg true)))).kind=6 from rfl),hkh]
  have hpm:=ZE L met m0
  obtain ⟨m1,b1,b2,b3,b4⟩:=Z5C (dg:=dg) (L:=L) (F:=F) q.1 (met++m0) (ZX (Z02 (q.1.flatMap (Kd.sd dg true))++q.1.flatMap (Kd.tm dg true))) (q.1.flatMap (Kd.sh true)) ht (by omega) (fun K hK h0=>⟨hnm K hK h0,fun a ha hmem=>by
   rcases List.mem_append.1 hmem with hmem|hmem
   ·exact hA K hK a ha hmem
   ·obtain ⟨K',hK',h0',hg⟩:=a3 _ hmem
    obtain ⟨z,hz,ez⟩:=List.mem_map.1 hg
    have:=Z2P hn hK' hK (Z0z hz) ha ez
    subst this
    exact h0 h0'⟩) hk1 hn
  rw [b1]
  refine ⟨m0++m1,?_,?_,fun g hg=>?_,fun d hd=>?_⟩
  ·simp only [Option.some.injEq,Prod.mk.injEq]
   exact ⟨List.append_assoc ..,rfl⟩
  ·rw [List.nodup_append]
   refine ⟨a2,b2,fun a ha b hb e=>?_⟩
   obtain ⟨K,hK,h0,hg⟩:=a3 a ha
   obtain ⟨z,hz,ez⟩:=List.mem_map.1 hg
   obtain ⟨K',hK',h0',hg'⟩:=b3 b hb
   obtain ⟨z',hz',ez'⟩:=List.mem_map.1 hg'
   have:=Z2P hn hK hK' (Z0z hz) hz' (by rw [ez,ez',e])
   subst this
   exact h0' h0
  ·rcases List.mem_append.1 hg with hg|hg
   ·exact m0A g hg
   ·obtain ⟨K,hK,-,hg⟩:=b3 g hg
    obtain ⟨z,hz,rfl⟩:=List.mem_map.1 hg
    exact List.mem_map_of_mem (List.mem_flatMap.2 ⟨K,hK,hz⟩)
  ·obtain ⟨K,hK,hd⟩:=List.mem_flatMap.1 hd
   rcases ZdR hd with ⟨h1,hd⟩|⟨h1,hd⟩
   ·exact List.mem_append_left _ (a4 K hK h1 d hd)
   ·exact List.mem_append_right _ (b4 K hK h1 d hd)
theorem Zab {F:Nat} {q:List Kd × Nat} (hT:∀ K∈q.1,Fo 1 K.h.T∧memV K.h.T ZJ=none) (hS:∀ K∈q.1,(Z3 K.h.S).key=[]∧Fo 1 K.h.S) (hk:∀ K∈q.1,K.key=[]) (ht:∀ K∈q.1,KTold dg L F false K) (hn:((q.1.flatMap (Kd.a false)).map dg).Nodup)
  {met:List Dg} {key:List UInt8} (hm:∀ a∈(ZI dg 6 q).A,dg a∉met) (hF:(ZI dg 6 q).T.length+pend L met < F+1) :
  ∃ m,revV (F+1) L false met (ZI dg 6 q).T key=some (met++m,Z6 (ZI dg 6 q).S key)∧m.Nodup∧(∀ g∈m,g∈(ZI dg 6 q).A.map dg)∧∀ d∈(ZI dg 6 q).L,dg d∈m:=by
 have e7:((6:Int)==7)=false:=rfl
 have hsd:q.1.flatMap (Kd.sd dg false)=[]:=by
  rw [List.flatMap_eq_nil_iff]
  intro K _
  simp [Kd.sd]
 have hbh:q.1.flatMap (Kd.bh false)=[]:=by
  rw [List.flatMap_eq_nil_iff]
  intro K _
  simp [Kd.bh]
 have hkids:=Z45 (dg:=dg) (kind:=6) fun K hK=>(hT K hK).1
 rw [e7,hsd,show Z02 []=[] from rfl,List.nil_append] at hkids
 have hlen:(ZI dg 6 q).T.length=(q.1.flatMap (Kd.tm dg false)).flatten.length+1:=by
  show (rowN 6 [] _).length=_
  rw [rowN,e7,hsd,show Z02 []=[] from rfl,List.nil_append,List.length_cons]
 have hsz:∀ K∈q.1,K.how=0→K.h.T.length < (ZI dg 6 q).T.length:=fun K hK h0=>by
  have:Z6 K.h.T K.key∈q.1.flatMap (Kd.tm dg false):=List.mem_flatMap.2 ⟨K,hK,by unfold Kd.tm;rw [if_pos h0];exact List.mem_singleton_self _⟩
  have:=ZR this
  rw [Z2J] at this
  omega
 obtain ⟨m,a1,a2,a3,a4⟩:=Z6i (dg:=dg) (L:=L) (F:=F) q.1 met [] (fun K hK=>⟨ht K hK,hk K hK,by
  by_cases h0:K.how=0
  ·have:=hsz K hK h0
   rw [if_pos h0]
   omega
  ·rw [if_neg h0]
   omega,fun _=>hT K hK,(hS K hK).1,(hS K hK).2,fun a ha=>hm a (List.mem_flatMap.2 ⟨K,hK,ha⟩)⟩) (by omega) hn
 rw [List.nil_append] at a1
 refine ⟨m,?_,a2,fun g hg=>?_,fun d hd=>?_⟩
 ·rw [revV]
  simp only
  rw [if_neg (show ¬(Z3 (ZI dg 6 q).T).kind=7 from (by decide:¬((6:Int)=7))),if_pos (show (Z3 (ZI dg 6 q).T).kind=6 from rfl),hkids,a1]
  simp only [Option.some.injEq,Prod.mk.injEq,true_and]
  show rowN 6 key _=rowN 6 key (q.1.flatMap (Kd.sh false)++q.1.flatMap (Kd.bh false))
  rw [hbh,List.append_nil]
 ·obtain ⟨K,hK,hg⟩:=a3 g hg
  obtain ⟨z,hz,rfl⟩:=List.mem_map.1 hg
  exact List.mem_map_of_mem (List.mem_flatMap.2 ⟨K,hK,hz⟩)
 ·obtain ⟨K,hK,hd⟩:=List.mem_flatMap.1 hd
  exact a4 K hK d hd
def Reads (dg:List UInt8→List UInt8) (rd:List UInt8→Option Said):Prop:=∀ {D:Nat} {v:List Nd} {s:Said},VOk D none v→rd (enc urlS (sp v))=some s→Z2i (dg (enc urlS (sp v))) v=some s
theorem Zb1 (hrd:Reads dg rd) (hsalt:∀ n,validD (Z1d n)=true) {kind:Int} {q:List Kd × Nat} {d:Nat} (h:Told dg rd L (ZI dg kind q).L (ZI dg kind q).A) (hsub:∀ K∈q.1,List.Sublist K.h.L K.h.A) (hok:∀ K∈q.1,VOk d none K.h.T∧validD K.key=true∧K.key≠sdN∧K.key≠ZJ)
  {K:Kd} (hK:K∈q.1):(K.how≤1→Told dg rd L K.h.L K.h.A)∧(K.how=1→Z0y L (dg (K.dT (kind==7)))=some ⟨dg (K.dT (kind==7)),if (kind==7)=true then K.key else [],kind==7,K.h.T⟩)∧(1 < K.how→Z0y L (dg (K.dT (kind==7)))=none):=by
 have hn:((q.1.flatMap (Kd.a (kind==7))).map dg).Nodup:=h.once
 have hLof:∀ {b},b∈(ZI dg kind q).L→∀ {a},a∈K.a (kind==7)→dg a=dg b→b∈K.l (kind==7):=fun {b} hb {a} ha e=>by
  obtain ⟨K',hK',hb⟩:=List.mem_flatMap.1 hb
  have:=Z2P hn hK hK' ha ((ZbC (hsub K' hK')).subset hb) e
  subst this
  exact hb
 obtain ⟨o1,o2,o3⟩:=hok K hK
 have hon:=Z6r hn hK
 refine ⟨fun h1=>⟨fun d hd=>h.told d (List.mem_flatMap.2 ⟨K,hK,by unfold Kd.l;rw [if_pos h1];exact List.mem_append_left _ hd⟩),fun a ha hna=>?_,?_⟩,fun h1=>?_,fun h1=>?_⟩
 ·refine h.held a (List.mem_flatMap.2 ⟨K,hK,Z0z ha⟩) fun hmem=>?_
  have hl:=hLof hmem (Z0z ha) rfl
  unfold Kd.l at hl
  rw [if_pos h1] at hl
  rcases List.mem_append.1 hl with hl|hl
  ·exact hna hl
  ·by_cases h2:K.how=1
   ·rw [if_pos h2] at hl
    obtain rfl:=List.mem_singleton.1 hl
    unfold Kd.a at hon
    rw [if_neg (by omega),List.map_append,List.nodup_append] at hon
    exact hon.2.2 _ (List.mem_map_of_mem ha) _ (List.mem_map_of_mem (List.mem_singleton_self _)) rfl
   ·rw [if_neg h2] at hl
    cases hl
 ·unfold Kd.a at hon
  rw [List.map_append,List.nodup_append] at hon
  exact hon.1
 ·obtain ⟨s,s1,s2⟩:=h.told (K.dT (kind==7)) (List.mem_flatMap.2 ⟨K,hK,by unfold Kd.l;rw [if_pos h1];exact List.mem_append_right _ (List.mem_singleton_self _)⟩)
  have:=hrd (Zc8 (obj:=kind==7) hsalt o1 o2) s1
  rw [s2,←this]
  exact Z9D o1.fo o3
 ·refine h.held _ (List.mem_flatMap.2 ⟨K,hK,Z50 (by omega)⟩) fun hmem=>?_
  have hl:=hLof hmem (Z50 (by omega)) rfl
  unfold Kd.l at hl
  rw [if_neg (by omega),if_neg (by omega)] at hl
  cases hl
theorem Za5 {pk:Nat→Nat} (hd:∀ t,validD (dg t)=true):∀ {f:Nat} {x:List Nd} {d n:Nat} {nm:Option (List (List UInt8))},VOk d nm x→Bare x→x.length≤f→memV (Z7 dg pk f x n).T ZJ=none
 | 0,x,d,n,nm,hv,_,hf=>by have:=hv.fo.pos;omega
 | f+1,x,d,n,nm,hv,hb,hf=>by
  obtain ⟨h1,-,-,-,-,-,-,h4⟩:=hv.open_
  rw [Z7]
  by_cases hr:ZF (Z3 x)
  ·rw [if_pos hr]
   obtain ⟨k1,k2⟩:=Z2L hv hb (Z1h (pk:=pk) (rec_:=Z7 dg pk f) (kidsOf x 0) n)
   refine Z40 (fun K hK=>?_) (by decide) (fun h7 K hK=>((k1 h7).2 K hK).2.2)
   obtain ⟨hy,m,e,-⟩:=ZN hK
   obtain ⟨nm',v1,-⟩:=Z0f h4 _ hy
   have hlt:=Z1O (n:=Z3 x) hy
   rw [←h1] at hlt
   rw [e]
   exact (Z0i hd pk f v1 (Z0C hv.fo hb hy) (by omega)).1.fo
  ·rw [if_neg hr,Z34 hv.fo]
   exact ZaM hv.fo hb
theorem Z6m {pk:Nat→Nat} (hrd:Reads dg rd) (hsalt:∀ n,validD (Z1d n)=true) (hd:∀ t,validD (dg t)=true):∀ (f:Nat) {x:List Nd} {d n:Nat} {nm:Option (List (List UInt8))},VOk d nm x→Bare x→x.length≤f →
  Told dg rd L (Z7 dg pk f x n).L (Z7 dg pk f x n).A→∀ F,ZaU dg L F (Z7 dg pk f x n)∧((Z3 x).kind=7→∀ top:Bool,(top=true→memV x algN=none)→(Z7 dg pk f x n).T.length+pend L [] < F→∃ m,revV F L top [] (Z7 dg pk f x n).T []=some (m,Z6 (Z7 dg pk f x n).S [])∧m.Nodup∧(∀ d∈(Z7 dg pk f x n).L,dg d∈m))
 | 0,x,d,n,nm,hv,_,hf,_,F=>by have:=hv.fo.pos;omega
 | f+1,x,d,n,nm,hv,hb,hf,ht,F=>by
  obtain ⟨h1,h2,-,-,-,h8,h3,h4⟩:=hv.open_
  rw [Z7] at ht ⊢
  by_cases hr:ZF (Z3 x)
  ·rw [if_pos hr] at ht ⊢
   have h0:=h8 hr
   obtain ⟨e,rfl⟩:∃ e,d=e+1:=⟨d - 1,by omega⟩
   obtain ⟨k1,k2⟩:=Z2L hv hb (Z1h (pk:=pk) (rec_:=Z7 dg pk f) (kidsOf x 0) n)
   have hmemK:=fun {K} (hK:K∈(ZW pk (Z7 dg pk f) (kidsOf x 0) n).1)=>ZN hK
   generalize ZW pk (Z7 dg pk f) (kidsOf x 0) n=q at *
   have each:∀ K∈q.1,∃ m,K.h=Z7 dg pk f K.y (m+1)∧K.y∈kidsOf x 0∧(∃ nm',VOk e nm' K.y)∧Bare K.y∧K.y.length≤f:=fun K hK=>by
    obtain ⟨hy,m,hm,-⟩:=hmemK hK
    obtain ⟨nm',v1,-⟩:=Z0f h4 _ hy
    have hlt:=Z1O (n:=Z3 x) hy
    rw [←h1] at hlt
    exact ⟨m,hm,hy,⟨nm',v1⟩,Z0C hv.fo hb hy,by omega⟩
   have ok:∀ K∈q.1,VOk (e+2) none K.h.T∧VOk e none K.h.S∧memV K.h.T ZJ=none:=fun K hK=>by
    obtain ⟨m,e1,-,⟨nm',v1⟩,b1,l1⟩:=each K hK
    rw [e1]
    obtain ⟨o1,o2⟩:=Z0i hd pk f (n:=m+1) v1 b1 l1
    exact ⟨o1,o2,Za5 hd v1 b1 l1⟩
   have keyok:∀ K∈q.1,validD K.key=true∧K.key≠sdN∧K.key≠ZJ:=fun K hK=>by
    by_cases h7:(Z3 x).kind=7
    ·exact (k1 h7).2 K hK
    ·rw [k2 h7 K hK]
     decide
   have kt:∀ K∈q.1,∀ F,KTold dg L F ((Z3 x).kind==7) K:=fun K hK F=>by
    obtain ⟨m,e1,-,⟨nm',v1⟩,b1,l1⟩:=each K hK
    obtain ⟨t1,t2,t3⟩:=Zb1 hrd hsalt ht (fun K hK=>by
     obtain ⟨m,e1,-⟩:=each K hK
     rw [e1]
     exact Z0X pk f _ _) (fun K hK=>⟨(ok K hK).1,keyok K hK⟩) hK
    refine ⟨fun hw=>?_,t2,t3⟩
    have:=t1 hw
    rw [e1] at this ⊢
    exact (Z6m hrd hsalt hd f v1 b1 l1 this F).1
   have hn:((q.1.flatMap (Kd.a ((Z3 x).kind==7))).map dg).Nodup:=ht.once
   rcases hr with h6|h7
   ·have k2':=k2 (by rw [h6];decide)
    have kt2:∀ K∈q.1,∀ F,KTold dg L F false K:=fun K hK F=>by
     have:=kt K hK F
     rw [h6] at this
     exact this
    rw [h6] at hn ⊢
    refine ⟨fun met key hm hF=>?_,fun h=>absurd h (by decide)⟩
    cases F with
    | zero=>omega
    | succ F=>exact Zab (fun K hK=>⟨(ok K hK).1.fo,(ok K hK).2.2⟩) (fun K hK=>⟨(ok K hK).2.1.open_.2.2.2.1 rfl,(ok K hK).2.1.fo⟩) k2' (fun K hK=>kt2 K hK F) hn hm hF
   ·have hnokeys:memV x algN=none→∀ K∈q.1,K.key≠algN:=fun ha K hK=>by
     obtain ⟨m,e1,hy,-⟩:=each K hK
     unfold memV at ha
     rw [if_pos h7,List.find?_eq_none] at ha
     show (Z3 K.y).key≠algN
     simpa using ha K.y hy
    have k1':=k1 h7
    have kt2:∀ K∈q.1,∀ F,KTold dg L F true K:=fun K hK F=>by
     have:=kt K hK F
     rw [h7] at this
     exact this
    rw [h7] at hn ⊢
    refine ⟨fun met key hm hF=>?_,fun _ top htop hF=>?_⟩
    ·cases F with
     | zero=>omega
     | succ F=>exact Z3X (fun K hK=>(ok K hK).1.fo) k1' (fun h=>by cases h) (fun K hK=>kt2 K hK F) hn hm hF
    ·cases F with
     | zero=>omega
     | succ F =>
      obtain ⟨m,m1,m2,-,m4⟩:=Z3X (dg:=dg) (top:=top) (met:=[]) (key:=[]) (fun K hK=>(ok K hK).1.fo) k1' (fun h=>hnokeys (htop h)) (fun K hK=>kt2 K hK F) hn (fun a _ h=>by cases h) hF
      exact ⟨m,by simpa using m1,m2,m4⟩
  ·rw [if_neg hr]
   refine ⟨fun met key _ hF=>?_,fun h=>absurd (.inr h) hr⟩
   have hz:kidsOf x 0=[]:=List.eq_nil_of_length_eq_zero (by have:=(Z1f h2 hr).1;omega)
   rw [hz] at h1
   cases F with
   | zero=>omega
   | succ F =>
    refine ⟨[],?_,List.nodup_nil,fun g hg=>(by cases hg),fun d hd=>(by cases hd)⟩
    unfold ZF at hr
    have hr:=not_or.1 hr
    rw [Z3O hv.fo,revV]
    simp only
    rw [if_neg hr.2,if_neg hr.1,List.append_nil,Z3Z]
    conv=>rhs;rw [h1]
    rfl
theorem Z6W {pk:Nat→Nat} (hrd:Reads dg rd) (hsalt:∀ n,validD (Z1d n)=true) (hd:∀ t,validD (dg t)=true) {x:List Nd} {d:Nat} (hv:VOk d none x) (hb:Bare x) (hk:(Z3 x).kind=7) (halg:memV x algN=none)
  (hT:ZG validD (Z7 dg pk x.length x 0).T=true) (hS:ZG validD (Z7 dg pk x.length x 0).S=true) {ts:List (List UInt8)} (hts:ts.Perm (Z7 dg pk x.length x 0).L) (hr:∀ d∈(Z7 dg pk x.length x 0).L,∃ s,rd d=some s∧s.dig=dg d)
  (hn:((Z7 dg pk x.length x 0).A.map dg).Nodup):Z31 validD rd (Z7 dg pk x.length x 0).T ts=(0,(Z7 dg pk x.length x 0).S):=by
 have hsub:=Z0X (dg:=dg) pk x.length x 0
 obtain ⟨ok1,ok2⟩:=Z0i (dg:=dg) hd pk x.length (n:=0) hv hb (Nat.le_refl _)
 have hrow:Z7 dg pk x.length x 0=ZI dg 7 (ZW pk (Z7 dg pk (x.length - 1)) (kidsOf x 0) 0):=by
  obtain ⟨e,he⟩:∃ e,x.length=e+1:=⟨x.length - 1,by have:=hv.fo.pos;omega⟩
  rw [he,Z7,if_pos (.inr hk),hk]
  rfl
 have hkT:(Z3 (Z7 dg pk x.length x 0).T).kind=7:=by rw [hrow];rfl
 have hmalg:memV (Z7 dg pk x.length x 0).T algN=none:=by
  obtain ⟨h1,-,-,-,-,-,-,h4⟩:=hv.open_
  rw [hrow]
  refine Z40 (fun K hK=>?_) (by decide) (fun _ K hK=>?_)
  ·obtain ⟨hy,m,e,-⟩:=ZN hK
   obtain ⟨nm',v1,-⟩:=Z0f h4 _ hy
   have hlt:=Z1O (n:=Z3 x) hy
   rw [←h1] at hlt
   rw [e]
   exact (Z0i hd pk _ v1 (Z0C hv.fo hb hy) (by omega)).1.fo
  ·obtain ⟨hy,-⟩:=ZN hK
   unfold memV at halg
   rw [if_pos hk,List.find?_eq_none] at halg
   show (Z3 K.y).key≠algN
   simpa using halg K.y hy
 have hrev:=fun L ht F=>(Z6m (L:=L) (pk:=pk) (n:=0) hrd hsalt hd x.length hv hb (Nat.le_refl _) ht F).2 hk true (fun _=>halg)
 generalize Z7 dg pk x.length x 0=h at *
 have hall:∀ l:List (List UInt8),(∀ d∈l,d∈h.L)→∃ L0,allO rd l=some L0∧L0.map (·.dig)=l.map dg∧(∀ d∈l,∃ s∈L0,rd d=some s∧s.dig=dg d):=fun l=>by
  induction l with
  | nil=>exact fun _=>⟨[],rfl,rfl,fun d hd=>by cases hd⟩
  | cons d l ih =>
   intro hl
   obtain ⟨L0,i1,i2,i3⟩:=ih fun d hd=>hl d (List.mem_cons_of_mem _ hd)
   obtain ⟨s,s1,s2⟩:=hr d (hl d (List.mem_cons_self ..))
   refine ⟨s::L0,by unfold allO;rw [s1,i1],by rw [List.map_cons,List.map_cons,i2,s2],fun d' hd'=>?_⟩
   rcases List.mem_cons.1 hd' with rfl|hd'
   ·exact ⟨s,List.mem_cons_self ..,s1,s2⟩
   ·obtain ⟨s',p1,p2⟩:=i3 d' hd'
    exact ⟨s',List.mem_cons_of_mem _ p1,p2⟩
 obtain ⟨L0,a1,a2,a3⟩:=hall ts fun d hd=>(hts.mem_iff).1 hd
 have hnL:(L0.map (·.dig)).Nodup:=by
  rw [a2]
  exact ((hts.map dg).nodup_iff).2 (List.Sublist.nodup (hsub.map dg) hn)
 have hfind:∀ s∈L0,Z0y L0 s.dig=some s:=fun s hs=>by
  unfold Z0y
  cases hf:L0.find? (fun t=>t.dig==s.dig) with
  | none=>exact absurd (List.find?_eq_none.1 hf s hs) (by simp)
  | some t =>
   have h1:=List.mem_of_find?_eq_some hf
   have h2:=List.find?_some hf
   have:=Z0s hnL t h1 s hs (by simpa using h2)
   rw [this]
 have ht:Told dg rd L0 h.L h.A:=⟨fun d hd=>by
  obtain ⟨s,s1,s2,s3⟩:=a3 d ((hts.mem_iff).2 hd)
  exact ⟨s,s2,by rw [←s3];exact hfind s s1⟩,fun a ha hna=>by
  unfold Z0y
  rw [List.find?_eq_none]
  intro s hs he
  have he:s.dig=dg a:=by simpa using he
  have hm:s.dig∈L0.map (·.dig):=List.mem_map_of_mem hs
  rw [a2] at hm
  obtain ⟨b,hb',eb⟩:=List.mem_map.1 hm
  have hbL:=(hts.mem_iff).1 hb'
  have:=Z0s hn b (hsub.subset hbL) a ha (by rw [eb,he])
  subst this
  exact hna hbL,hn⟩
 obtain ⟨m,m1,m2,m3⟩:=hrev L0 ht (h.T.length+pend L0 []+1) (by omega)
 have hSn:Z6 h.S []=h.S:=Z27 ok2.fo (ok2.open_.2.2.2.1 rfl)
 rw [hSn] at m1
 unfold Z31
 rw [if_neg (by rw [hT,hkT];simp),if_neg (by unfold Z1k;rw [hmalg];simp),a1]
 simp only
 rw [if_neg (by unfold dupL;simp [hnL]),m1]
 simp only
 rw [if_neg,if_neg (by rw [hS];simp)]
 rintro (h1|⟨s,hs,h2⟩)
 ·unfold dupL at h1
  simp [m2] at h1
 ·refine h2 ?_
  have hm:s.dig∈L0.map (·.dig):=List.mem_map_of_mem hs
  rw [a2] at hm
  obtain ⟨b,hb',eb⟩:=List.mem_map.1 hm
  rw [←eb]
  exact m3 b ((hts.mem_iff).1 hb')
end
end Sg
/- How much text a value that has been read has; plain. -/
namespace Sg
def sumT:List Nd→Nat
 | []=>0
 | n::r=>n.text.length+n.key.length+sumT r
theorem Z3o:∀ a b:List Nd,sumT (a++b)=sumT a+sumT b
 | [],b=>by simp [sumT]
 | n::a,b=>by
  rw [List.cons_append,sumT,sumT,Z3o a b]
  omega
theorem Z8t (l:List Nd) (k:List UInt8):sumT (Z6 l k)≤sumT l+k.length:=by
 cases l with
 | nil=>exact Nat.zero_le _
 | cons n r =>
  show n.text.length+k.length+sumT r≤n.text.length+n.key.length+sumT r+k.length
  omega
theorem Z5w {t:List UInt8} {low:Bool} {fr:Nat}:∀ {k p u a v:Nat},Z01 t low fr k p u=.ok a v→a=p+k
 | 0,p,u,a,v,h=>by rw [Z01] at h;cases h;rfl
 | k+1,p,u,a,v,h=>by
  rw [Z01] at h
  split at h
  ·cases h
  ·split at h
   ·cases h
   ·split at h
    ·cases h
    ·have:=Z5w h
     omega
theorem Z7B {t:List UInt8} {fr p a:Nat} {c:UInt8} {u:Unit} (h:Z2C t fr p c=.ok a u):a=p+1:=by
 unfold Z2C at h
 split at h
 ·cases h
 ·split at h
  ·cases h;rfl
  ·cases h
theorem ZbT {c:UInt8} {u:Nat} (h:escS c=some u):u < 128:=by
 unfold escS at h
 repeat' split at h
 all_goals (cases h<;>decide)
theorem ZdV {t:List UInt8} {p a u:Nat} (h:escX t p=.ok a u):(utfL u).length+p≤a:=by
 have h4:=Z9m u
 unfold escX at h
 split at h
 ·cases h
 ·split at h
  ·unfold Z1M at h
   obtain ⟨b,hi,h1,h⟩:=Zd h
   have:=Z5w h1
   split at h
   ·cases h
    omega
   ·obtain ⟨c,_,h2,h⟩:=Zd h
    obtain ⟨d,_,h3,h⟩:=Zd h
    obtain ⟨e,lo,h5,h⟩:=Zd h
    cases h
    have:=Z7B h2
    have:=Z7B h3
    have:=Z5w h5
    omega
  ·split at h
   ·rename_i hs
    cases h
    have:=ZbT hs
    unfold utfL
    rw [if_pos (by omega),List.length_singleton]
    omega
   ·cases h
theorem Z3S {t:List UInt8}:∀ {f p a:Nat} {acc s:List UInt8},ZD t f p acc=.ok a s→s.length+p+1≤acc.length+a
 | 0,p,a,acc,s,h=>by rw [ZD] at h;cases h
 | f+1,p,a,acc,s,h=>by
  rw [ZD] at h
  split at h
  ·cases h
  ·rename_i c hc
   have hlt:p < t.length:=(List.getElem?_eq_some_iff.1 hc).1
   split at h
   ·cases h
   ·split at h
    ·cases h
     omega
    ·split at h
     ·obtain ⟨b,u,h1,h2⟩:=Zd h
      have:=ZdV h1
      have:=Z3S h2
      rw [List.length_append] at this
      omega
     ·split at h
      ·have:=Z3S h
       rw [List.length_append,List.length_singleton] at this
       omega
      ·obtain ⟨b,u,h1,h2⟩:=Zd h
       have hb:=(Z0E hlt b u h1).1
       have:=Z3S h2
       rw [List.length_append,List.length_take] at this
       omega
theorem Zat {wh:List UInt8→Int × Bool} {t:List UInt8} {p a:Nat} {c:UInt8} {l:List Nd} (hp:p < t.length) (h:ZT wh t p c=.ok a l):sumT l+p≤a:=by
 have hf:=Z0H hp a l h
 unfold ZT at h
 split at h
 ·obtain ⟨b,s,h1,h⟩:=Zd h
  cases h
  have:=Z3S h1
  rw [List.length_nil] at this
  show s.length+0+0+p≤a
  omega
 ·split at h
  ·obtain ⟨b,s,h1,h⟩:=Zd h
   cases h
   have:(sl t p a).length≤a - p:=by unfold sl;rw [List.length_take];omega
   show (sl t p a).length+0+0+p≤a
   omega
  ·have z:∀ k:Int,sumT [nd k]=0:=fun k=>rfl
   repeat' split at h
   all_goals first
    | (obtain ⟨b,s,h1,h⟩:=Zd h;cases h;rw [z];omega)
    | cases h
theorem Zak {val:Nat→Gt (List Nd)} {t:List UInt8} (hv:∀ {p a l},val p=.ok a l→sumT l+p≤a) {obj:Bool} {p a:Nat} {names:List (List UInt8)} {g:List Nd × List UInt8} (h:Z0M val t obj p names=.ok a g):sumT g.1+p≤a:=by
 unfold Z0M at h
 split at h
 ·split at h
  ·obtain ⟨b,s,h1,h⟩:=Zd h
   have h2:=Z3S h1
   rw [List.length_nil] at h2
   split at h
   ·cases h
   ·split at h
    ·have h3:=Zm t b
     have h4:=Zm t (Z4 t b+1)
     obtain ⟨d,v,h5,h⟩:=Zd h
     cases h
     have h6:=hv h5
     have:=Z8t v s
     show sumT (Z6 v s)+p≤a
     omega
    ·cases h
  ·cases h
 ·obtain ⟨d,v,h1,h⟩:=Zd h
  cases h
  exact hv h1
theorem Z7E {val:Nat→Gt (List Nd)} {t:List UInt8} (hv:∀ {p a l},val p=.ok a l→sumT l+p≤a) {obj:Bool}:∀ {f p a:Nat} {names:List (List UInt8)} {hd:Nd} {out l:List Nd},rowX val t obj f p names hd out=.ok a l→sumT l+p≤sumT (hd::out)+a
 | 0,p,a,names,hd,out,l,h=>by rw [rowX] at h;cases h
 | f+1,p,a,names,hd,out,l,h=>by
  rw [rowX] at h
  obtain ⟨b,g,h1,h⟩:=Zd h
  have h2:=Zak hv h1
  have hm:sumT (hd.more::(out++g.1))=sumT (hd::out)+sumT g.1:=by
   show hd.text.length+hd.key.length+sumT (out++g.1)=hd.text.length+hd.key.length+sumT out+sumT g.1
   rw [Z3o]
   omega
  have hb:=Zm t b
  unfold rowE at h
  split at h
  ·cases h
   rw [hm]
   omega
  ·split at h
   ·have h3:=Zm t (Z4 t b+1)
    have:=Z7E hv h
    rw [hm] at this
    omega
   ·cases h
theorem ZaX {wh:List UInt8→Int × Bool} {t:List UInt8}:∀ {d p a:Nat} {l:List Nd},valX wh t d p=.ok a l→sumT l+p≤a:=by
 have z:∀ k:Int,sumT [nd k]=0:=fun k=>rfl
 intro d
 induction d with
 | zero =>
  intro p a l h
  rw [valX] at h
  split at h
  ·cases h
  ·rename_i hc
   split at h
   ·cases h
   ·exact Zat (List.getElem?_eq_some_iff.1 hc).1 h
 | succ d ih =>
  intro p a l h
  rw [valX] at h
  split at h
  ·cases h
  ·rename_i c hc
   split at h
   ·have h':(if atB t (Z4 t (p+1)) (ZB (decide (c=123)))=true then Gt.ok (Z4 t (p+1)+1) [nd (if c=123 then 7 else 6)] else rowX (valX wh t d) t (decide (c=123)) (t.length+1) (Z4 t (p+1)) [] (nd (if c=123 then 7 else 6)) [])=Gt.ok a l:=h
    have h3:=Zm t (p+1)
    split at h'
    ·cases h'
     rw [z]
     omega
    ·have:=Z7E ih h'
     rw [z] at this
     omega
   ·exact Zat (List.getElem?_eq_some_iff.1 hc).1 h
theorem Z4S {wh:List UInt8→Int × Bool} {t:List UInt8} {a:Nat} {l:List Nd} (h:Zy wh t=.ok a l):sumT l≤t.length:=by
 unfold Zy at h
 split at h
 ·cases h
 ·obtain ⟨b,v,hv,h⟩:=Zd h
  have h1:=ZaX hv
  have h2:=(Z7v (Zw (Nat.zero_le _)) hv).2.1
  split at h
  ·cases h
  ·cases h
   omega
end Sg
/- How long what is made can be; plain. -/
namespace Sg
open Go.Lib
def W3:List Nd→Nat
 | []=>0
 | n::r=>24*(n.text.length+n.key.length)+500+W3 r
theorem Zcq:∀ a b:List Nd,W3 (a++b)=W3 a+W3 b
 | [],b=>by simp [W3]
 | n::a,b=>by
  rw [List.cons_append,W3,W3,Zcq a b]
  omega
theorem ZaT (l:List Nd):W3 l=24*sumT l+500*l.length:=by
 induction l with
 | nil=>rfl
 | cons n r ih =>
  rw [W3,sumT,ih,List.length_cons]
  omega
theorem Z9f (l:List Nd):wL l=6*sumT l+20*l.length:=by
 induction l with
 | nil=>rfl
 | cons n r ih =>
  rw [wL,sumT,ih,List.length_cons,wN]
  omega
def lenA (l:List (List UInt8)):Nat:=(l.map List.length).sum
theorem Z3t (a b:List (List UInt8)):lenA (a++b)=lenA a+lenA b:=by simp [lenA]
theorem Z6f (l:List (List UInt8)):(Zk l).length≤lenA l+l.length:=by
 have key:∀ l:List (List UInt8),(l.flatMap (44::·)).length=lenA l+l.length:=fun l=>by
  induction l with
  | nil=>rfl
  | cons x r ih =>
   rw [List.flatMap_cons,List.length_append,List.length_cons,ih]
   show _=(x::r |>.map List.length).sum+_
   rw [List.map_cons,List.sum_cons,List.length_cons]
   unfold lenA
   omega
 cases l with
 | nil=>exact Nat.zero_le _
 | cons x r =>
  rw [Zk,List.length_append,key]
  show _≤(x::r |>.map List.length).sum+_
  rw [List.map_cons,List.sum_cons,List.length_cons]
  unfold lenA
  omega
theorem Z5f {kind:Int} {ys:List (List Nd)} (hk:kind=6∨kind=7) (hf:∀ y∈ys,Fo 1 y) (key:List UInt8):(sp (rowN kind key ys)).length=2+(Zk (ys.map (itS (kind=7)))).length:=by
 unfold rowN
 rw [Z1b (n:=⟨kind,key,[],false,0,ys.length⟩) rfl hf hk]
 simp
 omega
theorem Z13 (s:List UInt8):sp (strV s)=quoS s:=Z2X (n:={ nd 5 with text:=s }) ⟨(by decide:(1:Int)≤5),(by decide:(5:Int)≤5)⟩
theorem Z4h (s:List UInt8):Fo 1 (strV s):=Fo.one (m:=0) rfl .nil
theorem Z0d {x:List Nd} (h:Fo 1 x) (k:List UInt8):sp (Z6 x k)=sp x:=by
 unfold sp
 rw [Z2J]
 obtain ⟨n,m,a,rfl,h1,h2⟩:=h.one_inv
 rfl
theorem Zd7 {obj:Prop} [Decidable obj] {x:List Nd}:(itS obj x).length≤6*(Z3 x).key.length+3+(sp x).length:=by
 have:=Z07 (Z3 x).key
 unfold itS
 split
 ·simp only [List.length_append,List.length_singleton];omega
 ·simp only [List.length_append,List.length_nil];omega
theorem Z9N {s:List UInt8} (h:∀ c∈s,48≤c.toNat∧c.toNat < 128∧c.toNat≠92):s.flatMap qB=s∧validD s=true:=by
 induction s with
 | nil=>exact ⟨rfl,rfl⟩
 | cons c r ih =>
  obtain ⟨h1,h2,h3⟩:=h c (List.mem_cons_self ..)
  obtain ⟨i1,i2⟩:=ih fun d hd=>h d (List.mem_cons_of_mem _ hd)
  have e:qB c=[c]:=by
   unfold qB
   rw [if_neg (by omega),if_neg (by omega),if_neg (by omega),if_neg (by omega),if_neg (by omega),if_neg (by omega),if_neg (by omega)]
  rw [List.flatMap_cons,i1,e,validD_cons _ _ h2]
  exact ⟨rfl,i2⟩
theorem Z8O (n:Nat):∀ c∈itoa (n:Int),48≤c.toNat∧c.toNat < 128∧c.toNat≠92:=by
 rw [itoa_nonneg]
 induction n using Nat.strongRecOn with
 | _ u ih =>
  intro c hc
  rw [decDigits] at hc
  split at hc
  ·obtain rfl:=List.mem_singleton.1 hc
   rw [UInt8.toNat_ofNat']
   omega
  ·rcases List.mem_append.1 hc with hc|hc
   ·exact ih (u / 10) (by omega) c hc
   ·obtain rfl:=List.mem_singleton.1 hc
    rw [UInt8.toNat_ofNat']
    omega
theorem Z1c (n:Nat):quoS (Z1d n)=34::(Z1d n++[34])∧validD (Z1d n)=true:=by
 obtain ⟨h1,h2⟩:=Z9N (Z8O n)
 unfold quoS Z1d
 rw [List.flatMap_append,h1]
 refine ⟨rfl,?_⟩
 rw [List.cons_append,validD_cons _ _ (by decide),List.cons_append,validD_cons _ _ (by decide),List.cons_append,validD_cons _ _ (by decide),List.cons_append,validD_cons _ _ (by decide),List.cons_append,validD_cons _ _ (by decide)]
 exact h2
theorem Zbd {n:Nat} (h:n≤9223372036854775807):(quoS (Z1d n)).length≤28:=by
 rw [(Z1c n).1]
 have:=itoa_length_le (n:Int) (by omega) (by omega)
 unfold Z1d
 simp only [List.length_cons,List.length_append,List.length_nil]
 omega
section
variable {dg:List UInt8→List UInt8} {pk:Nat→Nat}
theorem ZaH {obj:Bool} {K:Kd} (hT:Fo 1 K.h.T) (hn:K.h.n≤9223372036854775807):3*(K.dT obj).length≤4*(sp K.h.T).length+24*K.key.length+180:=by
 have h1:=Zbd hn
 have h2:=Z07 K.key
 have fs:∀ s,Fo 1 (strV s):=fun s=>Fo.one (m:=0) rfl .nil
 have h3:(sp (K.dv obj)).length≤(sp K.h.T).length+6*K.key.length+40:=by
  unfold Kd.dv
  rw [Z5f (.inl rfl)]
  ·have hi:∀ x,itS ((6:Int)=7) x=sp x:=fun x=>by unfold itS;rw [if_neg (by decide)];rfl
   cases obj with
   | true =>
    simp only [if_true,List.map_cons,List.map_append,List.map_nil,List.cons_append,List.nil_append,hi,Zk,List.flatMap_cons,List.flatMap_nil,List.append_nil,List.length_append,List.length_cons,Z13]
    omega
   | false =>
    simp only [Bool.false_eq_true,if_false,List.map_cons,List.map_append,List.map_nil,List.cons_append,List.nil_append,hi,Zk,List.flatMap_cons,List.flatMap_nil,List.append_nil,List.length_append,List.length_cons,Z13]
    omega
  ·intro y hy
   cases obj with
   | true =>
    rw [if_pos rfl] at hy
    rcases List.mem_cons.1 hy with rfl|hy
    ·exact fs _
    ·rcases List.mem_cons.1 hy with rfl|hy
     ·exact fs _
     ·obtain rfl:=List.mem_singleton.1 hy
      exact hT
   | false =>
    rw [if_neg (by simp)] at hy
    rcases List.mem_cons.1 hy with rfl|hy
    ·exact fs _
    ·obtain rfl:=List.mem_singleton.1 hy
     exact hT
 unfold Kd.dT
 rw [Z5A]
 unfold Z0e
 omega
def Kd.cost (K:Kd):Nat:=4*(sp K.h.T).length+3*lenA K.h.A+24*K.key.length+400
theorem Zad {α:Type} (g:α→List (List UInt8)) (l:List α):lenA (l.flatMap g)=(l.map fun K=>lenA (g K)).sum:=by
 induction l with
 | nil=>rfl
 | cons K r ih=>rw [List.flatMap_cons,Z3t,ih,List.map_cons,List.sum_cons]
theorem Z3G {α:Type} {f g:α→Nat}:∀ {l:List α},(∀ K∈l,f K≤g K)→(l.map f).sum≤(l.map g).sum
 | [],_=>Nat.le_refl _
 | K::r,h=>by
  have h1:=h K (List.mem_cons_self ..)
  have h2:=Z3G fun K' hK'=>h K' (List.mem_cons_of_mem _ hK')
  rw [List.map_cons,List.map_cons,List.sum_cons,List.sum_cons]
  omega
theorem Z2W {α:Type} (f g:α→Nat):∀ l:List α,(l.map fun K=>f K+g K).sum=(l.map f).sum+(l.map g).sum
 | []=>rfl
 | K::r=>by
  have:=Z2W f g r
  simp only [List.map_cons,List.sum_cons]
  omega
theorem Z2V {α:Type} (f:α→Nat) (c:Nat):∀ l:List α,(l.map fun K=>c*f K).sum=c*(l.map f).sum
 | []=>rfl
 | K::r=>by
  have:=Z2V f c r
  simp only [List.map_cons,List.sum_cons,this,Nat.mul_add]
theorem Zde {s:List UInt8} (hs:(quoS s).length=45):(sp (dotV s)).length=53:=by
 have f1:∀ y∈[Z6 (strV s) ZJ],Fo 1 y:=fun y hy=>by
  obtain rfl:=List.mem_singleton.1 hy
  exact Fo.one (m:=0) rfl .nil
 unfold dotV
 rw [Z5f (.inr rfl) f1]
 have:(itS ((7:Int)=7) (Z6 (strV s) ZJ)).length=51:=by
  unfold itS
  rw [if_pos rfl,Z0d (Z4h s),Z13]
  simp only [List.length_append,hs]
  rfl
 show 2+(Zk [itS ((7:Int)=7) (Z6 (strV s) ZJ)]).length=53
 rw [Zk,List.flatMap_nil,List.append_nil,this]
def Kd.tx (dg:List UInt8→List UInt8) (kind:Int) (K:Kd):Nat:=lenA ((K.tm dg (kind==7)).map (itS (kind=7)))+(K.tm dg (kind==7)).length
def Kd.sx (dg:List UInt8→List UInt8) (kind:Int) (K:Kd):Nat:=46*(K.sd dg (kind==7)).length
theorem Z8Q (hd:∀ t,(quoS (dg t)).length=45) {kind:Int} (hk:kind=6∨kind=7) {q:List Kd × Nat} (hT:∀ K∈q.1,Fo 1 K.h.T) (hn:∀ K∈q.1,K.h.n≤9223372036854775807) :
  4*(sp (ZI dg kind q).T).length+3*lenA (ZI dg kind q).A≤70+(q.1.map Kd.cost).sum:=by
 have hA:lenA (ZI dg kind q).A=(q.1.map fun K=>lenA (K.a (kind==7))).sum:=Zad _ _
 have hfo:∀ y∈Z02 (q.1.flatMap (Kd.sd dg (kind==7)))++q.1.flatMap (Kd.tm dg (kind==7)),Fo 1 y:=fun y hy=>(List.mem_append.1 hy).elim (Z5x Z8U y) (ZbJ hT y)
 have hsp:(sp (ZI dg kind q).T).length=2+(Zk ((Z02 (q.1.flatMap (Kd.sd dg (kind==7)))++q.1.flatMap (Kd.tm dg (kind==7))).map (itS (kind=7)))).length:=Z5f hk hfo []
 have h1:(Zk ((Z02 (q.1.flatMap (Kd.sd dg (kind==7)))++q.1.flatMap (Kd.tm dg (kind==7))).map (itS (kind=7)))).length≤12+((q.1.map (Kd.sx dg kind)).sum+(q.1.map (Kd.tx dg kind)).sum):=by
  have e1:=Z6f ((Z02 (q.1.flatMap (Kd.sd dg (kind==7)))++q.1.flatMap (Kd.tm dg (kind==7))).map (itS (kind=7)))
  rw [List.map_append,Z3t,List.length_append,List.length_map,List.length_map] at e1
  rw [List.map_append]
  have e2:∀ l:List Kd,lenA ((l.flatMap (Kd.tm dg (kind==7))).map (itS (kind=7)))+(l.flatMap (Kd.tm dg (kind==7))).length=(l.map (Kd.tx dg kind)).sum:=fun l=>by
   induction l with
   | nil=>rfl
   | cons K r ih =>
    have:K.tx dg kind=lenA ((K.tm dg (kind==7)).map (itS (kind=7)))+(K.tm dg (kind==7)).length:=rfl
    rw [List.flatMap_cons,List.map_append,Z3t,List.length_append,List.map_cons,List.sum_cons,←ih]
    omega
  have e3:∀ l:List Kd,46*(l.flatMap (Kd.sd dg (kind==7))).length=(l.map (Kd.sx dg kind)).sum:=fun l=>by
   induction l with
   | nil=>rfl
   | cons K r ih =>
    rw [List.flatMap_cons,List.length_append,List.map_cons,List.sum_cons,←ih,Nat.mul_add]
    rfl
  have e4:lenA ((Z02 (q.1.flatMap (Kd.sd dg (kind==7)))).map (itS (kind=7)))+(Z02 (q.1.flatMap (Kd.sd dg (kind==7)))).length≤12+46*(q.1.flatMap (Kd.sd dg (kind==7))).length:=by
   have e5:∀ y∈q.1.flatMap (Kd.sd dg (kind==7)),(sp y).length=45:=fun y hy=>by
    obtain ⟨K,hK,hy⟩:=List.mem_flatMap.1 hy
    unfold Kd.sd at hy
    split at hy
    ·obtain rfl:=List.mem_singleton.1 hy
     rw [Z13,hd]
    ·cases hy
   have e7:=Z8U (dg:=dg) (obj:=kind==7) (l:=q.1)
   generalize q.1.flatMap (Kd.sd dg (kind==7))=sds at e5 e7
   unfold Z02
   split
   ·exact Nat.zero_le _
   ·rename_i hne
    clear hne
    have e8:=Z5f (kind:=6) (.inl rfl) e7 sdN
    have e9:=Z6f (sds.map (itS ((6:Int)=7)))
    have e10:lenA (sds.map (itS ((6:Int)=7)))=45*sds.length:=by
     clear e7 e8 e9
     induction sds with
     | nil=>rfl
     | cons y r ih =>
      have a1:=e5 y (List.mem_cons_self ..)
      have a2:=ih (fun z hz=>e5 z (List.mem_cons_of_mem _ hz))
      have a3:itS ((6:Int)=7) y=sp y:=by unfold itS;rw [if_neg (by decide)];rfl
      unfold lenA at a2 ⊢
      rw [List.map_cons,List.map_cons,List.sum_cons,a2,a3,a1,List.length_cons]
      omega
    rw [List.length_map] at e9
    have e11:(itS (kind=7) (rowN 6 sdN sds)).length≤(sp (rowN 6 sdN sds)).length+6:=by
     unfold itS
     split
     ·have:(quoS (Z3 (rowN 6 sdN sds)).key).length=5:=by show (quoS sdN).length=5;decide
      rw [List.length_append,List.length_append,this,List.length_singleton]
      omega
     ·rw [List.nil_append];omega
    show (([rowN 6 sdN sds].map (itS (kind=7))).map List.length).sum+1≤_
    rw [List.map_singleton,List.map_singleton,List.sum_singleton]
    omega
  have:=e2 q.1
  have:=e3 q.1
  omega
 have h2:∀ K∈q.1,4*(K.sx dg kind+K.tx dg kind)+3*lenA (K.a (kind==7))≤K.cost:=fun K hK=>by
  have d1:=ZaH (obj:=kind==7) (hT K hK) (hn K hK)
  have d2:lenA (K.a (kind==7))=lenA K.h.A+if K.how=0 then 0 else (K.dT (kind==7)).length:=by
   unfold Kd.a
   rw [Z3t]
   split
   ·rfl
   ·simp [lenA]
  show 4*(46*(K.sd dg (kind==7)).length+(lenA ((K.tm dg (kind==7)).map (itS (kind=7)))+(K.tm dg (kind==7)).length))+_≤_
  rw [d2]
  unfold Kd.cost Kd.sd Kd.tm
  by_cases h0:K.how=0
  ·rw [if_neg (by simp [h0]),if_pos h0,if_pos h0]
   have:=Zd7 (obj:=kind=7) (x:=Z6 K.h.T K.key)
   rw [Z0h (hT K hK),Z0d (hT K hK)] at this
   simp only [List.map_cons,List.map_nil,lenA,List.sum_cons,List.sum_nil,List.length_cons,List.length_nil]
   omega
  ·rw [if_neg h0,if_neg h0]
   rcases hk with rfl|rfl
   ·have e7:((6:Int)==7)=false:=rfl
    rw [e7] at d1 ⊢
    have d3:=Zde (hd (K.dT false))
    have:(itS ((6:Int)=7) (dotV (dg (K.dT false))))=sp (dotV (dg (K.dT false))):=by unfold itS;rw [if_neg (by decide)];rfl
    simp only [Bool.false_eq_true,false_and,if_false,List.map_cons,List.map_nil,lenA,List.sum_cons,List.sum_nil,List.length_cons,List.length_nil,this,d3]
    omega
   ·have e7:((7:Int)==7)=true:=rfl
    rw [e7] at d1 ⊢
    simp only [h0,ne_eq,not_false_eq_true,and_self,if_true,List.map_nil,lenA,List.sum_nil,List.length_cons,List.length_nil]
    omega
 have h3:=Z3G h2
 have h4:(q.1.map fun K=>4*(K.sx dg kind+K.tx dg kind)+3*lenA (K.a (kind==7))).sum=4*((q.1.map (Kd.sx dg kind)).sum+(q.1.map (Kd.tx dg kind)).sum)+3*(q.1.map fun K=>lenA (K.a (kind==7))).sum:=by
  rw [Z2W,Z2V,Z2V,Z2W]
 rw [h4] at h3
 rw [hsp,hA]
 omega
theorem Z2u {rec_:List Nd→Nat→Hd}:∀ {xs:List (List Nd)} {n:Nat},(∀ y∈xs,∀ m,(rec_ y m).n+1≤m+y.length)→(ZW pk rec_ xs n).2≤n+xs.flatten.length∧∀ K∈(ZW pk rec_ xs n).1,K.h.n≤n+xs.flatten.length
 | [],n,_=>⟨Nat.le_refl _,fun K hK=>by cases hK⟩
 | y::r,n,h=>by
  have h1:=h y (List.mem_cons_self ..) (n+1)
  obtain ⟨h2,h3⟩:=Z2u (rec_:=rec_) (xs:=r) (n:=(rec_ y (n+1)).n) fun z hz=>h z (List.mem_cons_of_mem _ hz)
  rw [ZW,Z5]
  refine ⟨?_,fun K hK=>?_⟩
  ·show (ZW pk rec_ r (rec_ y (n+1)).n).2≤_
   omega
  ·rcases List.mem_cons.1 hK with rfl|hK
   ·show (rec_ y (n+1)).n≤_
    omega
   ·have:=h3 K hK
    omega
theorem Z2p:∀ (f:Nat) {x:List Nd} {n:Nat},Fo 1 x→x.length≤f→(Z7 dg pk f x n).n+1≤n+x.length
 | 0,x,n,h,hf=>by have:=h.pos;omega
 | f+1,x,n,h,hf=>by
  obtain ⟨h1,h2,h3,-⟩:=Zj h
  rw [Z7]
  split
  ·have:=(Z2u (pk:=pk) (rec_:=Z7 dg pk f) (xs:=kidsOf x 0) (n:=n) fun y hy m=>Z2p f (h2 y hy) (by have:=ZR hy;omega)).1
   show (ZW pk (Z7 dg pk f) (kidsOf x 0) n).2+1≤_
   omega
  ·have:=h.pos
   show n+1≤_
   omega
theorem Z2M (hv0:∀ t,validD (dg t)=true) (hd:∀ t,(quoS (dg t)).length=45):∀ (f:Nat) {x:List Nd} {d n:Nat} {nm:Option (List (List UInt8))},VOk d nm x→Bare x→x.length≤f→n+x.length≤1000000000000 →
  4*(sp (Z7 dg pk f x n).T).length+3*lenA (Z7 dg pk f x n).A+24*(Z3 x).key.length+400≤W3 x∧wL (Z7 dg pk f x n).S+6*(Z3 x).key.length≤wL x
 | 0,x,d,n,nm,hv,_,hf,_=>by have:=hv.fo.pos;omega
 | f+1,x,d,n,nm,hv,hb,hf,hn=>by
  obtain ⟨h1,h2,-,-,-,h8,h3,h4⟩:=hv.open_
  have hx3:W3 x=24*((Z3 x).text.length+(Z3 x).key.length)+500+W3 (kidsOf x 0).flatten:=(congrArg W3 h1).trans rfl
  have hxw:wL x=wN (Z3 x)+wL (kidsOf x 0).flatten:=(congrArg wL h1).trans rfl
  rw [Z7]
  by_cases hr:ZF (Z3 x)
  ·rw [if_pos hr]
   have hmap:=Z1h (pk:=pk) (rec_:=Z7 dg pk f) (kidsOf x 0) n
   have hmem:=fun {K} (hK:K∈(ZW pk (Z7 dg pk f) (kidsOf x 0) n).1)=>ZN hK
   have hkn:=(Z2u (pk:=pk) (rec_:=Z7 dg pk f) (xs:=kidsOf x 0) (n:=n) fun y hy m=>by
    obtain ⟨-,f2,-⟩:=Zj hv.fo
    have:=Z1O (n:=Z3 x) hy
    rw [←h1] at this
    exact Z2p f (f2 y hy) (by omega)).2
   have hfl:(kidsOf x 0).flatten.length+1=x.length:=(Zj hv.fo).1
   have hnb:∀ {xs:List (List Nd)} {n:Nat} {K:Kd},(∀ y∈xs,Fo 1 y∧y.length≤f)→K∈(ZW pk (Z7 dg pk f) xs n).1→∃ m,K.h=Z7 dg pk f K.y m∧m+K.y.length≤n+1+xs.flatten.length:=by
    intro xs
    induction xs with
    | nil=>intro n K _ hK;cases hK
    | cons y r ih =>
     intro n K hy hK
     rw [ZW] at hK
     have hy0:=hy y (List.mem_cons_self ..)
     have hyn:=Z2p (dg:=dg) (pk:=pk) f (n:=n+1) hy0.1 hy0.2
     rcases List.mem_cons.1 hK with rfl|hK
     ·exact ⟨n+1,rfl,by rw [Z5];show n+1+y.length≤_;omega⟩
     ·obtain ⟨m,e,hm⟩:=ih (fun z hz=>hy z (List.mem_cons_of_mem _ hz)) hK
      exact ⟨m,e,by rw [Z5];omega⟩
   have each:∀ K∈(ZW pk (Z7 dg pk f) (kidsOf x 0) n).1,Fo 1 K.h.T∧Fo 1 K.h.S∧K.cost≤W3 K.y∧wL K.h.S+6*K.key.length≤wL K.y∧(Z3 K.h.S).key=[]:=fun K hK=>by
    obtain ⟨hy,-⟩:=hmem hK
    obtain ⟨nm',v1,-⟩:=Z0f h4 _ hy
    have hlt:=Z1O (n:=Z3 x) hy
    rw [←h1] at hlt
    obtain ⟨m,e,hm⟩:=hnb (fun y hy=>⟨(Zj hv.fo).2.1 y hy,by have:=Z1O (n:=Z3 x) hy;rw [←h1] at this;omega⟩) hK
    obtain ⟨o1,o2⟩:=Z0i (dg:=dg) hv0 pk f (n:=m) v1 (Z0C hv.fo hb hy) (by omega)
    obtain ⟨c1,c2⟩:=Z2M hv0 hd f (n:=m) v1 (Z0C hv.fo hb hy) (by omega) (by omega)
    rw [←e] at o1 o2 c1 c2
    exact ⟨o1.fo,o2.fo,c1,c2,o2.open_.2.2.2.1 rfl⟩
   generalize ZW pk (Z7 dg pk f) (kidsOf x 0) n=q at *
   have hc:=Z8Q hd hr (fun K hK=>(each K hK).1) (fun K hK=>by have:=hkn K hK;omega)
   have e1:(q.1.map Kd.cost).sum≤W3 (kidsOf x 0).flatten:=by
    have a1:=Z3G (l:=q.1) fun K hK=>(each K hK).2.2.1
    have a2:∀ l:List Kd,(l.map fun K=>W3 K.y).sum=W3 ((l.map (·.y)).flatten):=fun l=>by
     induction l with
     | nil=>rfl
     | cons K r ih=>rw [List.map_cons,List.sum_cons,ih,List.map_cons,List.flatten_cons,Zcq]
    rw [a2,hmap] at a1
    exact a1
   refine ⟨by omega,?_⟩
   have a3:∀ l:List Kd,(∀ K∈l,Fo 1 K.h.S∧wL K.h.S+6*K.key.length≤wL K.y∧(Z3 K.h.S).key=[])→wL (l.flatMap (Kd.sh ((Z3 x).kind==7))).flatten+wL (l.flatMap (Kd.bh ((Z3 x).kind==7))).flatten≤wL (l.map (·.y)).flatten:=fun l=>by
    have nmw:∀ {s:List Nd} {k:List UInt8},Fo 1 s→(Z3 s).key=[]→wL (Z6 s k)=wL s+6*k.length:=fun {s k} hs hk=>by
     obtain ⟨n,m,a,rfl,-,-⟩:=hs.one_inv
     have hk:n.key=[]:=hk
     show 6*(n.text.length+k.length)+20+wL a=6*(n.text.length+n.key.length)+20+wL a+_
     rw [hk,List.length_nil]
     omega
    induction l with
    | nil=>intro _;exact Nat.le_refl _
    | cons K r ih =>
     intro hh
     obtain ⟨b1,b2,b3⟩:=hh K (List.mem_cons_self ..)
     have:=ih fun K' hK'=>hh K' (List.mem_cons_of_mem _ hK')
     rw [List.flatMap_cons,List.flatMap_cons,List.flatten_append,List.flatten_append,Z2k,Z2k,List.map_cons,List.flatten_cons,Z2k]
     have c1:wL (K.sh ((Z3 x).kind==7)).flatten+wL (K.bh ((Z3 x).kind==7)).flatten≤wL K.y:=by
      have z:wL ([]:List (List Nd)).flatten=0:=rfl
      have o:∀ s:List Nd,wL [s].flatten=wL s:=fun s=>by simp
      unfold Kd.sh Kd.bh
      by_cases k0:K.how=0
      ·rw [if_pos k0,if_neg (by omega),o,z,nmw b1 b3]
       omega
      ·rw [if_neg k0]
       by_cases k1:K.how=1
       ·cases (Z3 x).kind==7 with
        | true=>rw [if_neg (by simp),if_pos ⟨k1,rfl⟩,o,z,nmw b1 b3];omega
        | false=>rw [if_pos ⟨k1,rfl⟩,if_neg (by simp),o,z];omega
       ·rw [if_neg (by omega),if_neg (by omega),z]
        omega
     omega
   have a4:=a3 q.1 fun K hK=>⟨(each K hK).2.1,(each K hK).2.2.2⟩
   rw [hmap] at a4
   have a5:wL (ZI dg (Z3 x).kind q).S=20+wL (q.1.flatMap (Kd.sh ((Z3 x).kind==7))++q.1.flatMap (Kd.bh ((Z3 x).kind==7))).flatten:=by
    show wN ⟨(Z3 x).kind,[],[],false,0,_⟩+_=_
    rfl
   rw [a5,List.flatten_append,Z2k,hxw]
   unfold wN
   omega
  ·rw [if_neg hr]
   have hk5:=Z1g h2
   have hk2:1≤(Z3 x).kind∧(Z3 x).kind≤5:=by unfold ZF at hr;omega
   have e:sp x=Z1D (Z3 x):=(congrArg sp h1).trans (Z2X hk2)
   have hl:(Z1D (Z3 x)).length≤6*(Z3 x).text.length+5:=by
    have:=Z07 (Z3 x).text
    unfold Z1D
    repeat' split
    all_goals first|omega|(simp only [List.length_cons,List.length_nil];omega)
   refine ⟨?_,?_⟩
   ·show 4*(sp (Z6 x [])).length+3*lenA []+24*(Z3 x).key.length+400≤W3 x
    have z:lenA []=0:=rfl
    rw [Z0d hv.fo,e,hx3,z]
    omega
   ·have:wL (Z6 x [])+6*(Z3 x).key.length=wL x:=by
     obtain ⟨n,m,a,rfl,-,-⟩:=hv.fo.one_inv
     show 6*(n.text.length+0)+20+wL a+6*n.key.length=6*(n.text.length+n.key.length)+20+wL a
     omega
    exact Nat.le_of_eq this
end
end Sg
/- Bytes that have been spelled in 64 signs are read back; plain. -/
namespace Sg
theorem Zcx:∀ j:Fin 64,urlS.idxOf (urlS.getD j.val 0)=j.val:=by decide
theorem Z9p:∀ j:Fin 64,urlS.getD j.val 0∈urlS:=by decide
theorem ZaB (bs:List UInt8) {k:Nat} (h:k < Z0e bs.length):(enc urlS bs)[k]?=some (urlS.getD (six bs k) 0):=by
 unfold enc
 rw [List.getElem?_map,List.getElem?_range h]
 rfl
theorem ZcM (bs:List UInt8) {k:Nat} (h:k < Z0e bs.length):sgn (enc urlS bs) k=six bs k:=by
 unfold sgn
 rw [ZaB bs h]
 exact Zcx ⟨six bs k,Z9w bs k⟩
theorem Z39 (bs:List UInt8) (i:Nat):(bs.getD i 0).toNat < 256:=(bs.getD i 0).toNat_lt
theorem Z85 {bs:List UInt8} {i:Nat} (h:bs.length≤i):bs.getD i 0=0:=by simp [List.getD,List.getElem?_eq_none h]
theorem Z5D (bs:List UInt8) {q:Nat} (h:3*q≤bs.length):dgrp (enc urlS bs) q=grp bs q:=by
 have hl:(enc urlS bs).length=Z0e bs.length:=Z5A _ _
 have e:∀ j,j < 4→sgn (enc urlS bs) (4*q+j)=if 4*q+j < Z0e bs.length then grp bs q / 64 ^ (3 - j) % 64 else 0:=fun j hj=>by
  split
  ·rename_i hk
   rw [ZcM bs hk]
   unfold six
   rw [show (4*q+j) / 4=q by omega,show (4*q+j) % 4=j by omega]
  ·exact Z6Q (by omega)
 have h0:=Z39 bs (3*q)
 have h1:=Z39 bs (3*q+1)
 have h2:=Z39 bs (3*q+2)
 have z:∀ i,bs.length≤i→(bs.getD i 0).toNat=0:=fun i hi=>by rw [Z85 hi];rfl
 have z0:=z (3*q)
 have z1:=z (3*q+1)
 have z2:=z (3*q+2)
 have e0:=e 0 (by omega)
 rw [Nat.add_zero] at e0
 unfold dgrp
 rw [e0,e 1 (by omega),e 2 (by omega),e 3 (by omega)]
 unfold Z0e grp
 generalize (bs.getD (3*q) 0).toNat=a at *
 generalize (bs.getD (3*q+1) 0).toNat=b at *
 generalize (bs.getD (3*q+2) 0).toNat=c at *
 simp only [show 3 - 0=3 from rfl,show 3 - 1=2 from rfl,show 3 - 2=1 from rfl,show 3 - 3=0 from rfl,show 64 ^ 3=262144 from rfl,show 64 ^ 2=4096 from rfl,show 64 ^ 1=64 from rfl,show 64 ^ 0=1 from rfl]
 rcases (by omega:bs.length=3*q∨bs.length=3*q+1∨bs.length=3*q+2∨3*q+3≤bs.length) with k|k|k|k
 ·have:=z0 (by omega)
  have:=z1 (by omega)
  have:=z2 (by omega)
  subst_vars
  rw [k,if_neg (by omega),if_neg (by omega),if_neg (by omega),if_neg (by omega)]
 ·have:=z1 (by omega)
  have:=z2 (by omega)
  subst_vars
  rw [k,if_pos (by omega),if_pos (by omega),if_neg (by omega),if_neg (by omega)]
  omega
 ·have:=z2 (by omega)
  subst_vars
  rw [k,if_pos (by omega),if_pos (by omega),if_pos (by omega),if_neg (by omega)]
  omega
 ·rw [if_pos (by omega),if_pos (by omega),if_pos (by omega),if_pos (by omega)]
  omega
theorem Z9U {a b:Nat} (h:a % 256=b % 256):UInt8.ofNat a=UInt8.ofNat b:=by
 apply UInt8.toNat_inj.1
 rw [UInt8.toNat_ofNat',UInt8.toNat_ofNat']
 exact h
theorem ZbI (bs:List UInt8) (i:Nat):UInt8.ofNat (grp bs (i / 3) / 256 ^ (2 - i % 3))=bs.getD i 0:=by
 have h0:=Z39 bs (3*(i / 3))
 have h1:=Z39 bs (3*(i / 3)+1)
 have h2:=Z39 bs (3*(i / 3)+2)
 have key:∀ x:UInt8,∀ n,n % 256=x.toNat→UInt8.ofNat n=x:=fun x n h=>by
  rw [←UInt8.ofNat_toNat (x:=x)]
  exact Z9U (by have:=x.toNat_lt;omega)
 refine key _ _ ?_
 unfold grp
 rcases (by omega:i=3*(i / 3)∨i=3*(i / 3)+1∨i=3*(i / 3)+2) with k|k|k
 ·rw [show i % 3=0 by omega,show 256 ^ (2 - 0)=65536 from rfl]
  conv=>rhs;rw [k]
  omega
 ·rw [show i % 3=1 by omega,show 256 ^ (2 - 1)=256 from rfl]
  conv=>rhs;rw [k]
  omega
 ·rw [show i % 3=2 by omega,show 256 ^ (2 - 2)=1 from rfl]
  conv=>rhs;rw [k]
  omega
theorem ZaF (bs:List UInt8):decX (enc urlS bs)=(bs,0,0):=by
 have hl:(enc urlS bs).length=Z0e bs.length:=Z5A _ _
 have hb:badB (enc urlS bs)=(enc urlS bs).length:=by
  unfold badB
  rw [List.findIdx_eq_length]
  intro c hc
  obtain ⟨k,hk⟩:=List.mem_iff_getElem?.1 hc
  have hlt:=(List.getElem?_eq_some_iff.1 hk).1
  rw [ZaB bs (by omega)] at hk
  obtain rfl:=Option.some.inj hk
  simpa using Z9p ⟨six bs k,Z9w bs k⟩
 have hsg:Z0e bs.length=(8*bs.length+5) / 6:=rfl
 have hsp:Z1B (enc urlS bs)=true:=by
  have z:∀ i,bs.length≤i→(bs.getD i 0).toNat=0:=fun i hi=>by rw [Z85 hi];rfl
  unfold Z1B
  rw [hl]
  split
  ·rename_i h3
   have hq:Z0e bs.length / 4=bs.length / 3:=by omega
   rw [hq,Z5D bs (by omega)]
   have:=z (3*(bs.length / 3)+2) (by omega)
   unfold grp
   rw [this]
   exact decide_eq_true (by omega)
  ·split
   ·rename_i h3
    have hq:Z0e bs.length / 4=bs.length / 3:=by omega
    rw [hq,Z5D bs (by omega)]
    have:=z (3*(bs.length / 3)+2) (by omega)
    have:=z (3*(bs.length / 3)+1) (by omega)
    unfold grp
    rw [z (3*(bs.length / 3)+2) (by omega),z (3*(bs.length / 3)+1) (by omega)]
    exact decide_eq_true (by omega)
   ·rfl
 have hd:decB (enc urlS bs)=bs:=by
  unfold decB
  rw [hl,show Z0e bs.length*6 / 8=bs.length by omega]
  apply List.ext_getElem
  ·simp
  ·intro i h1 h2
   rw [List.getElem_map,List.getElem_range,Z5D bs (by omega),ZbI]
   simp [List.getD,h2]
 unfold decX
 rw [hb,if_neg (Nat.lt_irrefl _),hl,if_neg (by omega),if_pos hsp,hd]
end Sg
/- What a maker has made is read, and reveals what it should; plain: the parts that the law's walk asks for. -/
namespace Sg
open Go.Lib
section
variable {dg:List UInt8→List UInt8} {pk:Nat→Nat}
theorem Z82 (hd:∀ t,validD (dg t)=true):∀ (f:Nat) {x:List Nd} {d n:Nat} {nm:Option (List (List UInt8))},VOk d nm x→Bare x→x.length≤f →
  ∀ t∈(Z7 dg pk f x n).A,∃ w D,VOk D none w∧t=enc urlS (sp w)∧∃ s,Z2i (dg t) w=some s∧s.dig=dg t
 | 0,x,d,n,nm,hv,_,hf,t,ht=>by have:=hv.fo.pos;omega
 | f+1,x,d,n,nm,hv,hb,hf,t,ht=>by
  obtain ⟨h1,-,-,-,-,-,-,h4⟩:=hv.open_
  rw [Z7] at ht
  split at ht
  ·obtain ⟨k1,k2⟩:=Z2L hv hb (Z1h (pk:=pk) (rec_:=Z7 dg pk f) (kidsOf x 0) n)
   obtain ⟨K,hK,ht⟩:=List.mem_flatMap.1 ht
   obtain ⟨hy,m,e,-⟩:=ZN hK
   obtain ⟨nm',v1,-⟩:=Z0f h4 _ hy
   have hlt:=Z1O (n:=Z3 x) hy
   rw [←h1] at hlt
   have b1:=Z0C hv.fo hb hy
   unfold Kd.a at ht
   rcases List.mem_append.1 ht with ht|ht
   ·rw [e] at ht
    exact Z82 hd f v1 b1 (by omega) t ht
   ·split at ht
    ·cases ht
    ·obtain rfl:=List.mem_singleton.1 ht
     have o:=(Z0i (dg:=dg) hd pk f (n:=m+1) v1 b1 (by omega)).1
     rw [←e] at o
     have hkey:validD K.key=true∧K.key≠sdN∧K.key≠ZJ:=by
      by_cases h7:(Z3 x).kind=7
      ·exact (k1 h7).2 K hK
      ·rw [k2 h7 K hK]
       decide
     exact ⟨_,_,Zc8 (obj:=(Z3 x).kind==7) (fun n=>(Z1c n).2) o hkey.1,rfl,_,Z9D o.fo hkey.2,rfl⟩
  ·cases ht
theorem Za6 {v:List Nd} (h:Fo 1 v) {k:List UInt8} (hm:memI v 0 k < 0):memV v k=none:=by
 rcases Z28 (IsAt.of_fo h) k with ⟨-,h2⟩|⟨q,h1,-,-⟩
 ·rw [ZV h] at h2
  exact h2
 ·omega
structure Made (dg:List UInt8→List UInt8) (h:Hd):Prop where
 vT:∃ D,VOk D none h.T
 vS:VOk 32 none h.S
 len:4*(sp h.T).length+3*lenA h.A≤4500000
 lenS:(sp h.S).length≤262144
 sub:List.Sublist h.L h.A
 mem:∀ t∈h.A,∃ w D,VOk D none w∧t=enc urlS (sp w)∧∃ s,Z2i (dg t) w=some s∧s.dig=dg t
theorem Zd1 (hv0:∀ t,validD (dg t)=true) (hd:∀ t,(quoS (dg t)).length=45) {t:List UInt8} {a:Nat} {v:List Nd} (h:Zy Zb t=.ok a v) (hl:t.length≤8192) (hb:Bare v):Made dg (Z7 dg pk v.length v 0):=by
 have hv:=Z3U h
 obtain ⟨o1,o2⟩:=Z0i (dg:=dg) hv0 pk v.length (n:=0) hv hb (Nat.le_refl _)
 have h1:=(Z3s h).1
 have h2:=Z4S h
 obtain ⟨c1,c2⟩:=Z2M (dg:=dg) (pk:=pk) hv0 hd v.length (n:=0) hv hb (Nat.le_refl _) (by omega)
 rw [ZaT] at c1
 rw [Z9f v] at c2
 refine ⟨⟨_,o1⟩,o2,by omega,?_,Z0X pk _ _ _,Z82 hv0 v.length hv hb (Nat.le_refl _)⟩
 have:=Z0q _ _ o2.fo (Nat.le_refl _)
 unfold sp
 omega
theorem Za7 {h:Hd} (hm:Made dg h):(∃ c b,Zy Zb (sp h.T)=.bad c b∧(c=11∨c=10))∨∃ a,Zy Zb (sp h.T)=.ok a h.T:=by
 obtain ⟨D,hv⟩:=hm.vT
 rcases Z25 hv with ⟨-,e⟩|e|⟨-,a,e⟩
 ·exact .inl ⟨_,_,e,.inr rfl⟩
 ·exact .inr ⟨_,e⟩
 ·exact .inl ⟨_,_,e,.inl rfl⟩
theorem Z8J {h:Hd} (hm:Made dg h):Zy Zb (sp h.S)=.ok (sp h.S).length h.S:=by
 rcases Z25 hm.vS with ⟨h1,-⟩|e|⟨h1,-⟩
 ·have:=hm.lenS
  omega
 ·exact e
 ·omega
theorem Za9 {h:Hd} (hm:Made dg h) {t:List UInt8} (ht:t∈h.L):∃ w,decX t=(sp w,0,0)∧((∃ c b,Zy Zb (sp w)=.bad c b∧(c=11∨c=10))∨(∃ a,Zy Zb (sp w)=.ok a w)∧∃ s,Z2i (dg t) w=some s∧s.dig=dg t):=by
 obtain ⟨w,D,hv,rfl,hs⟩:=hm.mem t (hm.sub.subset ht)
 refine ⟨w,ZaF _,?_⟩
 rcases Z25 hv with ⟨-,e⟩|e|⟨-,a,e⟩
 ·exact .inl ⟨_,_,e,.inr rfl⟩
 ·exact .inr ⟨⟨_,e⟩,hs⟩
 ·exact .inl ⟨_,_,e,.inl rfl⟩
def turned (l:List (List UInt8)) (c:Nat):List (List UInt8):=l.reverse.drop c++l.reverse.take c
theorem Z3C (l:List (List UInt8)) (c:Nat):(turned l c).Perm l:=by
 unfold turned
 refine List.perm_append_comm.trans ?_
 rw [List.take_append_drop]
 exact List.reverse_perm l
theorem Z8q (l:List (List UInt8)) (c:Nat):(turned l c).length=l.length:=(Z3C l c).length_eq
theorem Z8r (l:List (List UInt8)) {c j:Nat} (hc:c < l.length) (hj:j < l.length):(turned l c)[j]?=l[l.length - 1 - (j+c) % l.length]?:=by
 unfold turned
 by_cases h:j < l.length - c
 ·rw [List.getElem?_append_left (by simp;omega),List.getElem?_drop,List.getElem?_reverse (by omega),Nat.mod_eq_of_lt (by omega),Nat.add_comm c j]
 ·rw [List.getElem?_append_right (by simp;omega)]
  have e:(j+c) % l.length=j+c - l.length:=by
   rw [Nat.mod_eq_sub_mod (by omega),Nat.mod_eq_of_lt (by omega)]
  rw [e,List.getElem?_take_of_lt (by simp;omega),List.getElem?_reverse (by simp;omega)]
  congr 1
  simp
  omega
end
end Sg
/- The law of SdBack: its small functions. -/
namespace Go.Proofs.YtophlopiigpbgaaGreatDoor
open Sg Go Go.RowKit Go.IntWalk
set_option maxRecDepth 100000
set_option maxHeartbeats 4000000
def Z05 (a b:List UInt8):List UInt8:=if a=[]∨b=[] then a++b else a++[44]++b
abbrev iVz (z:Int):Value:=.int .i64 z
def Za (pick:List Int) (n:Nat):Nat:=if pick.length=0 then 0 else (pick.getD (n % pick.length) 0).toNat
section
variable {F:World} {M:List Nat} {H:List Res}
theorem Zn {a b:List UInt8} (hl:a.length+b.length≤1000000000000000):Meets Tryz.prog 41 [sV a,sV b] F M H (fun e H'=>e=.returned (sV (Z05 a b))∧H=H'):=by
 refine Meets.enter Tryz.func41 rfl rfl ?_
 unfold Z05
 by_cases ha:a=[]
 ·subst ha
  rw [if_pos (.inl rfl)]
  repeat' (first|refine Sg.Y1 ?_|fail)
  exact ⟨_,PSub.refl _,rfl,rfl⟩
 ·by_cases hb:b=[]
  ·subst hb
   rw [if_pos (.inr rfl)]
   repeat' (first|refine Sg.Y3 ?_|(apply T.gcase;apply rfl;apply rfl;all_goals intro _)|fail)
   exact ⟨_,PSub.refl _,rfl,rfl⟩
  ·rw [if_neg (by simp [ha,hb])]
   repeat' (first|refine Sg.Y3 ?_|(apply S.condQ;apply rfl;all_goals intro _)|(apply T.gcase;apply rfl;apply rfl;all_goals intro _)|fail)
   exact ⟨_,PSub.refl _,rfl,rfl⟩
theorem Z4u {pick:List Int} {n:Nat} {pa:Option Addr} {pc:Nat} (hR:Rd F M H pa (pick.map iVz)) (ht:∀ z∈pick,0≤z∧z≤2) (hn:n≤1000000000) (hl:pick.length≤141000000000000) :
  Meets Tryz.prog 39 [.slice pa pick.length pc,.int .i64 n] F M H (fun e H'=>e=.returned (.int .i64 (Za pick n))∧H=H'):=by
 refine Meets.enter Tryz.func39 rfl rfl ?_
 unfold Za
 by_cases h0:pick.length=0
 ·rw [if_pos h0,h0]
  repeat' (first|refine Sg.Y1 ?_|fail)
  exact ⟨_,PSub.refl _,rfl,rfl⟩
 ·rw [if_neg h0]
  have hm:n % pick.length < pick.length:=Nat.mod_lt _ (by omega)
  have e1:(n:Int) % (pick.length:Int)=((n % pick.length:Nat):Int):=by omega
  have hz:(((pick.getD (n % pick.length) 0).toNat:Nat):Int)=pick.getD (n % pick.length) 0:=by
   have:=ht (pick.getD (n % pick.length) 0) (by rw [List.getD_eq_getElem?_getD,List.getElem?_eq_getElem hm];exact List.getElem_mem hm)
   omega
  rw [hz]
  repeat' (first|refine Sg.Y3 ?_|(apply S.condQ;apply rfl;all_goals intro _)|fail)
  exact ⟨_,PSub.refl _,rfl,rfl⟩
theorem Z9q {pick:List Int} {pa:Option Addr} {pc:Nat} (hR:Rd F M H pa (pick.map iVz)) (hl:pick.length≤141000000000000) :
  Meets Tryz.prog 15 [.slice pa pick.length pc] F M H (fun e H'=>∃ b,e=.returned (.bool b)∧(b=true→∀ z∈pick,0≤z∧z≤2)∧H=H'):=by
 refine Meets.enter Tryz.func15 rfl rfl ?_
 repeat' (first|refine Sg.Y1 ?_|fail)
 refine S.loopE 0 [0] (fun R b' μ H' e=>∃ i:Nat,H'=R∧e=(3,.int .i64 i)::b'∧(i≤pick.length∧∀ j,j < i→0≤pick.getD j 0∧pick.getD j 0≤2)∧μ=pick.length - i) rfl rfl ?_ _ _ ⟨0,rfl,rfl,⟨Nat.zero_le _,fun j hj=>by omega⟩,rfl⟩ (by repeat' first|exact trivial|refine And.intro rfl ?_)
 rintro _ _ _ ⟨i,rfl,rfl,⟨h1,h2⟩,rfl⟩ ih
 by_cases h3:i < pick.length
 ·by_cases k0:pick.getD i 0 < 0
  ·repeat' (first|refine Sg.Y3 ?_|(apply S.condQ;apply rfl;all_goals intro _)|(apply T.gcase;apply rfl;apply rfl;all_goals intro _)|fail)
   exact ⟨_,PSub.refl _,false,rfl,fun h=>(by cases h),rfl⟩
  by_cases k2:2 < pick.getD i 0
  ·repeat' (first|refine Sg.Y3 ?_|(apply S.condQ;apply rfl;all_goals intro _)|(apply T.gcase;apply rfl;apply rfl;all_goals intro _)|fail)
   exact ⟨_,PSub.refl _,false,rfl,fun h=>(by cases h),rfl⟩
  repeat' (first|refine Sg.Y3 ?_|(apply S.condQ;apply rfl;all_goals intro _)|(apply T.gcase;apply rfl;apply rfl;all_goals intro _)|fail)
  exact ih _ _ _ _ ⟨i+1,rfl,rfl,⟨by omega,fun j hj=>by
   rcases Nat.lt_succ_iff_lt_or_eq.1 hj with hj|rfl
   ·exact h2 j hj
   ·omega⟩,rfl⟩ (by omega) (by repeat' first|exact trivial|refine And.intro rfl ?_)
 ·repeat' (first|refine Sg.Y3 ?_|(apply S.condQ;apply rfl;all_goals intro _)|fail)
  exact ⟨_,PSub.refl _,true,rfl,fun _ z hz=>by
   obtain ⟨j,hj,rfl⟩:=List.mem_iff_getElem.1 hz
   have:=h2 j (by omega)
   rw [List.getD_eq_getElem?_getD,List.getElem?_eq_getElem hj] at this
   exact this,rfl⟩
theorem Z17 {t s:List UInt8} {la aa:Option Addr} {ln lc an ac:Nat} {n:Int} {obj:Bool} (ht:t.length≤1000000000000000∧s.length≤1000000000000000) :
  Meets Tryz.prog 42 [.agg ⟨[sV t,sV s,.slice la ln lc,.slice aa an ac,.int .i64 n]⟩,.bool obj] F M H
   (fun e H'=>e=.returned (.agg ⟨[sV ((if obj then 123 else 91)::(t++[if obj then 125 else 93])),sV ((if obj then 123 else 91)::(s++[if obj then 125 else 93])),.slice la ln lc,.slice aa an ac,.int .i64 n]⟩)∧H=H'):=by
 refine Meets.enter Tryz.func42 rfl rfl ?_
 cases obj with
 | true =>
  repeat' (first|(apply T.alloc;apply rfl;intro nb)|(apply T.box;apply rfl;apply rfl;intro nb)|refine Sg.Y1 ?_|fail)
  exact ⟨_,by ((repeat (first|dsimp only [List.set_cons_zero]|dsimp only [List.set_cons_succ]));repeat' first|exact PSub.refl _|exact PSub.nil|(with_reducible apply PSub.app)|(apply PSub.take;(repeat' first|(with_reducible exact Z0)|(with_reducible apply Z1)))|(with_reducible apply PSub.drop)|((apply PSub.take);(repeat' first|exact Z0|(apply Z1)))),rfl,rfl⟩
 | false =>
  repeat' (first|(apply T.alloc;apply rfl;intro nb)|(apply T.box;apply rfl;apply rfl;intro nb)|refine Sg.Y1 ?_|fail)
  exact ⟨_,by ((repeat (first|dsimp only [List.set_cons_zero]|dsimp only [List.set_cons_succ]));repeat' first|exact PSub.refl _|exact PSub.nil|(with_reducible apply PSub.app)|(apply PSub.take;(repeat' first|(with_reducible exact Z0)|(with_reducible apply Z1)))|(with_reducible apply PSub.drop)|((apply PSub.take);(repeat' first|exact Z0|(apply Z1)))),rfl,rfl⟩
theorem Z5l {s:List UInt8} (hT:Tabs F M) (hv:Lib.validD s=true) (hl:s.length≤40000):Meets Tryz.prog 38 [sV s] F M H (fun e H'=>e=.returned (sV (quoS s))∧H=H'):=by
 refine Meets.enter Tryz.func38 rfl rfl ?_
 repeat' (first|(apply T.bsL;(iterate 5 apply rfl);intro nb)|refine Sg.Y1 ?_|fail)
 have hp:Rd F M (.blk nb [.int .i64 5,sV [],sV s,.bool false,.int .i64 0,.int .i64 0] 34::H) (some ⟨nb,0,none⟩) ([(⟨5,[],s,false,0,0⟩:Nd)].flatMap ndV):=Rd.blk0
 have hwl:wL [(⟨5,[],s,false,0,0⟩:Nd)]=6*s.length+20:=by simp [wL,wN]
 have hpx:Z1L Lib.validD [(⟨5,[],s,false,0,0⟩:Nd)]=(quoS s,0):=by
  have h1:ZG Lib.validD [(⟨5,[],s,false,0,0⟩:Nd)]=true:=Z2T (Z2S hv)
  have h2:Ze [(⟨5,[],s,false,0,0⟩:Nd)].length [⟨5,[],s,false,0,0⟩]=quoS s:=Z13 s
  have:=Z07 s
  unfold Z1L
  rw [if_pos h1,h2,if_neg (by omega)]
 refine T.call rfl rfl (Z33 (v:=[⟨5,[],s,false,0,0⟩]) (n:=1) hT rfl (by decide) (fun x hx=>by
  obtain rfl:=List.mem_singleton.1 hx
  exact ⟨fun h=>absurd h (by show ¬(5:Int)=4;decide),by show s.length≤_;omega,Nat.zero_le _,(by decide:(0:Int)≤9223372036854775807)⟩) (by omega)) ?_
 rw [hpx]
 rintro _ _ ⟨rfl,rfl⟩
 repeat' (first|refine Sg.Y1 ?_|fail)
 exact ⟨_,by ((repeat (first|dsimp only [List.set_cons_zero]|dsimp only [List.set_cons_succ]));repeat' first|exact PSub.refl _|exact PSub.nil|(with_reducible apply PSub.app)|(apply PSub.take;(repeat' first|(with_reducible exact Z0)|(with_reducible apply Z1)))|(with_reducible apply PSub.drop)|((apply PSub.take);(repeat' first|exact Z0|(apply Z1)))),rfl,rfl⟩
theorem Z6K {l:List (List UInt8)} {la:Option Addr} {lc:Nat} (hS:ShP F M) (hR:Rd F M H la (l.map sV)) (hl:l.length≤1000000000) (hb:∀ t∈l,t.length≤100000000) :
  Meets Tryz.prog 19 [.slice la l.length lc] F M H (fun e H'=>∃ b,e=.returned (.bool b)∧(b=true→(l.map Z2).Nodup)∧H=H'):=by
 refine Meets.enter Tryz.func19 rfl rfl ?_
 have get:∀ i,i < l.length→l.getD i []∈l:=fun i hi=>by
  rw [List.getD_eq_getElem?_getD,List.getElem?_eq_getElem hi]
  exact List.getElem_mem hi
 repeat' (first|refine Sg.Y1 ?_|fail)
 refine S.loopE 0 [0] (fun R b' μ H' e=>∃ i:Nat,H'=R∧e=(3,.int .i64 i)::b'∧(i≤l.length∧((l.take i).map Z2).Nodup)∧μ=l.length - i) rfl rfl ?_ _ _ ⟨0,rfl,rfl,⟨Nat.zero_le _,List.nodup_nil⟩,rfl⟩ (by repeat' first|exact trivial|refine And.intro rfl ?_)
 rintro _ _ _ ⟨i,hR1,rfl,⟨h1,h2⟩,rfl⟩ ih
 have hR2:=hR1.symm
 subst hR2
 by_cases h3:i < l.length
 ·have hi:=get i h3
  have hxl:=hb _ hi
  repeat' (first|refine Sg.Y3 ?_|(apply S.condQ;apply rfl;all_goals intro _)|fail)
  refine S.loopE 0 [0,3] (fun R b' μ H' e=>∃ j:Nat,H'=R∧e=(4,.int .i64 j)::b'∧(j≤i∧∀ k,k < j→Z2 (l.getD i [])≠Z2 (l.getD k []))∧μ=i - j) rfl rfl ?_ _ _ ⟨0,rfl,rfl,⟨Nat.zero_le _,fun k hk=>by omega⟩,rfl⟩ (by repeat' first|exact trivial|refine And.intro rfl ?_)
  rintro _ _ _ ⟨j,hR1,rfl,⟨g1,g2⟩,rfl⟩ ih2
  have hR2:=hR1.symm
  subst hR2
  by_cases h4:j < i
  ·have hj:=get j (by omega)
   have hyl:=hb _ hj
   have n1:∀ {t:List UInt8} {X:List Res},t.length≤100000000→Meets Tryz.prog 23 [sV t] F M X (fun e H'=>e=.returned (sV (Z2 t))∧H'=X):=fun h=>Z0Q hS (by omega)
   by_cases hxy:Z2 (l.getD i [])=Z2 (l.getD j [])
   ·repeat' (first|refine Sg.Y3 ?_|(apply S.condQ;apply rfl;all_goals intro _)|fail)
    (apply S.draw;(case Hs=>exact H);(case es=>exact  [4,9]);(case n=>exact  11);(case hn=>rfl))
    repeat' (first|(apply T.call;apply rfl;apply rfl;with_reducible exact n1 (by omega);rintro _ _ ⟨rfl,rfl⟩)|(apply SA.qn;(iterate 4 apply rfl);kernel_rfl)|(apply SA.qz;(iterate 4 apply rfl);kernel_rfl)|(apply SA.qsn;(iterate 3 apply rfl);kernel_rfl;(first|exact fun _ h=>h|exact fun _ h=>St.psub h (by ((repeat (first|dsimp only [List.set_cons_zero]|dsimp only [List.set_cons_succ]));repeat' first|exact PSub.refl _|exact PSub.nil|(with_reducible apply PSub.app)|(apply PSub.take;(repeat' first|(with_reducible exact Z0)|(with_reducible apply Z1)))|(with_reducible apply PSub.drop)|((apply PSub.take);(repeat' first|exact Z0|(apply Z1)))))))|(apply SA.done;apply rfl;kernel_rfl)|(apply SK.intro;(first|exact fun _ h=>h|exact fun _ h=>St.psub h (by ((repeat (first|dsimp only [List.set_cons_zero]|dsimp only [List.set_cons_succ]));repeat' first|exact PSub.refl _|exact PSub.nil|(with_reducible apply PSub.app)|(apply PSub.take;(repeat' first|(with_reducible exact Z0)|(with_reducible apply Z1)))|(with_reducible apply PSub.drop)|((apply PSub.take);(repeat' first|exact Z0|(apply Z1)))))))|refine Sg.Y3 ?_|(apply S.condQ;apply rfl;all_goals intro _)|fail)
    all_goals
     skip
     exact ⟨_,PSub.refl _,false,rfl,fun h=>(by cases h),rfl⟩
   ·repeat' (first|refine Sg.Y3 ?_|(apply S.condQ;apply rfl;all_goals intro _)|fail)
    (apply S.draw;(case Hs=>exact H);(case es=>exact  [4,9]);(case n=>exact  11);(case hn=>rfl))
    repeat' (first|(apply T.call;apply rfl;apply rfl;with_reducible exact n1 (by omega);rintro _ _ ⟨rfl,rfl⟩)|(apply SA.qn;(iterate 4 apply rfl);kernel_rfl)|(apply SA.qz;(iterate 4 apply rfl);kernel_rfl)|(apply SA.qsn;(iterate 3 apply rfl);kernel_rfl;(first|exact fun _ h=>h|exact fun _ h=>St.psub h (by ((repeat (first|dsimp only [List.set_cons_zero]|dsimp only [List.set_cons_succ]));repeat' first|exact PSub.refl _|exact PSub.nil|(with_reducible apply PSub.app)|(apply PSub.take;(repeat' first|(with_reducible exact Z0)|(with_reducible apply Z1)))|(with_reducible apply PSub.drop)|((apply PSub.take);(repeat' first|exact Z0|(apply Z1)))))))|(apply SA.done;apply rfl;kernel_rfl)|(apply SK.intro;(first|exact fun _ h=>h|exact fun _ h=>St.psub h (by ((repeat (first|dsimp only [List.set_cons_zero]|dsimp only [List.set_cons_succ]));repeat' first|exact PSub.refl _|exact PSub.nil|(with_reducible apply PSub.app)|(apply PSub.take;(repeat' first|(with_reducible exact Z0)|(with_reducible apply Z1)))|(with_reducible apply PSub.drop)|((apply PSub.take);(repeat' first|exact Z0|(apply Z1)))))))|refine Sg.Y7 ?_|(apply S.condQ;apply rfl;all_goals intro _)|fail)
    all_goals
     skip
     exact ih2 _ _ _ _ ⟨j+1,rfl,rfl,⟨by omega,fun k hk=>by
      rcases Nat.lt_succ_iff_lt_or_eq.1 hk with hk|rfl
      ·exact g2 k hk
      ·exact hxy⟩,rfl⟩ (by omega) (by repeat' first|exact trivial|refine And.intro rfl ?_)
  ·repeat' (first|refine Sg.Y3 ?_|(apply S.condQ;apply rfl;all_goals intro _)|fail)
   obtain rfl:j=i:=by omega
   exact ih _ _ _ _ ⟨j+1,rfl,rfl,⟨by omega,by
    rw [List.take_succ_eq_append_getElem h3,List.map_append,List.nodup_append]
    refine ⟨h2,by simp,fun a ha b hb' e=>?_⟩
    obtain ⟨z,hz,rfl⟩:=List.mem_map.1 ha
    obtain ⟨k,hk,rfl⟩:=List.mem_iff_getElem.1 hz
    rw [List.length_take] at hk
    rw [List.map_singleton,List.mem_singleton] at hb'
    have e1:l.getD k []=(l.take j)[k]:=by rw [List.getElem_take,List.getD_eq_getElem?_getD,List.getElem?_eq_getElem (by omega)];rfl
    have e2:l.getD j []=l[j]:=by rw [List.getD_eq_getElem?_getD,List.getElem?_eq_getElem h3];rfl
    refine g2 k (by omega) (Eq.symm ?_)
    rw [e1,e,hb',←e2]⟩,rfl⟩ (by omega) (by repeat' first|exact trivial|refine And.intro rfl ?_)
 ·repeat' (first|refine Sg.Y3 ?_|(apply S.condQ;apply rfl;all_goals intro _)|fail)
  exact ⟨_,PSub.refl _,true,rfl,fun _=>(by rw [List.take_of_length_le (by omega)] at h2;exact h2),rfl⟩
end
end Go.Proofs.YtophlopiigpbgaaGreatDoor
/- The library's contracts, laid at this program (printed by the kit's tools lay-shelf and lay-plain, cut out by a program). -/
namespace Go.Proofs
open Go.Shelf
def Tryz.laysM171_ren:Go.Shelf.Ren:=⟨fun|171=>40|243=>68|246=>102|283=>126|284=>127|285=>128|286=>129|129=>151|317=>150|318=>152|319=>153|320=>154|337=>170|338=>171|n=>n,fun|3=>3|9=>9|2=>2|4=>4|171=>180|0=>0|53=>159|37=>45|5=>5|173=>183|212=>209|51=>160|20=>20|213=>210|46=>118|232=>228|233=>229|n=>n,fun|17=>11|18=>14|19=>15|n=>n⟩
theorem Tryz.laysM171:Go.Proofs.LaysM.n171 Tryz.prog Tryz.laysM171_ren:={
 mixed:=by kernel_rfl
 f129:=Tryz.func151.trans (congrArg some (by kernel_rfl))
 f171:=Tryz.func40.trans (congrArg some (by kernel_rfl))
 f243:=Tryz.func68.trans (congrArg some (by kernel_rfl))
 f246:=Tryz.func102.trans (congrArg some (by kernel_rfl))
 f283:=Tryz.func126.trans (congrArg some (by kernel_rfl))
 f284:=Tryz.func127.trans (congrArg some (by kernel_rfl))
 f285:=Tryz.func128.trans (congrArg some (by kernel_rfl))
 f286:=Tryz.func129.trans (congrArg some (by kernel_rfl))
 f317:=Tryz.func150.trans (congrArg some (by kernel_rfl))
 f318:=Tryz.func152.trans (congrArg some (by kernel_rfl))
 f319:=Tryz.func153.trans (congrArg some (by kernel_rfl))
 f320:=Tryz.func154.trans (congrArg some (by kernel_rfl))
 f337:=Tryz.func170.trans (congrArg some (by kernel_rfl))
 f338:=Tryz.func171.trans (congrArg some (by kernel_rfl))
 t0:=Tryz.underlying0
 a0:=Tryz.isAgg0
 z0:=Tryz.sizeOf0
 v0:=Tryz.zeroValue0
 t2:=Tryz.underlying2
 a2:=Tryz.isAgg2
 z2:=Tryz.sizeOf2
 v2:=Tryz.zeroValue2
 t3:=Tryz.underlying3
 a3:=Tryz.isAgg3
 z3:=Tryz.sizeOf3
 v3:=Tryz.zeroValue3
 t4:=Tryz.underlying4
 a4:=Tryz.isAgg4
 z4:=Tryz.sizeOf4
 v4:=Tryz.zeroValue4
 t5:=Tryz.underlying5
 a5:=Tryz.isAgg5
 z5:=Tryz.sizeOf5
 v5:=Tryz.zeroValue5
 t9:=Tryz.underlying9
 a9:=Tryz.isAgg9
 z9:=Tryz.sizeOf9
 v9:=Tryz.zeroValue9
 t20:=Tryz.underlying20
 a20:=Tryz.isAgg20
 z20:=Tryz.sizeOf20
 v20:=Tryz.zeroValue20
 t37:=Tryz.underlying45
 a37:=Tryz.isAgg45
 z37:=Tryz.sizeOf45
 v37:=Tryz.zeroValue45
 t46:=Tryz.underlying118
 a46:=Tryz.isAgg118
 z46:=Tryz.sizeOf118
 v46:=Tryz.zeroValue118
 t51:=Tryz.underlying160
 a51:=Tryz.isAgg160
 z51:=Tryz.sizeOf160
 v51:=Tryz.zeroValue160
 t53:=Tryz.underlying159
 a53:=Tryz.isAgg159
 z53:=Tryz.sizeOf159
 v53:=Tryz.zeroValue159
 t171:=Tryz.underlying180
 a171:=Tryz.isAgg180
 z171:=Tryz.sizeOf180
 v171:=Tryz.zeroValue180
 t173:=Tryz.underlying183
 a173:=Tryz.isAgg183
 z173:=Tryz.sizeOf183
 v173:=Tryz.zeroValue183
 t212:=Tryz.underlying209
 a212:=Tryz.isAgg209
 z212:=Tryz.sizeOf209
 v212:=Tryz.zeroValue209
 t213:=Tryz.underlying210
 a213:=Tryz.isAgg210
 z213:=Tryz.sizeOf210
 t232:=Tryz.underlying228
 a232:=Tryz.isAgg228
 z232:=Tryz.sizeOf228
 v232:=Tryz.zeroValue228
 t233:=Tryz.underlying229
 a233:=Tryz.isAgg229
 z233:=Tryz.sizeOf229
 v233:=Tryz.zeroValue229
 g17:=by kernel_rfl
 g18:=by kernel_rfl
 g19:=by kernel_rfl
 i0:=by kernel_rfl
 i2:=by kernel_rfl
 i3:=by kernel_rfl
 i4:=by kernel_rfl
 i5:=by kernel_rfl
 i9:=by kernel_rfl
 i20:=by kernel_rfl
 i37:=by kernel_rfl
 i46:=by kernel_rfl
 i51:=by kernel_rfl
 i53:=by kernel_rfl
 i171:=by kernel_rfl
 i173:=by kernel_rfl
 i212:=by kernel_rfl
 i232:=by kernel_rfl
 i233:=by kernel_rfl
 m17:=by kernel_rfl
 m18:=by kernel_rfl
 m19:=by kernel_rfl }
open Go.RowKit Go.Sort Go.Lib in
theorem Tryz.strconv_Itoa (n : Int) (h0 : -9223372036854775808 ≤ n) (h1 : n ≤ 9223372036854775807) (w : World) (htab : Lib.TabIs Tryz.prog w "internal/strconv.uint64pow10" .u64 Lib.pow10Tab) :
  Calls Tryz.prog 40 #[.int .i64 n] w fun e w'=>e=.returned (.string ⟨(Lib.itoa n).toArray⟩)∧∃ k os,w'=grow (w.drewN k) os:=Any.strconv_Itoa Tryz.laysM171 n h0 h1 w htab
end Go.Proofs
