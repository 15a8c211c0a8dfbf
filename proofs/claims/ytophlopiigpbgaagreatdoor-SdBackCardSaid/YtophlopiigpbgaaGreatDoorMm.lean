/- Texts put together by a program: PrA PrB PrC PrD PrE. -/
import Derived.Test.YtophlopiigpbgaaGreatDoorMb
import Derived.Test.YtophlopiigpbgaaGreatDoorMc
import Derived.Lib.ItoaMem
import Derived.Test.YtophlopiigpbgaaGreatDoorMl
set_option linter.unusedVariables false
set_option linter.unusedSimpArgs false
/- What has been spelled is read back: strings; plain. -/
namespace Sg
open Go.Lib
theorem Z0o {t r:List UInt8} {p:Nat} {c:UInt8} (h:t.drop p=c::r):t[p]?=some c∧t.drop (p+1)=r:=by
 have h1:(t.drop p)[0]?=some c:=by rw [h];rfl
 rw [List.getElem?_drop,Nat.add_zero] at h1
 refine ⟨h1,?_⟩
 rw [←List.drop_drop,h]
 rfl
theorem Z0l {t r:List UInt8} {p:Nat} {c:UInt8} (h:t.drop p=c::r) (d:UInt8):atB t p d=(c==d):=by
 unfold atB
 rw [(Z0o h).1]
 by_cases e:c=d
 ·subst e;simp
 ·have:¬(some c=some d):=fun h=>e (Option.some.inj h)
  rw [beq_eq_false_iff_ne.2 e,beq_eq_false_iff_ne.2 this]
theorem Zdp {t:List UInt8} {p:Nat} (h:t.drop p=[]) (d:UInt8):atB t p d=false:=by
 unfold atB
 have:t[p]?=none:=List.getElem?_eq_none_iff.2 (by have:=congrArg List.length h;rw [List.length_drop,List.length_nil] at this;omega)
 rw [this]
 rfl
theorem Z6o:∀ k:Fin 16,hexN (hexD k.val)=some k.val:=by decide
theorem Zcw:∀ k:Fin 128,utfL k.val=[UInt8.ofNat k.val]:=by decide
theorem Z7z {c:UInt8} (h:c.toNat < 128):utfL c.toNat=[c]:=by
 have:=Zcw ⟨c.toNat,h⟩
 simp only at this
 rw [this,UInt8.ofNat_toNat]
theorem Zdb {t r:List UInt8} {p a b:Nat} (ha:a < 2) (hb:b < 16) (h:t.drop p=92::117::48::48::hexD a::hexD b::r):escX t p=.ok (p+6) (16*a+b):=by
 obtain ⟨-,h1⟩:=Z0o h
 obtain ⟨g1,h2⟩:=Z0o h1
 obtain ⟨g2,h3⟩:=Z0o h2
 obtain ⟨g3,h4⟩:=Z0o h3
 obtain ⟨g4,h5⟩:=Z0o h4
 obtain ⟨g5,-⟩:=Z0o h5
 have xa:=Z6o ⟨a,by omega⟩
 have xb:=Z6o ⟨b,hb⟩
 simp only at xa xb
 have x0:hexN 48=some 0:=by decide
 have hf:Z01 t false p 4 (p+2) 0=.ok (p+6) (16*a+b):=by
  have n0:Z0u false 0 0 0=false:=by decide
  have n1:Z0u false 1 0 0=false:=by decide
  have n2:Z0u false 2 0 a=false:=by simp [Z0u]
  have n3:Z0u false 3 a b=false:=by simp [Z0u]
  have r4:∀ q u,Z01 t false p 0 q u=.ok q u:=fun q u=>by rw [Z01]
  rw [Z01,show p+2=p+1+1 by omega,g2]
  simp only
  rw [x0]
  simp only
  rw [n0,if_neg (by simp),Z01,g3]
  simp only
  rw [x0]
  simp only
  rw [n1,if_neg (by simp),Z01,g4]
  simp only
  rw [xa]
  simp only
  rw [show 16*(16*0+0)+0=0 from rfl,n2,if_neg (by simp),Z01,g5]
  simp only
  rw [xb]
  simp only
  rw [show 16*0+a=a by omega,n3,if_neg (by simp),r4]
 unfold escX
 rw [g1]
 simp only
 rw [if_pos trivial]
 unfold Z1M
 rw [hf]
 show (if 16*a+b < 55296∨57343 < 16*a+b then Gt.ok (p+6) (16*a+b) else _)=_
 rw [if_pos (by omega)]
theorem Zda {t r:List UInt8} {p u:Nat} {x:UInt8} (hx:x≠117) (hu:escS x=some u) (h:t.drop p=92::x::r):escX t p=.ok (p+2) u:=by
 obtain ⟨-,h1⟩:=Z0o h
 obtain ⟨g1,-⟩:=Z0o h1
 unfold escX
 rw [g1]
 simp only
 rw [if_neg hx,hu]
theorem Zbl {t r acc:List UInt8} {f p:Nat} {c:UInt8} (hc:c.toNat < 128) (h:t.drop p=qB c++r):ZD t (f+1) p acc=ZD t f (p+(qB c).length) (acc++[c]):=by
 have esc:∀ {x:UInt8} {u:Nat} {q:Nat},t[p]?=some 92→escX t p=.ok q u→utfL u=[c]→ZD t (f+1) p acc=ZD t f q (acc++[c]):=fun {x u q} g1 g2 g3=>by
  rw [ZD,g1]
  simp only
  rw [if_neg (by decide),if_neg (by decide),if_pos trivial,g2]
  show ZD t f q (acc++utfL u)=_
  rw [g3]
 have two:∀ {x:UInt8},qB c=[92,x]→x≠117→escS x=some c.toNat→ZD t (f+1) p acc=ZD t f (p+(qB c).length) (acc++[c]):=fun {x} g1 g2 g3=>by
  rw [g1] at h ⊢
  exact esc (x:=x) (Z0o h).1 (Zda g2 g3 h) (Z7z hc)
 have nat:∀ {k:Nat},k < 256→c.toNat=k→c=UInt8.ofNat k:=fun {k} hk e=>by rw [←e,UInt8.ofNat_toNat]
 by_cases k34:c.toNat=34
 ·obtain rfl:=nat (by decide) k34
  exact two (x:=34) (by decide) (by decide) (by decide)
 by_cases k92:c.toNat=92
 ·obtain rfl:=nat (by decide) k92
  exact two (x:=92) (by decide) (by decide) (by decide)
 by_cases k8:c.toNat=8
 ·obtain rfl:=nat (by decide) k8
  exact two (x:=98) (by decide) (by decide) (by decide)
 by_cases k12:c.toNat=12
 ·obtain rfl:=nat (by decide) k12
  exact two (x:=102) (by decide) (by decide) (by decide)
 by_cases k10:c.toNat=10
 ·obtain rfl:=nat (by decide) k10
  exact two (x:=110) (by decide) (by decide) (by decide)
 by_cases k13:c.toNat=13
 ·obtain rfl:=nat (by decide) k13
  exact two (x:=114) (by decide) (by decide) (by decide)
 by_cases k9:c.toNat=9
 ·obtain rfl:=nat (by decide) k9
  exact two (x:=116) (by decide) (by decide) (by decide)
 by_cases k32:c.toNat < 32
 ·have e:qB c=[92,117,48,48,hexD (c.toNat / 16),hexD (c.toNat % 16)]:=by
   unfold qB
   rw [if_neg (by omega),if_neg k8,if_neg k12,if_neg k10,if_neg k13,if_neg k9,if_pos k32]
  rw [e] at h ⊢
  refine esc (x:=0) (Z0o h).1 (Zdb (by omega) (by omega) h) ?_
  rw [show 16*(c.toNat / 16)+c.toNat % 16=c.toNat by omega]
  exact Z7z hc
 ·have e:qB c=[c]:=by
   unfold qB
   rw [if_neg (by omega),if_neg k8,if_neg k12,if_neg k10,if_neg k13,if_neg k9,if_neg k32]
  rw [e] at h ⊢
  have ne:∀ {d:UInt8},c.toNat≠d.toNat→¬c=d:=fun hd h=>hd (by rw [h])
  rw [ZD,(Z0o h).1]
  simp only
  rw [if_neg (by rw [UInt8.lt_iff_toNat_lt];exact k32),if_neg (ne (d:=34) k34),if_neg (ne (d:=92) k92),if_pos (by rw [UInt8.lt_iff_toNat_lt];exact hc)]
  rfl
set_option maxRecDepth 100000 in
theorem ZbX {n b0 b1 b2 b3:Nat} (h:128≤b0):decodeN n b0 b1 b2 b3=(65533,1)∨∃ w,(decodeN n b0 b1 b2 b3).2=w∧2≤w∧w≤4∧w≤n∧(1 < w→128≤b1)∧(2 < w→128≤b2)∧(3 < w→128≤b3):=by
 unfold decodeN
 repeat' split
 all_goals first
  | exact .inl rfl
  | (exfalso;omega)
  | exact .inr ⟨_,rfl,by omega,by omega,by omega,by omega,by omega,by omega⟩
theorem Z6s:∀ {l:List UInt8},(∀ c∈l,128≤c.toNat)→l.flatMap qB=l
 | [],_=>rfl
 | c::r,h=>by
  have h1:=h c (List.mem_cons_self ..)
  rw [List.flatMap_cons,Z6s fun d hd=>h d (List.mem_cons_of_mem _ hd)]
  have:qB c=[c]:=by
   unfold qB
   rw [if_neg (by omega),if_neg (by omega),if_neg (by omega),if_neg (by omega),if_neg (by omega),if_neg (by omega),if_neg (by omega)]
  rw [this]
  rfl
theorem Z9M {t r acc s:List UInt8} {f p:Nat} {c:UInt8} (hc:128≤c.toNat) (hv:validD (c::s)=true) (h:t.drop p=(c::s).flatMap qB++r) :
  ∃ w,2≤w∧w≤(c::s).length∧validD ((c::s).drop w)=true∧((c::s).take w).flatMap qB=(c::s).take w∧ZD t (f+1) p acc=ZD t f (p+w) (acc++(c::s).take w):=by
 rw [validD_step _ (by simp),decodeL_N] at hv
 have hg0:((c::s).getD 0 0).toNat=c.toNat:=rfl
 rcases ZbX (n:=(c::s).length) (b0:=((c::s).getD 0 0).toNat) (b1:=((c::s).getD 1 0).toNat) (b2:=((c::s).getD 2 0).toNat) (b3:=((c::s).getD 3 0).toNat) (by rw [hg0];exact hc) with h1|⟨w,h1,h2,h3,h4,h5,h6,h7⟩
 ·rw [h1,if_pos ⟨rfl,rfl⟩] at hv
  cases hv
 rw [h1,if_neg (by omega)] at hv
 have hbytes:∀ d∈(c::s).take w,128≤d.toNat:=fun d hd=>by
  obtain ⟨i,hi,rfl⟩:=List.mem_iff_getElem.1 hd
  rw [List.length_take] at hi
  rw [List.getElem_take]
  have hgi:((c::s).getD i 0)=(c::s)[i]:=by rw [List.getD_eq_getElem?_getD,List.getElem?_eq_getElem (show i < (c::s).length by omega)];rfl
  rw [←hgi]
  rcases (by omega:i=0∨i=1∨i=2∨i=3) with rfl|rfl|rfl|rfl
  ·exact hc
  ·exact h5 (by omega)
  ·exact h6 (by omega)
  ·exact h7 (by omega)
 have hfl:=Z6s hbytes
 have hsplit:t.drop p=(c::s).take w++(((c::s).drop w).flatMap qB++r):=by
  rw [h]
  conv=>lhs;rw [←List.take_append_drop w (c::s),List.flatMap_append,hfl]
  rw [List.append_assoc]
 have hlw:((c::s).take w).length=w:=by rw [List.length_take];omega
 have hget:∀ k,k < w→t.getD (p+k) 0=(c::s).getD k 0:=fun k hk=>by
  rw [←getD_dropU,hsplit,Z1R (by omega),getD_takeU _ _ _ hk]
 have hpc:t[p]?=some c:=by
  have:t.drop p=c::(((c::s).take w).drop 1++(((c::s).drop w).flatMap qB++r)):=by
   rw [hsplit]
   obtain ⟨k,rfl⟩:∃ k,w=k+1:=⟨w - 1,by omega⟩
   rfl
  exact (Z0o this).1
 have hle:w≤t.length - p:=by
  have:=congrArg List.length hsplit
  rw [List.length_drop,List.length_append,hlw] at this
  omega
 have hdw:=Z3i (c2:=((c::s).getD 2 0).toNat) (c3:=((c::s).getD 3 0).toNat) h1 h2 (fun _=>rfl) (fun _=>rfl)
 have hdt:=decodeN_more w (t.length - p) _ _ _ _ (bAt t (p+1)) (bAt t (p+2)) (bAt t (p+3)) h2 hle hdw (fun h=>by rw [bAt,hget 1 h]) (fun h=>by rw [bAt,hget 2 h]) (fun h=>by rw [bAt,hget 3 h])
 have hss:=Z5i hpc hc
 rw [hg0] at hdt hdw
 have hw2:(decodeN (t.length - p) c.toNat (bAt t (p+1)) (bAt t (p+2)) (bAt t (p+3))).2=w:=by rw [hdt];exact hdw
 refine ⟨w,h2,h4,hv,hfl,?_⟩
 have ne:∀ {d:UInt8},d.toNat < 128→¬c=d:=fun hd h=>by rw [h] at hc;omega
 rw [ZD,hpc]
 simp only
 rw [if_neg (by rw [UInt8.lt_iff_toNat_lt];have:(32:UInt8).toNat=32:=rfl;omega),if_neg (ne (by decide)),if_neg (ne (by decide)),if_neg (by rw [UInt8.lt_iff_toNat_lt];have:(128:UInt8).toNat=128:=rfl;omega)]
 cases hq:Z2D t p c with
 | bad e b =>
  rw [hq] at hss
  have:=hss.1
  rw [this] at hw2
  simp only at hw2
  omega
 | ok a u =>
  rw [hq] at hss
  obtain ⟨s1,s2,s3⟩:=hss
  obtain rfl:a=p+w:=by omega
  show ZD t f (p+w) (acc++(t.drop p).take (p+w - p))=_
  rw [show p+w - p=w by omega,hsplit,List.take_left' hlw]
theorem Z3T {t:List UInt8}:∀ (f:Nat) {p:Nat} {s r acc:List UInt8},s.length < f→validD s=true→t.drop p=s.flatMap qB++34::r→ZD t f p acc=.ok (p+(s.flatMap qB).length+1) (acc++s)
 | 0,p,s,r,acc,hf,_,_=>by omega
 | f+1,p,[],r,acc,hf,hv,h=>by
  rw [ZD,(Z0o h).1]
  simp only
  rw [if_neg (by decide),if_pos trivial]
  simp
 | f+1,p,c::s,r,acc,hf,hv,h=>by
  rw [List.length_cons] at hf
  by_cases hc:c.toNat < 128
  ·rw [List.flatMap_cons,List.append_assoc] at h
   rw [Zbl hc h,List.flatMap_cons,List.length_append]
   have h2:t.drop (p+(qB c).length)=s.flatMap qB++34::r:=by rw [←List.drop_drop,h,List.drop_left]
   rw [validD_cons _ _ hc] at hv
   rw [Z3T f (by omega) hv h2]
   simp [Nat.add_assoc]
  ·obtain ⟨w,h1,h2,h3,h4,h5⟩:=Z9M (f:=f) (acc:=acc) (by omega) hv h
   rw [h5]
   have e:(c::s).flatMap qB=(c::s).take w++((c::s).drop w).flatMap qB:=by
    conv=>lhs;rw [←List.take_append_drop w (c::s),List.flatMap_append,h4]
   have hlw:((c::s).take w).length=w:=by rw [List.length_take];omega
   have h6:t.drop (p+w)=((c::s).drop w).flatMap qB++34::r:=by
    rw [←List.drop_drop,h,e,List.append_assoc,List.drop_left' hlw]
   rw [Z3T f (by rw [List.length_drop,List.length_cons];omega) h3 h6,e,List.length_append,hlw,List.append_assoc,List.take_append_drop,Nat.add_assoc p w]
theorem Z3R {t r s:List UInt8} {p:Nat} (hv:validD s=true) (h:t.drop p=quoS s++r):ZL t (p+1)=.ok (p+(quoS s).length) s:=by
 have h1:t.drop p=34::(s.flatMap qB++34::r):=by rw [h];simp [quoS]
 obtain ⟨-,h2⟩:=Z0o h1
 have hle:∀ l:List UInt8,l.length≤(l.flatMap qB).length:=fun l=>by
  induction l with
  | nil=>exact Nat.le_refl _
  | cons c r ih =>
   have:1≤(qB c).length:=by
    unfold qB
    repeat' split
    all_goals simp
   rw [List.flatMap_cons,List.length_append,List.length_cons]
   omega
 have hl:=congrArg List.length h2
 rw [List.length_drop,List.length_append,List.length_cons] at hl
 have:=hle s
 unfold ZL
 rw [Z3T _ (by omega) hv h2,List.nil_append]
 congr 1
 simp [quoS]
 omega
end Sg
/- What has been spelled is read back: numbers, and what is no list and no object; plain. -/
namespace Sg
open Go.Lib
theorem ZaI (c:UInt8) (s:List UInt8):(s=c::(cutP c s).1∧(cutP c s).2=true)∨((cutP c s).1=s∧(cutP c s).2=false):=by
 cases s with
 | nil=>exact .inr ⟨rfl,rfl⟩
 | cons x r =>
  unfold cutP
  by_cases h:x=c
  ·subst h
   simp
  ·simp [h]
theorem Z4q {s:List UInt8} (h:runD s≠0):Digs (s.take (runD s))∧s=s.take (runD s)++s.drop (runD s):=by
 have e:s.take (runD s)=s.takeWhile ZA:=by
  unfold runD
  obtain ⟨r,hr⟩:=List.takeWhile_prefix ZA (l:=s)
  conv=>lhs;rw [←hr]
  rw [List.take_append_of_le_length (by rw [hr];exact Nat.le_refl _)]
  conv=>lhs;rw [hr]
  exact List.take_of_length_le (Nat.le_refl _)
 refine ⟨⟨fun h0=>?_,fun c hc=>?_⟩,(List.take_append_drop _ _).symm⟩
 ·rw [e] at h0
  exact h (by unfold runD;rw [h0];rfl)
 ·rw [e] at hc
  exact Z7Y hc
theorem Z7V {t:List UInt8} (h:(numP t).isSome=true):∃ M D F E,t=M++(D++(F++E))∧NumS M D F E:=by
 unfold numP at h
 split at h
 ·cases h
 rename_i hb
 obtain ⟨M,hM,eM⟩:∃ M:List UInt8,(M=[]∨M=[45])∧t=M++(cutP 45 t).1:=by
  rcases ZaI 45 t with ⟨h1,-⟩|⟨h1,-⟩
  ·exact ⟨[45],.inr rfl,h1⟩
  ·exact ⟨[],.inl rfl,h1.symm⟩
 generalize (cutP 45 t).1=s at h hb eM
 generalize (cutP 45 t).2=mi at h
 unfold Z3h at hb
 simp only [Bool.or_eq_true,Bool.and_eq_true,decide_eq_true_eq,not_or,not_and] at hb
 obtain ⟨hb1,hb2⟩:=hb
 obtain ⟨d1,d2⟩:=Z4q hb1
 have hD:s.take (runD s)=[48]∨(Digs (s.take (runD s))∧(s.take (runD s)).head?≠some 48):=by
  by_cases h1:runD s=1
  ·by_cases h48:(s.take (runD s)).head?=some 48
   ·left
    cases s with
    | nil=>exact absurd h48 (by simp)
    | cons x r =>
     rw [h1] at h48 ⊢
     have:x=48:=by simpa using h48
     subst this
     rfl
   ·exact .inr ⟨d1,h48⟩
  ·right
   refine ⟨d1,fun h48=>hb2 (by omega) ?_⟩
   obtain ⟨k,hk⟩:∃ k,runD s=k+1:=⟨runD s - 1,by omega⟩
   cases s with
   | nil=>rw [hk] at h48;exact absurd h48 (by simp)
   | cons x r =>
    rw [hk] at h48
    have:x=48:=by simpa using h48
    subst this
    rfl
 generalize s.take (runD s)=D at *
 generalize s.drop (runD s)=s2 at *
 obtain ⟨F,s3,hF,eF,hE⟩:∃ (F s3:List UInt8),(F=[]∨∃ r,F=46::r∧Digs r)∧s2=F++s3∧(match expP s3 with|none=>False|some x=>x.1=[]):=by
  have hx:∀ {p1:Bool} {s3:List UInt8},(match (some (s3,p1):Option (List UInt8 × Bool)) with|none=>(none:Option (Bool × List UInt8 × Bool))|some (s3,p1)=>match expP s3 with|none=>none|some (s6,p2)=>if s6=[] then some (mi,D,p1&&p2) else none).isSome=true→(match expP s3 with|none=>False|some x=>x.1=[]):=fun {p1 s3} h=>by
   simp only at h
   cases he:expP s3 with
   | none=>rw [he] at h;cases h
   | some x =>
    rw [he] at h
    simp only at h ⊢
    by_cases hx:x.1=[]
    ·exact hx
    ·rw [if_neg hx] at h;cases h
  unfold Z8S at h
  rcases ZaI 46 s2 with ⟨h1,h2⟩|⟨h1,h2⟩
  ·rw [h2,if_pos rfl] at h
   by_cases h3:runD (cutP 46 s2).1=0
   ·rw [if_pos h3] at h;cases h
   ·rw [if_neg h3] at h
    obtain ⟨g1,g2⟩:=Z4q h3
    refine ⟨46::(cutP 46 s2).1.take (runD (cutP 46 s2).1),(cutP 46 s2).1.drop (runD (cutP 46 s2).1),.inr ⟨_,rfl,g1⟩,?_,hx h⟩
    rw [List.cons_append,←g2]
    exact h1
  ·rw [h2,if_neg (by simp)] at h
   exact ⟨[],s2,.inl rfl,rfl,hx h⟩
 refine ⟨M,D,F,s3,by rw [eM,←eF,←d2],⟨hM,hD,hF,?_⟩⟩
 cases s3 with
 | nil=>exact .inl rfl
 | cons x r =>
  right
  unfold expP at hE
  simp only at hE
  split at hE
  ·cases hE
  ·rename_i q hq
   split at hq
   ·rename_i hx
    split at hq
    ·cases hq
    ·rename_i hn
     rw [not_or,Decidable.not_not] at hn
     obtain ⟨sg,hs,es⟩:∃ sg:List UInt8,(sg=[]∨sg=[43]∨sg=[45])∧r=sg++Z2h r:=by
      unfold Z2h
      cases r with
      | nil=>exact ⟨[],.inl rfl,rfl⟩
      | cons y r' =>
       simp only
       by_cases hy:y=43∨y=45
       ·rw [if_pos hy]
        rcases hy with rfl|rfl
        ·exact ⟨[43],.inr (.inl rfl),rfl⟩
        ·exact ⟨[45],.inr (.inr rfl),rfl⟩
       ·rw [if_neg hy]
        exact ⟨[],.inl rfl,rfl⟩
     refine ⟨x,sg,Z2h r,by rw [←es],hx,hs,?_⟩
     have h0:runD (Z2h r)≠0:=by
      rw [hn.2]
      exact fun h=>hn.1 (List.eq_nil_of_length_eq_zero h)
     have:=(Z4q h0).1
     rw [hn.2,List.take_of_length_le (Nat.le_refl _)] at this
     exact this
   ·cases hq
    simp at hE
def Stop (r:List UInt8):Prop:=∀ c,r.head?=some c→c=44∨c=93∨c=125
theorem Stop.nil:Stop []:=fun c h=>by cases h
theorem Stop.num {r:List UInt8} (h:Stop r) {c:UInt8} (hc:r.head?=some c):ZA c=false∧c≠46∧c≠101∧c≠69∧c.toNat≠32∧c.toNat≠9∧c.toNat≠13∧c.toNat≠10:=by
 rcases h c hc with rfl|rfl|rfl<;>decide
theorem Z4r {t D r:List UInt8} {p:Nat} (hD:Digs D) (h:t.drop p=D++r) (hr:∀ c,r.head?=some c→ZA c=false):Z0P t p=.ok (p+D.length) ():=by
 have e:Z1E t p=p+D.length:=by
  unfold Z1E
  rw [h,Zcb hD.2 hr]
 have:D.length≠0:=fun h=>hD.1 (List.eq_nil_of_length_eq_zero h)
 unfold Z0P
 rw [e,if_neg (by omega)]
theorem Z3u {a b:List UInt8} {c:UInt8} (h:(a++b).head?=some c):(a=[]∧b.head?=some c)∨a.head?=some c:=by
 cases a with
 | nil=>exact .inl ⟨rfl,h⟩
 | cons x a=>exact .inr h
theorem Z2R {t l:List UInt8} {p:Nat} (h:t.drop p=l) {d:UInt8} (hd:l.head?≠some d):atB t p d=false:=by
 cases l with
 | nil=>exact Zdp h d
 | cons x l =>
  rw [Z0l h]
  exact beq_eq_false_iff_ne.2 fun e=>hd (by rw [e];rfl)
theorem ZbQ {t E r:List UInt8} {p:Nat} (hE:E=[]∨∃ x sg r,E=x::(sg++r)∧(x=101∨x=69)∧(sg=[]∨sg=[43]∨sg=[45])∧Digs r) (hr:Stop r) (h:t.drop p=E++r):Z1N t p=.ok (p+E.length) ():=by
 unfold Z1N
 rcases hE with rfl|⟨x,sg,D,rfl,hx,hs,hD⟩
 ·rw [List.nil_append] at h
  have n1:atB t p 101=false:=Z2R h fun hd=>(hr.num hd).2.2.1 rfl
  have n2:atB t p 69=false:=Z2R h fun hd=>(hr.num hd).2.2.2.1 rfl
  rw [n1,n2]
  rfl
 ·have h1:t.drop p=x::(sg++(D++r)):=by rw [h];simp
  have hx2:(atB t p 101 || atB t p 69)=true:=by
   rw [Z0l h1,Z0l h1]
   rcases hx with rfl|rfl<;>rfl
  rw [hx2,if_pos rfl]
  obtain ⟨-,h2⟩:=Z0o h1
  have hd0:∀ c,D.head?=some c→ZA c=true:=fun c hc=>hD.2 c (List.mem_of_mem_head? hc)
  have e:Z0g t (p+1)=p+1+sg.length∧t.drop (p+1+sg.length)=D++r:=by
   unfold Z0g
   rcases hs with rfl|rfl|rfl
   ·rw [List.nil_append] at h2
    have n:∀ d:UInt8,ZA d=false→atB t (p+1) d=false:=fun d hd=>Z2R h2 fun hh=>by
     rcases Z3u hh with ⟨h3,-⟩|h3
     ·exact hD.1 h3
     ·rw [hd0 _ h3] at hd;cases hd
    rw [n 43 (by decide),n 45 (by decide)]
    exact ⟨rfl,h2⟩
   ·rw [Z0l h2]
    exact ⟨rfl,(Z0o h2).2⟩
   ·rw [Z0l h2,Z0l h2]
    exact ⟨rfl,(Z0o h2).2⟩
  rw [e.1,Z4r hD e.2 fun c hc=>(hr.num hc).1]
  congr 1
  simp
  omega
theorem Zbt {t M D F E r:List UInt8} {p:Nat} (hs:NumS M D F E) (hr:Stop r) (h:t.drop p=M++(D++(F++E))++r):numX t p=.ok (p+(M++(D++(F++E))).length) ():=by
 have hE:=hs.e
 have hEr:∀ c,(E++r).head?=some c→ZA c=false∧c≠46:=fun c hc=>by
  rcases Z3u hc with ⟨-,h1⟩|h1
  ·exact ⟨(hr.num h1).1,(hr.num h1).2.1⟩
  ·rcases hE with rfl|⟨x,sg,D,rfl,hx,-⟩
   ·cases h1
   ·obtain rfl:x=c:=by simpa using h1
    rcases hx with rfl|rfl<;>decide
 have h0:t.drop (p+M.length)=D++(F++(E++r)):=by
  rw [←List.drop_drop,h]
  simp
 have h1:t.drop (p+M.length+D.length)=F++(E++r):=by rw [←List.drop_drop,h0,List.drop_left]
 have h2:t.drop (p+M.length+D.length+F.length)=E++r:=by rw [←List.drop_drop,h1,List.drop_left]
 have hDne:∃ c r',D=c::r'∧ZA c=true:=by
  rcases hs.d with rfl|⟨hD,-⟩
  ·exact ⟨48,[],rfl,rfl⟩
  ·cases D with
   | nil=>exact absurd rfl hD.1
   | cons c r'=>exact ⟨c,r',rfl,hD.2 c (List.mem_cons_self ..)⟩
 have hm:(if atB t p 45=true then p+1 else p)=p+M.length:=by
  rcases hs.m with rfl|rfl
  ·obtain ⟨c,r',rfl,hc⟩:=hDne
   have:t.drop p=c::(r'++(F++E)++r):=by rw [h];simp
   rw [Z0l this,if_neg]
   ·rfl
   ·intro he
    have:c=45:=by simpa using he
    subst this
    exact absurd hc (by decide)
  ·have:t.drop p=45::(D++(F++E)++r):=by rw [h];simp
   rw [Z0l this]
   rfl
 have hi:Z1C t (p+M.length)=.ok (p+M.length+D.length) ():=by
  unfold Z1C
  rcases hs.d with rfl|⟨hD,h48⟩
  ·rw [Z0l (r:=F++(E++r)) (c:=48) h0]
   rfl
  ·rw [Z2R h0 (d:=48) fun hh=>by
    rcases Z3u hh with ⟨h3,-⟩|h3
    ·exact hD.1 h3
    ·exact h48 h3]
   rw [if_neg (by simp)]
   refine Z4r hD h0 fun c hc=>?_
   rcases Z3u hc with ⟨h3,h4⟩|h3
   ·exact (hEr c h4).1
   ·rcases hs.f with rfl|⟨r',rfl,-⟩
    ·cases h3
    ·obtain rfl:46=c:=by simpa using h3
     decide
 have hf:Z0w t (p+M.length+D.length)=.ok (p+M.length+D.length+F.length) ():=by
  unfold Z0w
  rcases hs.f with rfl|⟨r',rfl,hd⟩
  ·rw [Z2R h1 (d:=46) fun hh=>(hEr _ hh).2 rfl]
   rfl
  ·rw [Z0l (r:=r'++(E++r)) (c:=46) h1]
   rw [show ((46:UInt8)==46)=true from rfl,if_pos rfl,Z4r hd (Z0o (r:=r'++(E++r)) h1).2 fun c hc=>(hEr c hc).1]
   congr 1
   simp
   omega
 unfold numX
 rw [hm,hi]
 show (Z0w t (p+M.length+D.length)).bind _=_
 rw [hf]
 show Z1N t (p+M.length+D.length+F.length)=_
 rw [ZbQ hE hr h2]
 congr 1
 simp
 omega
theorem Z5J {t:List UInt8}:∀ {w r:List UInt8} {p:Nat},t.drop p=w++r→Z0v t p w=.ok (p+w.length) ()
 | [],r,p,h=>by rw [Z0v];rfl
 | c::w,r,p,h=>by
  rw [Z0v,Z0l h]
  simp only [beq_self_eq_true,if_true]
  rw [Z5J (Z0o h).2]
  congr 1
  simp
  omega
theorem Z1f {n:Nd} (h:Zl validD n=true) (hr:¬ZF n):n.kids=0∧((n.kind=4∧(numP n.text).isSome=true∧n.whole=(Zb n.text).2∧n.int=(Zb n.text).1)∨(n.whole=false∧n.int=0∧((n.kind=5∧validD n.text=true)∨(n.text=[]∧(n.kind=1∨n.kind=2∨n.kind=3))))):=by
 unfold Zl at h
 unfold ZF at hr
 split at h
 ·cases h
 rename_i hc
 refine ⟨by omega,?_⟩
 split at h
 ·rename_i h4
  simp only [Bool.and_eq_true,decide_eq_true_eq,beq_iff_eq] at h
  exact .inl ⟨h4,h.1.1,h.1.2,h.2⟩
 ·rename_i h4
  split at h
  ·cases h
  ·rename_i hw
   rw [not_or,Decidable.not_not] at hw
   refine .inr ⟨by simpa using hw.1,hw.2,?_⟩
   split at h
   ·rename_i h5
    exact .inl ⟨h5,h⟩
   ·exact .inr ⟨by simpa using h,by omega⟩
def Z1D (n:Nd):List UInt8:=if n.kind=1 then [110,117,108,108] else if n.kind=2 then [102,97,108,115,101] else if n.kind=3 then [116,114,117,101] else if n.kind=4 then n.text else quoS n.text
theorem Zbs {s:List UInt8} (h:(numP s).isSome=true):∃ c r,s=c::r∧(c=45∨ZA c=true):=by
 obtain ⟨M,D,F,E,rfl,hs⟩:=Z7V h
 rcases hs.m with rfl|rfl
 ·rcases hs.d with rfl|⟨hD,-⟩
  ·exact ⟨48,F++E,rfl,.inr rfl⟩
  ·cases D with
   | nil=>exact absurd rfl hD.1
   | cons c r=>exact ⟨c,r++(F++E),rfl,.inr (hD.2 c (List.mem_cons_self ..))⟩
 ·exact ⟨45,_,rfl,.inl rfl⟩
theorem Z4j {t r:List UInt8} {p:Nat} {n:Nd} (hp:Zl validD n=true) (hl:¬ZF n) (hr:Stop r) (h:t.drop p=Z1D n++r) :
  ∃ c,t[p]?=some c∧¬(c=91∨c=123)∧Z10 c=false∧ZT Zb t p c=.ok (p+(Z1D n).length) [n.named []]:=by
 obtain ⟨hk,hcase⟩:=Z1f hp hl
 obtain ⟨n1,n2,n3,n4,n5,n6⟩:=n
 simp only at hk hcase
 subst hk
 rcases hcase with ⟨rfl,h1,h2,h3⟩|⟨rfl,rfl,⟨rfl,hv⟩|⟨rfl,h1⟩⟩
 ·have hls:Z1D ⟨4,n2,n3,n4,n5,0⟩=n3:=rfl
  rw [hls] at h ⊢
  obtain ⟨c,r',e,hc⟩:=Zbs h1
  obtain ⟨M,D,F,E,e2,hs⟩:=Z7V h1
  have h5:=Zbt hs hr (by rw [←e2];exact h)
  rw [←e2] at h5
  have h6:t.drop p=c::(r'++r):=by rw [h,e];rfl
  have hnot:c≠91∧c≠123∧c≠34∧Z10 c=false:=by
   rcases hc with rfl|hc
   ·decide
   ·refine ⟨?_,?_,?_,?_⟩
    ·rintro rfl;exact absurd hc (by decide)
    ·rintro rfl;exact absurd hc (by decide)
    ·rintro rfl;exact absurd hc (by decide)
    ·cases hb:Z10 c with
     | false=>rfl
     | true =>
      rw [blankB_iff] at hb
      rw [digitB_iff] at hc
      omega
  refine ⟨c,(Z0o h6).1,by simp [hnot.1,hnot.2.1],hnot.2.2.2,?_⟩
  unfold ZT
  rw [if_neg hnot.2.2.1,if_pos hc,h5]
  have hsl:sl t p (p+n3.length)=n3:=by unfold sl;rw [h,show p+n3.length - p=n3.length by omega,List.take_left]
  show Gt.ok _ [_]=_
  rw [hsl]
  simp [nd,Nd.named,h2,h3]
 ·have hls:Z1D ⟨5,n2,n3,false,0,0⟩=quoS n3:=rfl
  rw [hls] at h ⊢
  have h6:t.drop p=34::(n3.flatMap qB++[34]++r):=by rw [h];rfl
  refine ⟨34,(Z0o h6).1,by decide,by decide,?_⟩
  unfold ZT
  rw [if_pos rfl,Z3R hv h]
  rfl
 ·have key:∀ (c:UInt8) (w:List UInt8),Z1D ⟨n1,n2,[],false,0,0⟩=c::w→(∀ u,Z0v t p (c::w)=.ok u ()→ZT Zb t p c=.ok u [(⟨n1,n2,[],false,0,0⟩:Nd).named []])→¬(c=91∨c=123)→Z10 c=false→∃ c,t[p]?=some c∧¬(c=91∨c=123)∧Z10 c=false∧ZT Zb t p c=.ok (p+(Z1D ⟨n1,n2,[],false,0,0⟩).length) [(⟨n1,n2,[],false,0,0⟩:Nd).named []]:=fun c w e g1 g2 g3=>by
   rw [e] at h ⊢
   exact ⟨c,(Z0o (r:=w++r) h).1,g2,g3,g1 _ (Z5J h)⟩
  rcases h1 with rfl|rfl|rfl
  ·exact key 110 _ rfl (fun u hu=>by unfold ZT;rw [if_neg (by decide),if_neg (by decide),if_pos rfl,hu];rfl) (by decide) (by decide)
  ·exact key 102 _ rfl (fun u hu=>by unfold ZT;rw [if_neg (by decide),if_neg (by decide),if_neg (by decide),if_pos rfl,hu];rfl) (by decide) (by decide)
  ·exact key 116 _ rfl (fun u hu=>by unfold ZT;rw [if_neg (by decide),if_neg (by decide),if_neg (by decide),if_neg (by decide),if_pos rfl,hu];rfl) (by decide) (by decide)
end Sg
/- What has been spelled is read back: values; plain. -/
namespace Sg
open Go.Lib
def sp (x:List Nd):List UInt8:=Ze x.length x
theorem Z4H:∀ (f:Nat) {g:Nat} {x:List Nd},Fo 1 x→x.length≤f→x.length≤g→Ze f x=Ze g x
 | 0,g,x,h,hf,hg=>by have:=h.pos;omega
 | f+1,0,x,h,hf,hg=>by have:=h.pos;omega
 | f+1,g+1,x,h,hf,hg=>by
  obtain ⟨n,m,a,rfl,h1,h2⟩:=h.one_inv
  obtain ⟨xs,h3,rfl,h4⟩:=h2.list
  subst h3
  by_cases k1:n.kind=1
  ·rw [Ze,Ze,if_pos k1,if_pos k1]
  by_cases k2:n.kind=2
  ·rw [Ze,Ze,if_neg k1,if_pos k2,if_neg k1,if_pos k2]
  by_cases k3:n.kind=3
  ·rw [Ze,Ze,if_neg k1,if_neg k2,if_pos k3,if_neg k1,if_neg k2,if_pos k3]
  by_cases k4:n.kind=4
  ·rw [Ze,Ze,if_neg k1,if_neg k2,if_neg k3,if_pos k4,if_neg k1,if_neg k2,if_neg k3,if_pos k4]
  by_cases k5:n.kind=5
  ·rw [Ze,Ze,if_neg k1,if_neg k2,if_neg k3,if_neg k4,if_pos k5,if_neg k1,if_neg k2,if_neg k3,if_neg k4,if_pos k5]
  rw [Z0D h1 h4 k1 k2 k3 k4 k5,Z0D h1 h4 k1 k2 k3 k4 k5]
  have:xs.map (Z0S f (n.kind=7))=xs.map (Z0S g (n.kind=7)):=by
   refine List.map_congr_left fun y hy=>?_
   have hl:=Z0b hy
   rw [List.length_cons] at hf hg
   unfold Z0S
   rw [Z4H f (g:=g) (h4 y hy) (by omega) (by omega)]
  rw [this]
theorem Zea {x:List Nd} {f:Nat} (h:Fo 1 x) (hf:x.length≤f):Ze f x=sp x:=Z4H f h hf (Nat.le_refl _)
def itS (obj:Prop) [Decidable obj] (x:List Nd):List UInt8:=(if obj then quoS (Z3 x).key++[58] else [])++sp x
theorem Z1b {n:Nd} {xs:List (List Nd)} (hk:n.kids=(xs.length:Int)) (hf:∀ x∈xs,Fo 1 x) (hr:ZF n) :
  sp (n::xs.flatten)=(if n.kind=7 then 123 else 91)::(Zk (xs.map (itS (n.kind=7)))++[if n.kind=7 then 125 else 93]):=by
 have h6:∀ k:Int,k≠6→k≠7→n.kind≠k:=fun k h6 h7 h=>by
  rcases hr with h1|h1
  ·exact h6 (h.symm.trans h1)
  ·exact h7 (h.symm.trans h1)
 unfold sp
 rw [List.length_cons,Z0D hk hf (h6 1 (by decide) (by decide)) (h6 2 (by decide) (by decide)) (h6 3 (by decide) (by decide)) (h6 4 (by decide) (by decide)) (h6 5 (by decide) (by decide))]
 have:xs.map (Z0S xs.flatten.length (n.kind=7))=xs.map (itS (n.kind=7)):=by
  refine List.map_congr_left fun y hy=>?_
  unfold Z0S itS
  rw [Zea (hf y hy) (Z0b hy)]
 rw [this]
theorem Z2X {n:Nd} {x:List Nd} (h1:1≤n.kind∧n.kind≤5):sp (n::x)=Z1D n:=by
 unfold sp Z1D
 rw [List.length_cons,Ze]
 by_cases k1:n.kind=1
 ·rw [if_pos k1,if_pos k1]
 by_cases k2:n.kind=2
 ·rw [if_neg k1,if_pos k2,if_neg k1,if_pos k2]
 by_cases k3:n.kind=3
 ·rw [if_neg k1,if_neg k2,if_pos k3,if_neg k1,if_neg k2,if_pos k3]
 by_cases k4:n.kind=4
 ·rw [if_neg k1,if_neg k2,if_neg k3,if_pos k4,if_neg k1,if_neg k2,if_neg k3,if_pos k4]
 rw [if_neg k1,if_neg k2,if_neg k3,if_neg k4,if_pos (by omega),if_neg k1,if_neg k2,if_neg k3,if_neg k4]
theorem Z1g {n:Nd} (h:Zl validD n=true):1≤n.kind∧n.kind≤7:=⟨(Z3r h).1.1,(Z3r h).1.2.1⟩
theorem Z1J {t l:List UInt8} {p:Nat} {c:UInt8} (h:t.drop p=c::l) (hc:Z10 c=false):Z4 t p=p:=by
 unfold Z4
 rw [h,List.takeWhile_cons_of_neg (by simp [hc])]
 rfl
theorem Z2Y {D:Nat} {nm:Option (List (List UInt8))} {x:List Nd} (h:VOk D nm x):∃ c l,sp x=c::l∧Z10 c=false:=by
 obtain ⟨h1,h2,-,-,-,-,h3,h4⟩:=h.open_
 have hf:∀ y∈kidsOf x 0,Fo 1 y:=(Zj h.fo).2.1
 by_cases hr:ZF (Z3 x)
 ·rw [h1,Z1b h3 hf hr]
  refine ⟨_,_,rfl,?_⟩
  split<;>decide
 ·have hk:=Z1g h2
  have hk2:1≤(Z3 x).kind∧(Z3 x).kind≤5:=by unfold ZF at hr;omega
  rw [h1,Z2X hk2]
  obtain ⟨c,g1,g2,g3,g4⟩:=Z4j (t:=Z1D (Z3 x)) (p:=0) (r:=[]) h2 hr .nil (by simp)
  cases hl:Z1D (Z3 x) with
  | nil=>rw [hl] at g1;cases g1
  | cons d l =>
   rw [hl] at g1
   obtain rfl:d=c:=by simpa using g1
   exact ⟨d,l,rfl,g3⟩
theorem Z7o (obj:Bool) (r:List UInt8):Stop (ZB obj::r):=fun c hc=>by
 have:ZB obj=c:=by simpa using hc
 subst this
 cases obj<;>decide
theorem Z3Z (x:List Nd) (a b:List UInt8):Z6 (Z6 x a) b=Z6 x b:=by cases x<;>rfl
def Back (t:List UInt8) (d D p:Nat) (g:Gt (List Nd)) (w:List UInt8) (x:List Nd):Prop:=g=.ok (p+w.length) x∨(d < D∧∃ a,g=.bad 11 a)
theorem Zam {t:List UInt8} {d D:Nat} {obj:Bool} {names:List (List UInt8)} {nm:Option (List (List UInt8))} {y:List Nd} {p:Nat} {R:List UInt8}
  (hnm:if obj then ∃ ms,nm=some ms∧∀ k∈names,k∈ms else nm=none) (hy:VOk D nm y) (hR:Stop R) (h:t.drop p=itS (obj=true) y++R)
  (ih:∀ {q:Nat},t.drop q=sp y++R→Back t d D q (valX Zb t d q) (sp y) (Z6 y [])) :
  (∃ s,Z0M (valX Zb t d) t obj p names=.ok (p+(itS (obj=true) y).length) (y,s)∧(obj=true→s=(Z3 y).key))∨(d < D∧∃ a,Z0M (valX Zb t d) t obj p names=.bad 11 a):=by
 obtain ⟨-,-,h9,h10,h11,-,-,-⟩:=hy.open_
 have hself:=Z27 hy.fo rfl
 unfold itS at h ⊢
 unfold Z0M
 cases obj with
 | false =>
  rw [if_neg (by simp)] at hnm
  simp only [Bool.false_eq_true,if_false,List.nil_append] at h ⊢
  have hk:=h10 hnm
  rcases ih h with h1|⟨h1,a,h2⟩
  ·rw [h1]
   refine .inl ⟨[],?_,fun h=>by cases h⟩
   show Gt.ok _ (Z6 y [],[])=_
   rw [←hk,hself]
  ·rw [h2]
   exact .inr ⟨h1,a,rfl⟩
 | true =>
  rw [if_pos rfl] at hnm
  obtain ⟨ms,rfl,hm⟩:=hnm
  simp only [if_true,List.append_assoc] at h ⊢
  have h0:t.drop p=34::((Z3 y).key.flatMap qB++[34]++([58]++(sp y++R))):=by rw [h];simp [quoS]
  rw [Z0l h0,show ((34:UInt8)==34)=true from rfl,if_pos rfl,Z3R h9 h]
  have hs:(Z3 y).key∉names:=fun hk=>by
   have:=hm _ hk
   simp [hasN,this] at h11
  have h2:t.drop (p+(quoS (Z3 y).key).length)=58::(sp y++R):=by rw [←List.drop_drop,h,List.drop_left];rfl
  obtain ⟨c,l,hc,hb⟩:=Z2Y hy
  have h3:=(Z0o h2).2
  show (∃ s,(if (Z3 y).key∈names then _ else _)=_∧_)∨(d < D∧∃ a,(if (Z3 y).key∈names then _ else _)=_)
  rw [if_neg hs,Z1J h2 (by decide),Z0l h2,show ((58:UInt8)==58)=true from rfl,if_pos rfl,Z1J (c:=c) (l:=l++R) (by rw [h3,hc];rfl) hb]
  rcases ih h3 with h1|⟨h1,a,h2⟩
  ·rw [h1]
   refine .inl ⟨(Z3 y).key,?_,fun _=>rfl⟩
   show Gt.ok _ (Z6 (Z6 y []) (Z3 y).key,_)=_
   rw [Z3Z,hself]
   congr 1
   simp
   omega
  ·rw [h2]
   exact .inr ⟨h1,a,rfl⟩
theorem Z7I {t:List UInt8} {d D:Nat} {obj:Bool} {r:List UInt8} :
  ∀ (xs:List (List Nd)) {f p:Nat} {names:List (List UInt8)} {nm:Option (List (List UInt8))} {hd:Nd} {out:List Nd},xs≠[]→ROk D nm xs→(if obj then ∃ ms,nm=some ms∧∀ k∈names,k∈ms else nm=none) →
   (∀ y∈xs,∀ {q:Nat} {nm:Option (List (List UInt8))} {R:List UInt8},VOk D nm y→Stop R→t.drop q=sp y++R→Back t d D q (valX Zb t d q) (sp y) (Z6 y []))→xs.length≤f →
   t.drop p=Zk (xs.map (itS (obj=true)))++ZB obj::r →
   Back t d D p (rowX (valX Zb t d) t obj f p names hd out) (Zk (xs.map (itS (obj=true)))++[ZB obj]) ({ hd with kids:=hd.kids+xs.length }::(out++xs.flatten))
 | [],f,p,names,nm,hd,out,h0,_,_,_,_,_=>absurd rfl h0
 | y::ys,0,p,names,nm,hd,out,_,_,_,_,hf,_=>by simp at hf
 | y::ys,f+1,p,names,nm,hd,out,_,hr,hnm,ih,hf,h=>by
  obtain ⟨hy,hys⟩:=hr.inv
  generalize hg:(itS (obj=true))=g at h ⊢
  have hj:Zk ((y::ys).map g)=g y++(ys.map g).flatMap (44::·):=rfl
  rw [hj,List.append_assoc] at h
  rw [hj]
  have hR:Stop ((ys.map g).flatMap (44::·)++ZB obj::r):=by
   cases ys with
   | nil=>exact Z7o obj r
   | cons z zs =>
    intro c hc
    have:(44:UInt8)=c:=by simpa using hc
    exact .inl this.symm
  have hitem:=Zam (d:=d) (names:=names) hnm hy hR (by rw [hg];exact h) fun {q} hq=>ih y (List.mem_cons_self ..) hy hR hq
  rw [hg] at hitem
  rw [rowX]
  rcases hitem with ⟨s,h1,h2⟩|⟨h1,a,h2⟩
  ·rw [h1]
   have h3:t.drop (p+(g y).length)=(ys.map g).flatMap (44::·)++ZB obj::r:=by rw [←List.drop_drop,h,List.drop_left]
   show Back _ _ _ _ (rowE t obj (fun p'=>rowX (valX Zb t d) t obj f p' (names++[s]) hd.more (out++y)) (p+(g y).length) (hd.more::(out++y))) _ _
   unfold rowE
   cases ys with
   | nil =>
    have h4:t.drop (p+(g y).length)=ZB obj::r:=h3
    rw [Z1J h4 (by cases obj<;>decide),Z0l h4,beq_self_eq_true,if_pos rfl]
    left
    congr 1
    ·simp
     omega
    ·simp [Nd.more]
   | cons z zs =>
    have h4:t.drop (p+(g y).length)=44::(Zk ((z::zs).map g)++ZB obj::r):=by rw [h3];simp [Zk]
    obtain ⟨hz,-⟩:=hys.inv
    obtain ⟨c,l,hc,hb⟩:∃ c l,g z=c::l∧Z10 c=false:=by
     rw [←hg]
     unfold itS
     cases obj with
     | false=>simpa using Z2Y hz
     | true=>exact ⟨34,_,rfl,by decide⟩
    have h5:=(Z0o h4).2
    have h6:t.drop (p+(g y).length+1)=c::(l++(zs.map g).flatMap (44::·)++ZB obj::r):=by rw [h5];simp [Zk,hc]
    rw [Z1J h4 (by decide),Z0l h4,show ((44:UInt8)==ZB obj)=false by cases obj<;>rfl,if_neg (by simp),Z0l h4,beq_self_eq_true,if_pos rfl,Z1J h6 hb]
    have hnm2:if obj then ∃ ms,nm.map ((Z3 y).key::·)=some ms∧∀ k∈names++[s],k∈ms else nm.map ((Z3 y).key::·)=none:=by
     cases obj with
     | false =>
      rw [if_neg (by simp)] at hnm ⊢
      rw [hnm]
      rfl
     | true =>
      rw [if_pos rfl] at hnm ⊢
      obtain ⟨ms,rfl,hm⟩:=hnm
      refine ⟨_,rfl,fun k hk=>?_⟩
      rcases List.mem_append.1 hk with hk|hk
      ·exact List.mem_cons_of_mem _ (hm k hk)
      ·rw [List.mem_singleton.1 hk,h2 rfl]
       exact List.mem_cons_self ..
    have:=Z7I (z::zs) (f:=f) (p:=p+(g y).length+1) (hd:=hd.more) (out:=out++y) (by simp) hys hnm2 (fun x hx=>ih x (List.mem_cons_of_mem _ hx)) (by simpa using hf) (by rw [hg];exact h5)
    rw [hg] at this
    rcases this with h7|⟨h7,a,h8⟩
    ·left
     refine Eq.trans h7 ?_
     congr 1
     ·simp [Zk]
      omega
     ·simp [Nd.more]
      omega
    ·exact .inr ⟨h7,a,h8⟩
  ·rw [h2]
   exact .inr ⟨h1,a,rfl⟩
theorem Z7x {t:List UInt8}:∀ (k:Nat) {x:List Nd} {d D p:Nat} {nm:Option (List (List UInt8))} {R:List UInt8},x.length < k→VOk D nm x→Stop R→t.drop p=sp x++R→Back t d D p (valX Zb t d p) (sp x) (Z6 x [])
 | 0,x,d,D,p,nm,R,hk,_,_,_=>by omega
 | k+1,x,d,D,p,nm,R,hk,hv,hR,h=>by
  obtain ⟨h1,h2,-,-,-,h8,h3,h4⟩:=hv.open_
  have hf:∀ y∈kidsOf x 0,Fo 1 y:=(Zj hv.fo).2.1
  have hlen:∀ y∈kidsOf x 0,y.length < k:=fun y hy=>by
   have:=Z1O (n:=Z3 x) hy
   rw [←h1] at this
   omega
  by_cases hr:ZF (Z3 x)
  ·have hs:sp x=_:=(congrArg sp h1).trans (Z1b h3 hf hr)
   obtain ⟨p1,p2,p3⟩:=Z9P h2 hr
   have hD:=h8 hr
   have hx:Z6 x []=⟨(Z3 x).kind,[],[],false,0,((kidsOf x 0).length:Int)⟩::(kidsOf x 0).flatten:=by
    conv=>lhs;rw [h1]
    rw [←p1,←p2,←p3,←h3]
    rfl
   have hobj:((if (Z3 x).kind=7 then (123:UInt8) else 91)=123)=((Z3 x).kind=7):=by by_cases h7:(Z3 x).kind=7<;>simp [h7]
   have hnd:nd (if (Z3 x).kind=7 then 7 else 6)=⟨(Z3 x).kind,[],[],false,0,0⟩:=by
    rcases hr with h6|h6<;>rw [h6]<;>rfl
   rw [hs] at h ⊢
   rw [hx]
   generalize kidsOf x 0=xs at *
   have hcl:(if (Z3 x).kind=7 then (125:UInt8) else 93)=ZB (decide ((Z3 x).kind=7)):=by by_cases h7:(Z3 x).kind=7<;>simp [h7,ZB]
   rw [hcl] at h ⊢
   rw [List.cons_append] at h
   have hc1:=(Z0o h).1
   have h5:=(Z0o h).2
   have hbr:(if (Z3 x).kind=7 then (123:UInt8) else 91)=91∨(if (Z3 x).kind=7 then (123:UInt8) else 91)=123:=by split<;>simp
   unfold valX
   rw [hc1]
   simp only
   rw [if_pos hbr]
   cases d with
   | zero=>exact .inr ⟨by omega,p,rfl⟩
   | succ d =>
    show Back _ _ _ _ (if atB t (Z4 t (p+1)) (ZB (decide ((if (Z3 x).kind=7 then (123:UInt8) else 91)=123)))=true then Gt.ok (Z4 t (p+1)+1) [nd (if (if (Z3 x).kind=7 then (123:UInt8) else 91)=123 then 7 else 6)] else rowX (valX Zb t d) t (decide ((if (Z3 x).kind=7 then (123:UInt8) else 91)=123)) (t.length+1) (Z4 t (p+1)) [] (nd (if (if (Z3 x).kind=7 then (123:UInt8) else 91)=123 then 7 else 6)) []) _ _
    simp only [hobj]
    rw [hnd]
    cases xs with
    | nil =>
     have h6:t.drop (p+1)=ZB (decide ((Z3 x).kind=7))::R:=by rw [h5];rfl
     rw [Z1J h6 (by by_cases h7:(Z3 x).kind=7<;>simp [h7]<;>decide),Z0l h6,beq_self_eq_true,if_pos rfl]
     left
     rfl
    | cons y ys =>
     obtain ⟨hy,-⟩:=h4.inv
     obtain ⟨c,l,hc,hb,hne⟩:∃ c l,itS ((Z3 x).kind=7) y=c::l∧Z10 c=false∧c≠ZB (decide ((Z3 x).kind=7)):=by
      unfold itS
      by_cases h7:(Z3 x).kind=7
      ·simp only [h7,if_true]
       exact ⟨34,_,rfl,by decide,by decide⟩
      ·simp only [h7,if_false,List.nil_append]
       obtain ⟨c,l,hc,hb⟩:=Z2Y hy
       refine ⟨c,l,hc,hb,?_⟩
       rintro rfl
       have q:=hy.open_
       by_cases hry:ZF (Z3 y)
       ·have:=(congrArg sp q.1).trans (Z1b q.2.2.2.2.2.2.1 (Zj hy.fo).2.1 hry)
        rw [hc] at this
        have:=(List.cons.inj this).1
        revert this
        by_cases g7:(Z3 y).kind=7<;>simp [g7,ZB]
       ·have hk5:=Z1g q.2.1
        have hk2:1≤(Z3 y).kind∧(Z3 y).kind≤5:=by unfold ZF at hry;omega
        have e:=(congrArg sp q.1).trans (Z2X hk2)
        obtain ⟨c',g1,g2,g3,g4⟩:=Z4j (t:=Z1D (Z3 y)) (p:=0) (r:=[]) q.2.1 hry .nil (by simp)
        rw [←e,hc] at g1
        obtain rfl:ZB (decide False)=c':=by simpa using g1
        rw [show ZB (decide False)=93 from rfl] at g4
        unfold ZT at g4
        rw [if_neg (by decide),if_neg (by decide),if_neg (by decide),if_neg (by decide),if_neg (by decide)] at g4
        cases g4
     have h6:t.drop (p+1)=c::(l++((ys.map (itS ((Z3 x).kind=7))).flatMap (44::·)++(ZB (decide ((Z3 x).kind=7))::R))):=by rw [h5];simp [Zk,hc]
     rw [Z1J h6 hb,Z0l h6,beq_eq_false_iff_ne.2 hne,if_neg (by simp)]
     have hnm:if decide ((Z3 x).kind=7) then ∃ ms,(if (Z3 x).kind=7 then some [] else none:Option (List (List UInt8)))=some ms∧∀ k∈([]:List (List UInt8)),k∈ms else (if (Z3 x).kind=7 then some [] else none:Option (List (List UInt8)))=none:=by
      by_cases h7:(Z3 x).kind=7
      ·simp [h7]
      ·simp [h7]
     have hfl:(y::ys).length≤t.length+1:=by
      have e1:=congrArg List.length h5
      rw [List.length_drop,List.length_append,List.length_append] at e1
      have:∀ zs:List (List Nd),(∀ z∈zs,1≤(itS ((Z3 x).kind=7) z).length)→zs.length≤((zs.map (itS ((Z3 x).kind=7))).flatMap (44::·)).length:=fun zs=>by
       induction zs with
       | nil=>intro _;exact Nat.zero_le _
       | cons z zs ih =>
        intro hz
        have h1:=hz z (List.mem_cons_self ..)
        have h2:=ih fun w hw=>hz w (List.mem_cons_of_mem _ hw)
        rw [List.map_cons,List.flatMap_cons,List.length_append,List.length_cons,List.length_cons]
        omega
      have h9:=this ys fun z hz=>by
       obtain ⟨nm',v1,-⟩:=Z0f h4 z (List.mem_cons_of_mem _ hz)
       obtain ⟨c,l,hc,-⟩:=Z2Y v1
       unfold itS
       rw [List.length_append,hc,List.length_cons]
       omega
      have h10:(Zk ((y::ys).map (itS ((Z3 x).kind=7)))).length=(itS ((Z3 x).kind=7) y).length+((ys.map (itS ((Z3 x).kind=7))).flatMap (44::·)).length:=by
       rw [List.map_cons,Zk,List.length_append]
      rw [List.length_cons]
      omega
     have hitS:itS (decide ((Z3 x).kind=7)=true)=itS ((Z3 x).kind=7):=by
      funext z
      unfold itS
      by_cases h7:(Z3 x).kind=7<;>simp [h7]
     have:=Z7I (d:=d) (D:=D - 1) (obj:=decide ((Z3 x).kind=7)) (r:=R) (y::ys) (f:=t.length+1) (p:=p+1) (names:=[]) (hd:=⟨(Z3 x).kind,[],[],false,0,0⟩) (out:=[]) (by simp) h4 hnm
      (fun z hz {q nm' R'} v1 hR' h'=>Z7x k (hlen z hz) v1 hR' h') hfl (by rw [hitS,h5,List.append_assoc];rfl)
     rw [hitS] at this
     rcases this with h7|⟨h7,a,h8⟩
     ·left
      rw [h7]
      congr 1
      ·simp
       omega
      ·simp
     ·exact .inr ⟨by omega,a,h8⟩
  ·have hk5:=Z1g h2
   have hk2:1≤(Z3 x).kind∧(Z3 x).kind≤5:=by unfold ZF at hr;omega
   have e:sp x=Z1D (Z3 x):=(congrArg sp h1).trans (Z2X hk2)
   rw [e] at h ⊢
   obtain ⟨c,g1,g2,g3,g4⟩:=Z4j h2 hr hR h
   left
   unfold valX
   rw [g1]
   simp only
   rw [if_neg g2,g4]
   have hz:kidsOf x 0=[]:=List.eq_nil_of_length_eq_zero (by have:=(Z1f h2 hr).1;omega)
   rw [hz] at h1
   conv=>rhs;rw [h1]
   rfl
theorem Z25 {D:Nat} {x:List Nd} (h:VOk D none x):(262144 < (sp x).length∧Zy Zb (sp x)=.bad 10 0)∨Zy Zb (sp x)=.ok (sp x).length x∨(32 < D∧∃ a,Zy Zb (sp x)=.bad 11 a):=by
 unfold Zy
 by_cases hl:262144 < (sp x).length
 ·exact .inl ⟨hl,by rw [if_pos hl]⟩
 right
 rw [if_neg hl]
 obtain ⟨c,l,hc,hb⟩:=Z2Y h
 have h0:(sp x).drop 0=c::l:=hc
 rw [Z1J h0 hb]
 rcases Z7x (x.length+1) (d:=32) (R:=[]) (by omega) h .nil (show (sp x).drop 0=sp x++[] by simp) with h1|⟨h1,a,h2⟩
 ·left
  rw [h1]
  have hk:Z6 x []=x:=Z27 h.fo (h.open_.2.2.2.1 rfl)
  have hs:Z4 (sp x) (0+(sp x).length)=(sp x).length:=by
   unfold Z4
   rw [Nat.zero_add,List.drop_length]
   rfl
  show (if Z4 (sp x) (0+(sp x).length) < (sp x).length then _ else _)=_
  rw [hs,if_neg (Nat.lt_irrefl _),hk]
 ·right
  rw [h2]
  exact ⟨h1,a,rfl⟩
end Sg
/- Hiding, in plain Lean: what is made of a value; what is made is well shaped. -/
namespace Sg
open Go.Lib
structure Hd where
 T:List Nd
 S:List Nd
 L:List (List UInt8)
 A:List (List UInt8)
 n:Nat
structure Kd where
 y:List Nd
 how:Nat
 h:Hd
def strV (s:List UInt8):List Nd:=[{ nd 5 with text:=s }]
def Z1d (n:Nat):List UInt8:=[115,97,108,116,32]++itoa (n:Int)
def Kd.key (K:Kd):List UInt8:=(Z3 K.y).key
def Kd.dv (obj:Bool) (K:Kd):List Nd:=rowN 6 [] (strV (Z1d K.h.n)::((if obj then [strV K.key] else [])++[K.h.T]))
def Kd.dT (obj:Bool) (K:Kd):List UInt8:=enc urlS (sp (K.dv obj))
def Kd.l (obj:Bool) (K:Kd):List (List UInt8):=(if K.how≤1 then K.h.L else [])++if K.how=1 then [K.dT obj] else []
def Kd.a (obj:Bool) (K:Kd):List (List UInt8):=K.h.A++if K.how=0 then [] else [K.dT obj]
def dotV (d:List UInt8):List Nd:=rowN 7 [] [Z6 (strV d) ZJ]
def Kd.tm (dg:List UInt8→List UInt8) (obj:Bool) (K:Kd):List (List Nd):=if K.how=0 then [Z6 K.h.T K.key] else if obj then [] else [dotV (dg (K.dT obj))]
def Kd.sd (dg:List UInt8→List UInt8) (obj:Bool) (K:Kd):List (List Nd):=if obj=true∧K.how≠0 then [strV (dg (K.dT obj))] else []
def Kd.sh (obj:Bool) (K:Kd):List (List Nd):=if K.how=0 then [Z6 K.h.S K.key] else if K.how=1∧obj=false then [K.h.S] else []
def Kd.bh (obj:Bool) (K:Kd):List (List Nd):=if K.how=1∧obj=true then [Z6 K.h.S K.key] else []
def Z02 (l:List (List Nd)):List (List Nd):=if l=[] then [] else [rowN 6 sdN l]
def ZW (pk:Nat→Nat) (rec_:List Nd→Nat→Hd):List (List Nd)→Nat→List Kd × Nat
 | [],n=>([],n)
 | y::r,n=>(⟨y,pk n,rec_ y (n+1)⟩::(ZW pk rec_ r (rec_ y (n+1)).n).1,(ZW pk rec_ r (rec_ y (n+1)).n).2)
def ZI (dg:List UInt8→List UInt8) (kind:Int) (q:List Kd × Nat):Hd :=
 ⟨rowN kind [] (Z02 (q.1.flatMap (Kd.sd dg (kind==7)))++q.1.flatMap (Kd.tm dg (kind==7))),rowN kind [] (q.1.flatMap (Kd.sh (kind==7))++q.1.flatMap (Kd.bh (kind==7))),q.1.flatMap (Kd.l (kind==7)),q.1.flatMap (Kd.a (kind==7)),q.2⟩
def Z7 (dg:List UInt8→List UInt8) (pk:Nat→Nat):Nat→List Nd→Nat→Hd
 | 0,x,n=>⟨Z6 x [],Z6 x [],[],[],n⟩
 | f+1,x,n=>if ZF (Z3 x) then ZI dg (Z3 x).kind (ZW pk (Z7 dg pk f) (kidsOf x 0) n) else ⟨Z6 x [],Z6 x [],[],[],n⟩
theorem Z1h {pk:Nat→Nat} {rec_:List Nd→Nat→Hd}:∀ (xs:List (List Nd)) (n:Nat),(ZW pk rec_ xs n).1.map (·.y)=xs
 | [],n=>rfl
 | y::r,n=>by rw [ZW,List.map_cons,Z1h r]
theorem ZN {pk:Nat→Nat} {rec_:List Nd→Nat→Hd}:∀ {xs:List (List Nd)} {n:Nat} {K:Kd},K∈(ZW pk rec_ xs n).1→K.y∈xs∧∃ m,K.h=rec_ K.y (m+1)∧K.how=pk m
 | [],n,K,h=>by cases h
 | y::r,n,K,h=>by
  rw [ZW] at h
  rcases List.mem_cons.1 h with rfl|h
  ·exact ⟨List.mem_cons_self ..,n,rfl,rfl⟩
  ·obtain ⟨h1,h2⟩:=ZN h
   exact ⟨List.mem_cons_of_mem _ h1,h2⟩
theorem Z1F {d:Nat} {nm:Option (List (List UInt8))} {x:List Nd} (h:VOk d nm x) {k:List UInt8} (hk:validD k=true):VOk d (some []) (Z6 x k):=by
 obtain ⟨n,xs,rfl,a1,a2,a3,a4,a5,a6,a7⟩:=h.inv
 exact VOk.mk (n:=n.named k) (xs:=xs) a1 hk (fun h=>by cases h) (by simp [hasN]) a5 a6 a7
theorem Z2y {d:Nat} {nm:Option (List (List UInt8))} {x:List Nd} (h:VOk d nm x):VOk d none (Z6 x []):=by
 obtain ⟨n,xs,rfl,a1,a2,a3,a4,a5,a6,a7⟩:=h.inv
 exact VOk.mk (n:=n.named []) (xs:=xs) a1 rfl (fun _=>rfl) rfl a5 a6 a7
theorem Zce {d d':Nat}:∀ {xs:List (List Nd)} {nm:Option (List (List UInt8))},ROk d nm xs→(∀ x∈xs,∀ nm,VOk d nm x→VOk d' nm x)→ROk d' nm xs
 | [],nm,_,_=>.nil
 | x::r,nm,h,hh=>by
  obtain ⟨h1,h2⟩:=h.inv
  exact .cons (hh x (List.mem_cons_self ..) _ h1) (Zce h2 fun y hy=>hh y (List.mem_cons_of_mem _ hy))
theorem Z9g:∀ (k:Nat) {d d':Nat} {nm:Option (List (List UInt8))} {x:List Nd},x.length < k→VOk d nm x→d≤d'→VOk d' nm x
 | 0,d,d',nm,x,hk,_,_=>by omega
 | k+1,d,d',nm,x,hk,h,hd=>by
  obtain ⟨n,xs,rfl,a1,a2,a3,a4,a5,a6,a7⟩:=h.inv
  refine VOk.mk a1 a2 a3 a4 (fun hr=>by have:=a5 hr;omega) a6 (Zce a7 fun x hx nm h=>?_)
  have:=Z1O (n:=n) hx
  exact Z9g k (by omega) h (by omega)
theorem Zc6 {d d':Nat} {nm:Option (List (List UInt8))} {x:List Nd} (h:VOk d nm x) (hd:d≤d'):VOk d' nm x:=Z9g (x.length+1) (by omega) h hd
theorem Z2F {d:Nat}:∀ {xs:List (List Nd)},(∀ x∈xs,VOk d none x)→ROk d none xs
 | [],_=>.nil
 | x::r,h=>.cons (h x (List.mem_cons_self ..)) (Z2F fun y hy=>h y (List.mem_cons_of_mem _ hy))
theorem Z3q {d:Nat}:∀ {xs:List (List Nd)} {ns:List (List UInt8)},(∀ x∈xs,VOk d (some []) x)→(xs.map fun x=>(Z3 x).key).Nodup→(∀ x∈xs,(Z3 x).key∉ns)→ROk d (some ns) xs
 | [],ns,_,_,_=>.nil
 | x::r,ns,h,hn,hs=>by
  rw [List.map_cons,List.nodup_cons] at hn
  refine .cons ?_ (Z3q (fun y hy=>h y (List.mem_cons_of_mem _ hy)) hn.2 fun y hy hk=>?_)
  ·obtain ⟨n,xs,rfl,a1,a2,a3,a4,a5,a6,a7⟩:=(h x (List.mem_cons_self ..)).inv
   have:=hs _ (List.mem_cons_self ..)
   exact VOk.mk a1 a2 (fun h=>by cases h) (by simpa [hasN,Z3] using this) a5 a6 a7
  ·rcases List.mem_cons.1 hk with hk|hk
   ·exact hn.1 (by rw [←hk];exact List.mem_map_of_mem (f:=fun x=>(Z3 x).key) hy)
   ·exact hs y (List.mem_cons_of_mem _ hy) hk
theorem Z7K {d:Nat}:∀ {xs:List (List Nd)} {ns:List (List UInt8)},ROk d (some ns) xs→(xs.map fun x=>(Z3 x).key).Nodup
 | [],_,_=>List.nodup_nil
 | x::r,ns,h=>by
  obtain ⟨-,h2⟩:=h.inv
  rw [List.map_cons,List.nodup_cons]
  refine ⟨fun hm=>?_,Z7K h2⟩
  obtain ⟨y,hy,e⟩:=List.mem_map.1 hm
  exact Z7L h2 (List.mem_cons_self ..) y hy e
theorem Z2S {d:Nat} {s:List UInt8} (hs:validD s=true):VOk d none (strV s):=by
 refine VOk.mk (n:={ nd 5 with text:=s }) (xs:=[]) (by simp [Zl,nd,hs]) rfl (fun _=>rfl) rfl (fun h=>?_) rfl .nil
 rcases h with h|h<;>exact absurd h (by simp [nd])
theorem Z1m {d:Nat} {kind:Int} {ys:List (List Nd)} (hk:kind=6∨kind=7) (h:ROk d (if kind=7 then some [] else none) ys):VOk (d+1) none (rowN kind [] ys):=by
 refine VOk.mk ?_ rfl (fun _=>rfl) rfl (fun _=>by omega) rfl h
 rcases hk with rfl|rfl<;>simp [Zl]
theorem Z2v {x:List Nd} (h:Fo 1 x) (k:List UInt8):Z3 (Z6 x k)=(Z3 x).named k:=by
 cases x with
 | nil=>have:=h.pos;simp at this
 | cons n r=>rfl
theorem Z0h {x:List Nd} (h:Fo 1 x) (k:List UInt8):(Z3 (Z6 x k)).key=k:=by rw [Z2v h];rfl
theorem Zcu {d:Nat} {s:List UInt8} (hs:validD s=true):VOk (d+1) none (dotV s):=Z1m (.inr rfl) (by
 rw [if_pos rfl]
 refine Z3q (fun x hx=>?_) (by simp) (fun x _=>by simp)
 obtain rfl:=List.mem_singleton.1 hx
 exact Z1F (Z2S hs) (by decide))
theorem Z0s {α β:Type} {f:α→β}:∀ {l:List α},(l.map f).Nodup→∀ a∈l,∀ b∈l,f a=f b→a=b
 | [],_,a,ha,_,_,_=>by cases ha
 | x::r,h,a,ha,b,hb,e=>by
  rw [List.map_cons,List.nodup_cons] at h
  rcases List.mem_cons.1 ha with rfl|ha
  ·rcases List.mem_cons.1 hb with rfl|hb
   ·rfl
   ·exact absurd (List.mem_map.2 ⟨b,hb,e.symm⟩) h.1
  ·rcases List.mem_cons.1 hb with hb|hb
   ·exact absurd (List.mem_map.2 ⟨a,ha,by rw [e,hb]⟩) h.1
   ·exact Z0s h.2 a ha b hb e
def ZaV (l:List Kd):Prop:=(l.map Kd.key).Nodup∧∀ K∈l,validD K.key=true∧K.key≠sdN∧K.key≠ZJ
structure KOk (d:Nat) (obj:Bool) (K:Kd):Prop where
 T:VOk (d+2) none K.h.T
 S:VOk d none K.h.S
 key:obj=false→K.key=[]
theorem ZbG {dg:List UInt8→List UInt8} (hd:∀ t,validD (dg t)=true) {d:Nat} {kind:Int} (hk:kind=6∨kind=7) {q:List Kd × Nat} (h:∀ K∈q.1,KOk d (kind==7) K) (hn:kind=7→ZaV q.1) :
  VOk (d+3) none (ZI dg kind q).T∧VOk (d+1) none (ZI dg kind q).S:=by
 unfold ZI
 rcases hk with rfl|rfl
 ·have e7:((6:Int)==7)=false:=rfl
  rw [e7] at h ⊢
  have hsd:q.1.flatMap (Kd.sd dg false)=[]:=by
   rw [List.flatMap_eq_nil_iff]
   intro K _
   simp [Kd.sd]
  rw [hsd]
  refine ⟨Z1m (.inl rfl) (Z2F fun x hx=>?_),Z1m (.inl rfl) (Z2F fun x hx=>?_)⟩
  ·rw [show Z02 []=[] from rfl,List.nil_append] at hx
   obtain ⟨K,hK,hx⟩:=List.mem_flatMap.1 hx
   have hh:=h K hK
   unfold Kd.tm at hx
   split at hx
   ·obtain rfl:=List.mem_singleton.1 hx
    rw [hh.key rfl]
    exact Z2y hh.T
   ·rw [if_neg (by simp)] at hx
    obtain rfl:=List.mem_singleton.1 hx
    exact Zcu (hd _)
  ·rcases List.mem_append.1 hx with hx|hx
   ·obtain ⟨K,hK,hx⟩:=List.mem_flatMap.1 hx
    have hh:=h K hK
    unfold Kd.sh at hx
    split at hx
    ·obtain rfl:=List.mem_singleton.1 hx
     rw [hh.key rfl]
     exact Z2y hh.S
    ·split at hx
     ·obtain rfl:=List.mem_singleton.1 hx
      exact hh.S
     ·cases hx
   ·obtain ⟨K,hK,hx⟩:=List.mem_flatMap.1 hx
    unfold Kd.bh at hx
    rw [if_neg (by simp)] at hx
    cases hx
 ·have e7:((7:Int)==7)=true:=rfl
  rw [e7] at h ⊢
  obtain ⟨hn1,hn2⟩:=hn rfl
  have kT:∀ K∈q.1,(Z3 (Z6 K.h.T K.key)).key=K.key:=fun K hK=>Z0h (h K hK).T.fo _
  have kS:∀ K∈q.1,(Z3 (Z6 K.h.S K.key)).key=K.key:=fun K hK=>Z0h (h K hK).S.fo _
  have sub:∀ (g:Kd→List (List Nd)),(∀ K∈q.1,g K=[]∨∃ z,g K=[z]∧(Z3 z).key=K.key)→List.Sublist ((q.1.flatMap g).map fun x=>(Z3 x).key) (q.1.map Kd.key):=fun g hg=>by
   have key:∀ l:List Kd,(∀ K∈l,g K=[]∨∃ z,g K=[z]∧(Z3 z).key=K.key)→List.Sublist ((l.flatMap g).map fun x=>(Z3 x).key) (l.map Kd.key):=fun l=>by
    induction l with
    | nil=>intro _;exact List.Sublist.slnil
    | cons K r ih =>
     intro hg
     have ih:=ih fun K hK=>hg K (List.mem_cons_of_mem _ hK)
     rw [List.flatMap_cons,List.map_append,List.map_cons]
     rcases hg K (List.mem_cons_self ..) with e|⟨z,e,hz⟩
     ·rw [e]
      exact ih.cons _
     ·rw [e,List.map_singleton,hz]
      exact ih.cons_cons _
   exact key _ hg
  have gt:∀ K∈q.1,Kd.tm dg true K=[]∨∃ z,Kd.tm dg true K=[z]∧(Z3 z).key=K.key:=fun K hK=>by
   unfold Kd.tm
   split
   ·exact .inr ⟨_,rfl,kT K hK⟩
   ·exact .inl (if_pos rfl)
  have gs:∀ K∈q.1,Kd.sh true K=[]∨∃ z,Kd.sh true K=[z]∧(Z3 z).key=K.key:=fun K hK=>by
   unfold Kd.sh
   split
   ·exact .inr ⟨_,rfl,kS K hK⟩
   ·exact .inl (if_neg (by simp))
  have gb:∀ K∈q.1,Kd.bh true K=[]∨∃ z,Kd.bh true K=[z]∧(Z3 z).key=K.key:=fun K hK=>by
   unfold Kd.bh
   split
   ·exact .inr ⟨_,rfl,kS K hK⟩
   ·exact .inl rfl
  refine ⟨Z1m (.inr rfl) (show ROk (d+2) (some []) _ from Z3q (fun x hx=>?_) ?_ (fun x _=>by simp)),Z1m (.inr rfl) (show ROk d (some []) _ from Z3q (fun x hx=>?_) ?_ (fun x _=>by simp))⟩
  ·rcases List.mem_append.1 hx with hx|hx
   ·unfold Z02 at hx
    split at hx
    ·cases hx
    ·obtain rfl:=List.mem_singleton.1 hx
     refine Z1F (k:=sdN) (Z1m (kind:=6) (.inl rfl) (Z2F (d:=d+1) fun z hz=>?_)) (by decide)
     obtain ⟨K,hK,hz⟩:=List.mem_flatMap.1 hz
     unfold Kd.sd at hz
     split at hz
     ·obtain rfl:=List.mem_singleton.1 hz
      exact Z2S (hd _)
     ·cases hz
   ·obtain ⟨K,hK,hx⟩:=List.mem_flatMap.1 hx
    unfold Kd.tm at hx
    split at hx
    ·obtain rfl:=List.mem_singleton.1 hx
     exact Z1F (h K hK).T (hn2 K hK).1
    ·rw [if_pos rfl] at hx
     cases hx
  ·rw [List.map_append,List.nodup_append]
   refine ⟨?_,List.Sublist.nodup (sub _ gt) hn1,fun a ha b hb=>?_⟩
   ·unfold Z02
    split<;>simp
   ·have ea:a=sdN:=by
     unfold Z02 at ha
     split at ha
     ·cases ha
     ·exact List.mem_singleton.1 ha
    have hb:=(sub _ gt).subset hb
    obtain ⟨K,hK,rfl⟩:=List.mem_map.1 hb
    rw [ea]
    exact fun e=>(hn2 K hK).2.1 e.symm
  ·rcases List.mem_append.1 hx with hx|hx
   ·obtain ⟨K,hK,hx⟩:=List.mem_flatMap.1 hx
    unfold Kd.sh at hx
    split at hx
    ·obtain rfl:=List.mem_singleton.1 hx
     exact Z1F (h K hK).S (hn2 K hK).1
    ·rw [if_neg (by simp)] at hx
     cases hx
   ·obtain ⟨K,hK,hx⟩:=List.mem_flatMap.1 hx
    unfold Kd.bh at hx
    split at hx
    ·obtain rfl:=List.mem_singleton.1 hx
     exact Z1F (h K hK).S (hn2 K hK).1
    ·cases hx
  ·rw [List.map_append,List.nodup_append]
   refine ⟨List.Sublist.nodup (sub _ gs) hn1,List.Sublist.nodup (sub _ gb) hn1,fun a ha b hb e=>?_⟩
   subst e
   obtain ⟨x,hx,ex⟩:=List.mem_map.1 ha
   obtain ⟨z,hz,ez⟩:=List.mem_map.1 hb
   obtain ⟨K,hK,hx⟩:=List.mem_flatMap.1 hx
   obtain ⟨K',hK',hz⟩:=List.mem_flatMap.1 hz
   unfold Kd.sh at hx
   unfold Kd.bh at hz
   split at hx
   ·rename_i h0
    split at hz
    ·rename_i h1
     obtain rfl:=List.mem_singleton.1 hx
     obtain rfl:=List.mem_singleton.1 hz
     rw [kS K hK] at ex
     rw [kS K' hK'] at ez
     have:=Z0s hn1 K hK K' hK' (ex.trans ez.symm)
     subst this
     omega
    ·cases hz
   ·rw [if_neg (by simp)] at hx
    cases hx
theorem Z2L {x:List Nd} {d:Nat} {nm:Option (List (List UInt8))} (hv:VOk d nm x) (hb:Bare x) {l:List Kd} (hl:l.map (·.y)=kidsOf x 0) :
  ((Z3 x).kind=7→ZaV l)∧((Z3 x).kind≠7→∀ K∈l,K.key=[]):=by
 obtain ⟨h1,-,-,-,-,-,-,h4⟩:=hv.open_
 have hm:∀ K∈l,K.y∈kidsOf x 0:=fun K hK=>by rw [←hl];exact List.mem_map_of_mem hK
 refine ⟨fun h7=>⟨?_,fun K hK=>?_⟩,fun h7 K hK=>?_⟩
 ·rw [if_pos h7] at h4
  have:=Z7K h4
  rw [←hl,List.map_map] at this
  exact this
 ·obtain ⟨nm',v1,-⟩:=Z0f h4 _ (hm K hK)
  have:=hb _ (Z7d h1 (hm K hK) _ (Z83 v1.fo))
  exact ⟨v1.open_.2.2.1,this.1,this.2⟩
 ·rw [if_neg h7] at h4
  obtain ⟨nm',v1,v2⟩:=Z0f h4 _ (hm K hK)
  exact v1.open_.2.2.2.1 (v2 rfl)
theorem Z0i {dg:List UInt8→List UInt8} (hd:∀ t,validD (dg t)=true) (pk:Nat→Nat):∀ (f:Nat) {x:List Nd} {d n:Nat} {nm:Option (List (List UInt8))},VOk d nm x→Bare x→x.length≤f →
  VOk (d+2) none (Z7 dg pk f x n).T∧VOk d none (Z7 dg pk f x n).S
 | 0,x,d,n,nm,hv,_,hf=>by have:=hv.fo.pos;omega
 | f+1,x,d,n,nm,hv,hb,hf=>by
  obtain ⟨h1,h2,-,-,-,h8,h3,h4⟩:=hv.open_
  rw [Z7]
  by_cases hr:ZF (Z3 x)
  ·rw [if_pos hr]
   have h0:=h8 hr
   obtain ⟨e,rfl⟩:∃ e,d=e+1:=⟨d - 1,by omega⟩
   obtain ⟨k1,k2⟩:=Z2L hv hb (Z1h (pk:=pk) (rec_:=Z7 dg pk f) (kidsOf x 0) n)
   refine ZbG hd hr (fun K hK=>?_) k1
   obtain ⟨hy,m,hm,-⟩:=ZN hK
   obtain ⟨nm',v1,-⟩:=Z0f h4 _ hy
   have hlt:=Z1O (n:=Z3 x) hy
   rw [←h1] at hlt
   have ih:=Z0i hd pk f (n:=m+1) v1 (Z0C hv.fo hb hy) (by omega)
   rw [←hm,show e+1 - 1=e by omega] at ih
   refine ⟨ih.1,ih.2,fun ho=>k2 (fun h7=>?_) K hK⟩
   rw [h7] at ho
   cases ho
  ·rw [if_neg hr]
   exact ⟨Zc6 (Z2y hv) (by omega),Z2y hv⟩
end Sg
/- What has been hidden is revealed; plain. -/
namespace Sg
open Go.Lib
section
variable {dg:List UInt8→List UInt8} {L:List Said} {F:Nat}
def ZaU (dg:List UInt8→List UInt8) (L:List Said) (F:Nat) (h:Hd):Prop:=∀ (met:List Dg) (key:List UInt8),(∀ a∈h.A,dg a∉met)→h.T.length+pend L met < F →
 ∃ m,revV F L false met h.T key=some (met++m,Z6 h.S key)∧m.Nodup∧(∀ g∈m,g∈h.A.map dg)∧∀ d∈h.L,dg d∈m
theorem Z51 {x:List Nd} (k:List UInt8):kidsOf (Z6 x k) 0=kidsOf x 0:=by
 cases x<;>rfl
theorem Z34 {x:List Nd} (h:Fo 1 x) (k key:List UInt8):memV (Z6 x k) key=memV x key:=by
 unfold memV
 rw [Z51,Z2v h]
 rfl
theorem Z3O {f:Nat} {top:Bool} {met:List Dg} {x:List Nd} {key k:List UInt8} (h:Fo 1 x):revV f L top met (Z6 x k) key=revV f L top met x key:=by
 cases f with
 | zero=>rfl
 | succ f =>
  rw [revV]
  simp only [Z51,Z34 h,Z2v h]
  rfl
theorem Z4n {l:List Kd} {K:Kd} {g:Kd→List (List UInt8)} (h:(((K::l).flatMap g).map dg).Nodup):((g K).map dg).Nodup∧((l.flatMap g).map dg).Nodup∧∀ a∈g K,∀ K'∈l,∀ b∈g K',dg a≠dg b:=by
 rw [List.flatMap_cons,List.map_append,List.nodup_append] at h
 refine ⟨h.1,h.2.1,fun a ha K' hK' b hb=>?_⟩
 exact h.2.2 _ (List.mem_map_of_mem ha) _ (List.mem_map_of_mem (List.mem_flatMap.2 ⟨K',hK',hb⟩))
theorem Z0z {obj:Bool} {K:Kd} {a:List UInt8} (h:a∈K.h.A):a∈K.a obj:=List.mem_append_left _ h
theorem Z50 {obj:Bool} {K:Kd} (h:K.how≠0):K.dT obj∈K.a obj:=List.mem_append_right _ (by rw [if_neg h];exact List.mem_singleton_self _)
theorem Z7c {top:Bool}:∀ (l:List Kd) (met:List Dg) (ys:List (List Nd)),(∀ K∈l,K.how=0→ZaU dg L F K.h∧K.h.T.length+pend L met < F∧Fo 1 K.h.T∧K.key≠sdN∧¬(top=true∧K.key=algN)∧∀ a∈K.h.A,dg a∉met) →
  ((l.flatMap (Kd.a true)).map dg).Nodup →
  ∃ m,Zg (revV F L false) top met ys (l.flatMap (Kd.tm dg true))=some (met++m,ys++l.flatMap (Kd.sh true))∧m.Nodup∧(∀ g∈m,∃ K∈l,K.how=0∧g∈K.h.A.map dg)∧∀ K∈l,K.how=0→∀ d∈K.h.L,dg d∈m
 | [],met,ys,_,_=>⟨[],by simp [Zg],List.nodup_nil,fun g hg=>(by cases hg),fun K hK=>(by cases hK)⟩
 | K::r,met,ys,h,hn=>by
  obtain ⟨n1,n2,n3⟩:=Z4n hn
  rw [List.flatMap_cons,List.flatMap_cons]
  by_cases h0:K.how=0
  ·obtain ⟨a1,a2,a3,a4,a5,a6⟩:=h K (List.mem_cons_self ..) h0
   obtain ⟨m1,b1,b2,b3,b4⟩:=a1 met K.key a6 a2
   have et:K.tm dg true=[Z6 K.h.T K.key]:=if_pos h0
   have es:K.sh true=[Z6 K.h.S K.key]:=if_pos h0
   obtain ⟨m2,c1,c2,c3,c4⟩:=Z7c (top:=top) r (met++m1) (ys++[Z6 K.h.S K.key]) (fun K' hK' h0'=>by
    obtain ⟨d1,d2,d3,d4,d5,d6⟩:=h K' (List.mem_cons_of_mem _ hK') h0'
    have:=ZE L met m1
    refine ⟨d1,by omega,d3,d4,d5,fun a ha hm=>?_⟩
    rcases List.mem_append.1 hm with hm|hm
    ·exact d6 a ha hm
    ·obtain ⟨b,hb,e⟩:=List.mem_map.1 (b3 _ hm)
     exact n3 b (Z0z hb) K' hK' a (Z0z ha) e) n2
   refine ⟨m1++m2,?_,?_,fun g hg=>?_,fun K' hK' h0' d hd=>?_⟩
   ·rw [et,es,List.singleton_append,Zg,Z0h a3,if_neg a4,if_neg a5,Z3O a3,b1]
    show Zg (revV F L false) top (met++m1) (ys++[Z6 K.h.S K.key]) _=_
    rw [c1]
    simp
   ·rw [List.nodup_append]
    refine ⟨b2,c2,fun a ha b hb e=>?_⟩
    obtain ⟨x,hx,ex⟩:=List.mem_map.1 (b3 a ha)
    obtain ⟨K',hK',-,hb⟩:=c3 b hb
    obtain ⟨z,hz,ez⟩:=List.mem_map.1 hb
    exact n3 x (Z0z hx) K' hK' z (Z0z hz) (by rw [ex,ez,e])
   ·rcases List.mem_append.1 hg with hg|hg
    ·exact ⟨K,List.mem_cons_self ..,h0,b3 g hg⟩
    ·obtain ⟨K',hK',q⟩:=c3 g hg
     exact ⟨K',List.mem_cons_of_mem _ hK',q⟩
   ·rcases List.mem_cons.1 hK' with rfl|hK'
    ·exact List.mem_append_left _ (b4 d hd)
    ·exact List.mem_append_right _ (c4 K' hK' h0' d hd)
  ·have et:K.tm dg true=[]:=by unfold Kd.tm;rw [if_neg h0,if_pos rfl]
   have es:K.sh true=[]:=by unfold Kd.sh;rw [if_neg h0,if_neg (by simp)]
   obtain ⟨m2,c1,c2,c3,c4⟩:=Z7c (top:=top) r met ys (fun K' hK'=>h K' (List.mem_cons_of_mem _ hK')) n2
   refine ⟨m2,by rw [et,es];exact c1,c2,fun g hg=>?_,fun K' hK' h0' d hd=>?_⟩
   ·obtain ⟨K',hK',q⟩:=c3 g hg
    exact ⟨K',List.mem_cons_of_mem _ hK',q⟩
   ·rcases List.mem_cons.1 hK' with rfl|hK'
    ·exact absurd h0' h0
    ·exact c4 K' hK' h0' d hd
structure KTold (dg:List UInt8→List UInt8) (L:List Said) (F:Nat) (obj:Bool) (K:Kd):Prop where
 revs:K.how≤1→ZaU dg L F K.h
 told:K.how=1→Z0y L (dg (K.dT obj))=some ⟨dg (K.dT obj),if obj then K.key else [],obj,K.h.T⟩
 held:1 < K.how→Z0y L (dg (K.dT obj))=none
theorem Z5C:∀ (l:List Kd) (met:List Dg) (ns:List (List UInt8)) (ys:List (List Nd)),(∀ K∈l,KTold dg L F true K)→pend L met≤F→(∀ K∈l,K.how≠0→K.key∉ns∧∀ a∈K.a true,dg a∉met)→(l.map Kd.key).Nodup →
  ((l.flatMap (Kd.a true)).map dg).Nodup →
  ∃ m,Zq (revV F L false) L met ns ys (l.flatMap (Kd.sd dg true))=some (met++m,ys++l.flatMap (Kd.bh true))∧m.Nodup∧(∀ g∈m,∃ K∈l,K.how≠0∧g∈(K.a true).map dg)∧∀ K∈l,K.how=1→∀ d∈K.l true,dg d∈m
 | [],met,ns,ys,_,_,_,_,_=>⟨[],by simp [Zq],List.nodup_nil,fun g hg=>(by cases hg),fun K hK=>(by cases hK)⟩
 | K::r,met,ns,ys,ht,hp,h,hk,hn=>by
  obtain ⟨n1,n2,n3⟩:=Z4n hn
  rw [List.map_cons,List.nodup_cons] at hk
  rw [List.flatMap_cons,List.flatMap_cons]
  have ht':=fun K' (hK':K'∈r)=>ht K' (List.mem_cons_of_mem _ hK')
  have rest:∀ (m1:List Dg) (ns1:List (List UInt8)) (us:List (List Nd)),(∀ g∈m1,g∈(K.a true).map dg)→(∀ k∈ns1,k=K.key)→K.how≠0→m1.Nodup→(K.how=1→∀ d∈K.l true,dg d∈m1) →
    ∃ m,Zq (revV F L false) L (met++m1) (ns++ns1) (ys++us) (r.flatMap (Kd.sd dg true))=some (met++m,ys++us++r.flatMap (Kd.bh true))∧m.Nodup∧(∀ g∈m,∃ K'∈K::r,K'.how≠0∧g∈(K'.a true).map dg)∧∀ K'∈K::r,K'.how=1→∀ d∈K'.l true,dg d∈m:=fun m1 ns1 us e1 e2 e3 e4 e5=>by
   obtain ⟨m2,c1,c2,c3,c4⟩:=Z5C r (met++m1) (ns++ns1) (ys++us) ht' (by have:=ZE L met m1;omega) (fun K' hK' h0'=>by
    obtain ⟨d1,d2⟩:=h K' (List.mem_cons_of_mem _ hK') h0'
    refine ⟨fun hm=>?_,fun a ha hm=>?_⟩
    ·rcases List.mem_append.1 hm with hm|hm
     ·exact d1 hm
     ·exact hk.1 (by rw [←e2 _ hm];exact List.mem_map_of_mem hK')
    ·rcases List.mem_append.1 hm with hm|hm
     ·exact d2 a ha hm
     ·obtain ⟨b,hb,e⟩:=List.mem_map.1 (e1 _ hm)
      exact n3 b hb K' hK' a ha e) hk.2 n2
   refine ⟨m1++m2,by rw [c1,List.append_assoc],?_,fun g hg=>?_,fun K' hK' h1' d hd=>?_⟩
   ·rw [List.nodup_append]
    refine ⟨e4,c2,fun a ha b hb e=>?_⟩
    obtain ⟨x,hx,ex⟩:=List.mem_map.1 (e1 a ha)
    obtain ⟨K',hK',-,hb⟩:=c3 b hb
    obtain ⟨z,hz,ez⟩:=List.mem_map.1 hb
    exact n3 x hx K' hK' z hz (by rw [ex,ez,e])
   ·rcases List.mem_append.1 hg with hg|hg
    ·exact ⟨K,List.mem_cons_self ..,e3,e1 g hg⟩
    ·obtain ⟨K',hK',q⟩:=c3 g hg
     exact ⟨K',List.mem_cons_of_mem _ hK',q⟩
   ·rcases List.mem_cons.1 hK' with rfl|hK'
    ·exact List.mem_append_left _ (e5 h1' d hd)
    ·exact List.mem_append_right _ (c4 K' hK' h1' d hd)
  by_cases h0:K.how=0
  ·have et:K.sd dg true=[]:=by unfold Kd.sd;rw [if_neg (by simp [h0])]
   have es:K.bh true=[]:=by unfold Kd.bh;rw [if_neg (by simp [h0])]
   obtain ⟨m2,c1,c2,c3,c4⟩:=Z5C r met ns ys ht' hp (fun K' hK'=>h K' (List.mem_cons_of_mem _ hK')) hk.2 n2
   refine ⟨m2,by rw [et,es];exact c1,c2,fun g hg=>?_,fun K' hK' h1' d hd=>?_⟩
   ·obtain ⟨K',hK',q⟩:=c3 g hg
    exact ⟨K',List.mem_cons_of_mem _ hK',q⟩
   ·rcases List.mem_cons.1 hK' with rfl|hK'
    ·omega
    ·exact c4 K' hK' h1' d hd
  ·obtain ⟨k1,k2⟩:=h K (List.mem_cons_self ..) h0
   have kt:=ht K (List.mem_cons_self ..)
   have et:K.sd dg true=[strV (dg (K.dT true))]:=by unfold Kd.sd;rw [if_pos ⟨rfl,h0⟩]
   have hh:Z3 (strV (dg (K.dT true)))={ nd 5 with text:=dg (K.dT true) }:=rfl
   have hmem:dg (K.dT true)∈(K.a true).map dg:=List.mem_map_of_mem (Z50 h0)
   rw [et,List.singleton_append]
   by_cases h1:K.how=1
   ·have es:K.bh true=[Z6 K.h.S K.key]:=by unfold Kd.bh;rw [if_pos ⟨h1,rfl⟩]
    have hf:=kt.told h1
    obtain ⟨g1,g2⟩:=Z0I hf
    have hnm:=k2 _ (Z50 h0)
    have hpo:=Z0L g1 (met:=met) hnm
    have hpo2:K.h.T.length+1+pend L (met++[dg (K.dT true)])≤pend L met:=hpo
    have e0:K.a true=K.h.A++[K.dT true]:=by unfold Kd.a;rw [if_neg h0]
    have hA:∀ a∈K.h.A,dg a∉met++[dg (K.dT true)]:=fun a ha hm=>by
     rcases List.mem_append.1 hm with hm|hm
     ·exact k2 a (Z0z ha) hm
     ·rw [e0,List.map_append,List.nodup_append] at n1
      exact n1.2.2 _ (List.mem_map_of_mem ha) _ (List.mem_map_of_mem (List.mem_singleton_self _)) (List.mem_singleton.1 hm)
    obtain ⟨m1,b1,b2,b3,b4⟩:=kt.revs (by omega) (met++[dg (K.dT true)]) K.key hA (by omega)
    rw [Z4o (n:={ nd 5 with text:=dg (K.dT true) }) hh rfl hf ⟨rfl,k1⟩ hnm]
    show ∃ m,(match revV F L false (met++[dg (K.dT true)]) K.h.T K.key with
     | none=>none
     | some (m,y)=>Zq (revV F L false) L m (ns++[K.key]) (ys++[y]) (r.flatMap (Kd.sd dg true)))=_∧_
    rw [b1]
    obtain ⟨m,q1,q2⟩:=rest ([dg (K.dT true)]++m1) [K.key] [Z6 K.h.S K.key] (fun g hg=>by
     rcases List.mem_append.1 hg with hg|hg
     ·rw [List.mem_singleton.1 hg]
      exact hmem
     ·obtain ⟨z,hz,ez⟩:=List.mem_map.1 (b3 g hg)
      rw [←ez]
      exact List.mem_map_of_mem (Z0z hz)) (fun k hk=>List.mem_singleton.1 hk) h0 (by
     rw [List.singleton_append,List.nodup_cons]
     refine ⟨fun hm=>?_,b2⟩
     obtain ⟨z,hz,ez⟩:=List.mem_map.1 (b3 _ hm)
     exact hA z hz (by rw [ez];exact List.mem_append_right _ (List.mem_singleton_self _))) (fun _ d hd=>by
     unfold Kd.l at hd
     rw [if_pos (by omega),if_pos h1] at hd
     rcases List.mem_append.1 hd with hd|hd
     ·exact List.mem_append_right _ (b4 d hd)
     ·rw [List.mem_singleton.1 hd]
      exact List.mem_append_left _ (List.mem_singleton_self _))
    refine ⟨m,?_,q2⟩
    simp only
    rw [es,List.append_assoc met,q1,List.append_assoc]
   ·have es:K.bh true=[]:=by unfold Kd.bh;rw [if_neg (by simp [h1])]
    rw [Z4p (n:={ nd 5 with text:=dg (K.dT true) }) hh rfl (kt.held (by omega))]
    obtain ⟨m,q1,q2⟩:=rest [dg (K.dT true)] [] [] (fun g hg=>by rw [List.mem_singleton.1 hg];exact hmem) (fun k hk=>by cases hk) h0 (by simp) (fun h=>absurd h h1)
    refine ⟨m,?_,q2⟩
    rw [es]
    simpa using q1
theorem Z6i:∀ (l:List Kd) (met:List Dg) (ys:List (List Nd)),(∀ K∈l,KTold dg L F false K∧K.key=[]∧K.h.T.length+pend L met < F+(if K.how=0 then 0 else K.h.T.length)∧(K.how=0→Fo 1 K.h.T∧memV K.h.T ZJ=none)∧(Z3 K.h.S).key=[]∧Fo 1 K.h.S∧∀ a∈K.a false,dg a∉met)→pend L met≤F →
  ((l.flatMap (Kd.a false)).map dg).Nodup →
  ∃ m,Zu (revV F L false) L met ys (l.flatMap (Kd.tm dg false))=some (met++m,ys++l.flatMap (Kd.sh false))∧m.Nodup∧(∀ g∈m,∃ K∈l,g∈(K.a false).map dg)∧∀ K∈l,∀ d∈K.l false,dg d∈m
 | [],met,ys,_,_,_=>⟨[],by simp [Zu],List.nodup_nil,fun g hg=>(by cases hg),fun K hK=>(by cases hK)⟩
 | K::r,met,ys,h,hp,hn=>by
  obtain ⟨n1,n2,n3⟩:=Z4n hn
  rw [List.flatMap_cons,List.flatMap_cons]
  have rest:∀ (m1:List Dg) (us:List (List Nd)),(∀ g∈m1,g∈(K.a false).map dg)→m1.Nodup→(∀ d∈K.l false,dg d∈m1) →
    ∃ m,Zu (revV F L false) L (met++m1) (ys++us) (r.flatMap (Kd.tm dg false))=some (met++m,ys++us++r.flatMap (Kd.sh false))∧m.Nodup∧(∀ g∈m,∃ K'∈K::r,g∈(K'.a false).map dg)∧∀ K'∈K::r,∀ d∈K'.l false,dg d∈m:=fun m1 us e1 e4 e5=>by
   have hpm:=ZE L met m1
   obtain ⟨m2,c1,c2,c3,c4⟩:=Z6i r (met++m1) (ys++us) (fun K' hK'=>by
    obtain ⟨d1,d2,d3,d4,d5,d6,d7⟩:=h K' (List.mem_cons_of_mem _ hK')
    refine ⟨d1,d2,by omega,d4,d5,d6,fun a ha hm=>?_⟩
    rcases List.mem_append.1 hm with hm|hm
    ·exact d7 a ha hm
    ·obtain ⟨b,hb,e⟩:=List.mem_map.1 (e1 _ hm)
     exact n3 b hb K' hK' a ha e) (by omega) n2
   refine ⟨m1++m2,by rw [c1,List.append_assoc],?_,fun g hg=>?_,fun K' hK' d hd=>?_⟩
   ·rw [List.nodup_append]
    refine ⟨e4,c2,fun a ha b hb e=>?_⟩
    obtain ⟨x,hx,ex⟩:=List.mem_map.1 (e1 a ha)
    obtain ⟨K',hK',hb⟩:=c3 b hb
    obtain ⟨z,hz,ez⟩:=List.mem_map.1 hb
    exact n3 x hx K' hK' z hz (by rw [ex,ez,e])
   ·rcases List.mem_append.1 hg with hg|hg
    ·exact ⟨K,List.mem_cons_self ..,e1 g hg⟩
    ·obtain ⟨K',hK',q⟩:=c3 g hg
     exact ⟨K',List.mem_cons_of_mem _ hK',q⟩
   ·rcases List.mem_cons.1 hK' with rfl|hK'
    ·exact List.mem_append_left _ (e5 d hd)
    ·exact List.mem_append_right _ (c4 K' hK' d hd)
  obtain ⟨kt,k0,k3,k4,k5,k6,k2⟩:=h K (List.mem_cons_self ..)
  have hSn:Z6 K.h.S []=K.h.S:=Z27 k6 k5
  by_cases h0:K.how=0
  ·rw [if_pos h0] at k3
   obtain ⟨a3,a4⟩:=k4 h0
   obtain ⟨m1,b1,b2,b3,b4⟩:=kt.revs (by omega) met [] (fun a ha=>k2 a (Z0z ha)) (by omega)
   have et:K.tm dg false=[Z6 K.h.T K.key]:=if_pos h0
   have es:K.sh false=[Z6 K.h.S []]:=by unfold Kd.sh;rw [if_pos h0,k0]
   obtain ⟨m,q1,q2⟩:=rest m1 [Z6 K.h.S []] (fun g hg=>by
    obtain ⟨z,hz,ez⟩:=List.mem_map.1 (b3 g hg)
    rw [←ez]
    exact List.mem_map_of_mem (Z0z hz)) b2 (fun d hd=>by
    unfold Kd.l at hd
    rw [if_pos (by omega),if_neg (by omega),List.append_nil] at hd
    exact b4 d hd)
   refine ⟨m,?_,q2⟩
   rw [et,es,List.singleton_append,Zu,Z34 a3,a4]
   simp only
   rw [Z3O a3,b1]
   simp only
   rw [q1,List.append_assoc]
  ·have et:K.tm dg false=[dotV (dg (K.dT false))]:=by unfold Kd.tm;rw [if_neg h0,if_neg (by simp)]
   have hh:Z3 (dotV (dg (K.dT false)))=⟨7,[],[],false,0,1⟩:=rfl
   have hk:kidsOf (dotV (dg (K.dT false))) 0=[Z6 (strV (dg (K.dT false))) ZJ]:=Z0n (n:=⟨7,[],[],false,0,1⟩) rfl rfl fun y hy=>by
    obtain rfl:=List.mem_singleton.1 hy
    exact Fo.one (m:=0) rfl .nil
   have hm:memV (dotV (dg (K.dT false))) ZJ=some (Z6 (strV (dg (K.dT false))) ZJ):=by
    unfold memV
    rw [hh,hk]
    rfl
   have h2:Z3 (Z6 (strV (dg (K.dT false))) ZJ)={ nd 5 with key:=ZJ,text:=dg (K.dT false) }:=rfl
   have hmem:dg (K.dT false)∈(K.a false).map dg:=List.mem_map_of_mem (Z50 h0)
   rw [et,List.singleton_append]
   by_cases h1:K.how=1
   ·have es:K.sh false=[K.h.S]:=by unfold Kd.sh;rw [if_neg h0,if_pos ⟨h1,rfl⟩]
    have hf:=kt.told h1
    obtain ⟨g1,g2⟩:=Z0I hf
    have hnm:=k2 _ (Z50 h0)
    have hpo2:K.h.T.length+1+pend L (met++[dg (K.dT false)])≤pend L met:=Z0L g1 (met:=met) hnm
    have e0:K.a false=K.h.A++[K.dT false]:=by unfold Kd.a;rw [if_neg h0]
    have hA:∀ a∈K.h.A,dg a∉met++[dg (K.dT false)]:=fun a ha hm=>by
     rcases List.mem_append.1 hm with hm|hm
     ·exact k2 a (Z0z ha) hm
     ·rw [e0,List.map_append,List.nodup_append] at n1
      exact n1.2.2 _ (List.mem_map_of_mem ha) _ (List.mem_map_of_mem (List.mem_singleton_self _)) (List.mem_singleton.1 hm)
    obtain ⟨m1,b1,b2,b3,b4⟩:=kt.revs (by omega) (met++[dg (K.dT false)]) [] hA (by omega)
    rw [Z4a hh hm h2 ⟨rfl,rfl⟩ hf rfl hnm]
    show ∃ m,(match revV F L false (met++[dg (K.dT false)]) K.h.T [] with
     | none=>none
     | some (m,y)=>Zu (revV F L false) L m (ys++[y]) (r.flatMap (Kd.tm dg false)))=_∧_
    rw [b1]
    obtain ⟨m,q1,q2⟩:=rest ([dg (K.dT false)]++m1) [Z6 K.h.S []] (fun g hg=>by
     rcases List.mem_append.1 hg with hg|hg
     ·rw [List.mem_singleton.1 hg]
      exact hmem
     ·obtain ⟨z,hz,ez⟩:=List.mem_map.1 (b3 g hg)
      rw [←ez]
      exact List.mem_map_of_mem (Z0z hz)) (by
     rw [List.singleton_append,List.nodup_cons]
     refine ⟨fun hm=>?_,b2⟩
     obtain ⟨z,hz,ez⟩:=List.mem_map.1 (b3 _ hm)
     exact hA z hz (by rw [ez];exact List.mem_append_right _ (List.mem_singleton_self _))) (fun d hd=>by
     unfold Kd.l at hd
     rw [if_pos (by omega),if_pos h1] at hd
     rcases List.mem_append.1 hd with hd|hd
     ·exact List.mem_append_right _ (b4 d hd)
     ·rw [List.mem_singleton.1 hd]
      exact List.mem_append_left _ (List.mem_singleton_self _))
    refine ⟨m,?_,q2⟩
    simp only
    rw [es,List.append_assoc met,q1,hSn,List.append_assoc]
   ·have es:K.sh false=[]:=by unfold Kd.sh;rw [if_neg h0,if_neg (by simp [h1])]
    rw [Z4b hh hm h2 ⟨rfl,rfl⟩ (kt.held (by omega))]
    obtain ⟨m,q1,q2⟩:=rest [dg (K.dT false)] [] (fun g hg=>by rw [List.mem_singleton.1 hg];exact hmem) (by simp) (fun d hd=>by
     unfold Kd.l at hd
     rw [if_neg (by omega),if_neg h1] at hd
     cases hd)
    refine ⟨m,?_,q2⟩
    rw [es]
    simpa using q1
end
end Sg
