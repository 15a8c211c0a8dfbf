/- Texts put together by a program: JsnR UtfV NumV ShpQ PlnA Str Map MapT MapU MapE MapP StrB JsnA. -/
import Derived.Test.YtophlopiigpbgaaGreatDoorMb
import Derived.Test.YtophlopiigpbgaaGreatDoorMa
import Derived.Lib.ValidLaws
import Derived.Lib.TrimUEq
import Derived.Laws.Strings
import Derived.Laws.Strings2
import Derived.Laws.Slices
import Derived.Laws.BytesString
import Derived.Maps.OwnSet
import Derived.Maps.Range
import Derived.Lib.AppendStr
import Derived.Sort.KeysCollected
import Derived.Sort.Walk0
import Derived.Lib.ConvBytes
import Derived.Test.YtophlopiigpbgaaGreatDoorFacts
set_option linter.unusedVariables false
set_option linter.unusedSimpArgs false
/- What escapes say, in plain Lean: always a code point. -/
namespace Sg
theorem Z2O {t:List UInt8} {low:Bool} {fr k p u a v:Nat} (h:Z01 t low fr (k+1) p u=.ok a v):∃ d,d < 16∧Z0u low (3 - k) u d=false∧Z01 t low fr k (p+1) (16*u+d)=.ok a v:=by
 rw [Z01] at h
 split at h
 ·cases h
 ·rename_i c _
  split at h
  ·cases h
  ·rename_i d hd
   split at h
   ·cases h
   ·rename_i hb
    refine ⟨d,?_,by simpa using hb,h⟩
    unfold hexN at hd
    have hc:=c.toNat_lt
    simp only [UInt8.le_iff_toNat_le] at hd
    have e1:(48:UInt8).toNat=48:=rfl
    have e2:(57:UInt8).toNat=57:=rfl
    have e3:(97:UInt8).toNat=97:=rfl
    have e4:(102:UInt8).toNat=102:=rfl
    have e5:(65:UInt8).toNat=65:=rfl
    have e6:(70:UInt8).toNat=70:=rfl
    rw [e1,e2,e3,e4,e5,e6] at hd
    repeat' split at hd
    all_goals first|(simp only [Option.some.injEq] at hd;omega)|cases hd
theorem Z54 {t:List UInt8} {low:Bool} {fr p a v:Nat} (h:Z01 t low fr 4 p 0=.ok a v):∃ d0 d1 d2 d3,d0 < 16∧d1 < 16∧d2 < 16∧d3 < 16∧Z0u low 0 0 d0=false∧Z0u low 1 d0 d1=false∧v=4096*d0+256*d1+16*d2+d3∧a=p+4:=by
 obtain ⟨d0,h0,b0,h⟩:=Z2O h
 obtain ⟨d1,h1,b1,h⟩:=Z2O h
 obtain ⟨d2,h2,b2,h⟩:=Z2O h
 obtain ⟨d3,h3,b3,h⟩:=Z2O h
 rw [Z01] at h
 cases h
 refine ⟨d0,d1,d2,d3,h0,h1,h2,h3,b0,?_,by omega,rfl⟩
 simpa using b1
theorem Z6p {t:List UInt8} {fr p a v:Nat} (h:Z01 t false fr 4 p 0=.ok a v):v < 65536∧(v < 56320∨57343 < v):=by
 obtain ⟨d0,d1,d2,d3,h0,h1,h2,h3,b0,b1,rfl,_⟩:=Z54 h
 simp [Z0u] at b1
 omega
theorem Z86 {t:List UInt8} {fr p a v:Nat} (h:Z01 t true fr 4 p 0=.ok a v):56320≤v∧v≤57343:=by
 obtain ⟨d0,d1,d2,d3,h0,h1,h2,h3,b0,b1,rfl,_⟩:=Z54 h
 simp [Z0u] at b0 b1
 omega
theorem Z70 {t:List UInt8} {fr p a u:Nat} (h:Z1M t fr p=.ok a u):u < 1114112∧(u < 55296∨57343 < u):=by
 unfold Z1M at h
 cases h1:Z01 t false fr 4 p 0 with
 | bad e q=>rw [h1] at h;cases h
 | ok b hi =>
  rw [h1] at h
  have h2:=Z6p h1
  simp only [Gt.bind] at h
  split at h
  ·cases h
   omega
  ·cases h3:Z2C t fr b 92 with
   | bad e q=>rw [h3] at h;cases h
   | ok b2 _ =>
    rw [h3] at h
    simp only at h
    cases h4:Z2C t fr b2 117 with
    | bad e q=>rw [h4] at h;cases h
    | ok b3 _ =>
     rw [h4] at h
     simp only at h
     cases h5:Z01 t true fr 4 b3 0 with
     | bad e q=>rw [h5] at h;cases h
     | ok b4 lo =>
      rw [h5] at h
      have h6:=Z86 h5
      cases h
      omega
theorem Z6x {t:List UInt8} {fr a u:Nat} (h:escX t fr=.ok a u):u < 1114112∧(u < 55296∨57343 < u):=by
 unfold escX at h
 split at h
 ·cases h
 ·split at h
  ·exact Z70 h
  ·split at h
   ·rename_i u' hu
    cases h
    unfold escS at hu
    repeat' split at hu
    all_goals cases hu
    all_goals decide
   ·cases h
theorem Z7C {t:List UInt8} {fr p:Nat} {c:UInt8} (h:p < t.length):Z2C t fr p c=if bAt t p=c.toNat then .ok (p+1) () else .bad 33 fr:=by
 obtain ⟨d,h1,h2⟩:=Z4w h
 unfold Z2C
 rw [h1,←h2]
 by_cases e:d=c
 ·subst e;simp
 ·have:¬d.toNat=c.toNat:=fun e'=>e (UInt8.toNat_inj.1 e')
  simp [e,this]
theorem Z5S {t:List UInt8} {fr p:Nat} {c:UInt8} (h:¬p < t.length):Z2C t fr p c=.bad 31 p:=by
 unfold Z2C
 rw [List.getElem?_eq_none (by omega)]
def escN (c:Nat):Option Nat:=if c=34 then some 34 else if c=92 then some 92 else if c=47 then some 47 else if c=98 then some 8 else if c=102 then some 12 else if c=110 then some 10 else if c=114 then some 13 else if c=116 then some 9 else none
theorem Zdd (c:UInt8):escS c=escN c.toNat:=by
 have key:∀ d:UInt8,(c=d)=(c.toNat=d.toNat):=fun d=>propext UInt8.toNat_inj.symm
 unfold escS escN
 simp only [key]
 rfl
theorem Zdc {t:List UInt8} {fr:Nat} (h:fr+1 < t.length):escX t fr=if bAt t (fr+1)=117 then Z1M t fr (fr+2) else match escN (bAt t (fr+1)) with
  | some u=>.ok (fr+2) u
  | none=>.bad 33 fr:=by
 obtain ⟨d,h1,h2⟩:=Z4w h
 have h3:(d=117)=(d.toNat=117):=propext UInt8.toNat_inj.symm
 unfold escX
 rw [h1]
 simp only [Zdd,h2,h3]
 by_cases hh:bAt t (fr+1)=117
 ·rw [if_pos hh,if_pos hh]
 ·rw [if_neg hh,if_neg hh]
  cases escN (bAt t (fr+1))<;>rfl
theorem ZbS {t:List UInt8} {fr:Nat} (h:¬fr+1 < t.length):escX t fr=.bad 31 (fr+1):=by
 unfold escX
 rw [List.getElem?_eq_none (by omega)]
end Sg
/- Texts that have been read as strings are well formed UTF-8; plain. -/
namespace Sg
open Go.Lib
def Ch (s:List UInt8):Prop:=(∃ c:UInt8,s=[c]∧c.toNat < 128)∨(2≤s.length∧(decodeL s).2=s.length)
theorem Z1R {s b:List UInt8} {i:Nat} (h:i < s.length):(s++b).getD i 0=s.getD i 0:=by simp [List.getD,List.getElem?_append,h]
theorem Zdi {s:List UInt8} (h:Ch s) (b:List UInt8):validD (s++b)=validD b:=by
 rcases h with ⟨c,rfl,hc⟩|⟨h2,hw⟩
 ·exact validD_cons c b hc
 ·have hne:s++b≠[]:=fun e=>by
   have:=congrArg List.length e
   rw [List.length_append,List.length_nil] at this
   omega
  have h3:decodeL (s++b)=decodeL s:=by
   rw [decodeL_N] at hw
   rw [decodeL_N (s++b),decodeL_N s,Z1R (show 0 < s.length by omega)]
   exact decodeN_more s.length (s++b).length _ _ _ _ _ _ _ h2 (by rw [List.length_append];omega) hw (fun h=>by rw [Z1R h]) (fun h=>by rw [Z1R h]) (fun h=>by rw [Z1R h])
  rw [validD_step _ hne,h3,hw,if_neg (fun h=>by omega),List.drop_left]
set_option maxRecDepth 100000 in
theorem Ze1 {u:Nat} (h:u < 1114112∧(u < 55296∨57343 < u)):Ch (utfL u):=by
 unfold utfL
 split
 ·exact .inl ⟨_,rfl,by rw [UInt8.toNat_ofNat'];omega⟩
 ·split
  ·refine .inr ⟨Nat.le_refl _,?_⟩
   rw [decodeL_N]
   simp only [List.length_cons,List.length_nil,List.getD_cons_zero,List.getD_cons_succ,UInt8.toNat_ofNat']
   unfold decodeN
   repeat' split
   all_goals first|rfl|(exfalso;omega)
  ·split
   ·refine .inr ⟨by simp,?_⟩
    rw [decodeL_N]
    simp only [List.length_cons,List.length_nil,List.getD_cons_zero,List.getD_cons_succ,UInt8.toNat_ofNat']
    unfold decodeN
    repeat' split
    all_goals first|rfl|(exfalso;omega)
   ·refine .inr ⟨by simp,?_⟩
    rw [decodeL_N]
    simp only [List.length_cons,List.length_nil,List.getD_cons_zero,List.getD_cons_succ,UInt8.toNat_ofNat']
    unfold decodeN
    repeat' split
    all_goals first|rfl|(exfalso;omega)
set_option maxRecDepth 100000 in
theorem Z3i {n w b0 b1 b2 b3 c2 c3:Nat} (h:(decodeN n b0 b1 b2 b3).2=w) (hw:2≤w) (e2:2 < w→c2=b2) (e3:3 < w→c3=b3):(decodeN w b0 b1 c2 c3).2=w:=by
 unfold decodeN at h ⊢
 repeat' split at h
 all_goals first
  | (exfalso;simp only at h;omega)
  | (simp only at h;subst h;(first
    | (have E2:=e2 (by omega);have E3:=e3 (by omega);subst E2 E3)
    | (have E2:=e2 (by omega);subst E2)
    | skip))
 all_goals (repeat' split)
 all_goals first|rfl|(exfalso;omega)
theorem Ze2 {t:List UInt8} {p a:Nat} {c:UInt8} {u:Unit} (hc:t[p]?=some c) (h:128≤c.toNat) (hs:Z2D t p c=.ok a u):Ch ((t.drop p).take (a - p)):=by
 have h1:=Z5i hc h
 rw [hs] at h1
 obtain ⟨h2,h3,h4⟩:=h1
 have hl:((t.drop p).take (a - p)).length=a - p:=by rw [List.length_take,List.length_drop];omega
 refine .inr ⟨by omega,?_⟩
 rw [decodeL_N,hl]
 have g:∀ k,k < a - p→((t.drop p).take (a - p)).getD k 0=t.getD (p+k) 0:=fun k hk=>by rw [getD_takeU _ _ _ hk,getD_dropU]
 have g0:(((t.drop p).take (a - p)).getD 0 0).toNat=c.toNat:=by rw [g 0 (by omega)];simp [List.getD,hc]
 rw [g0,g 1 (by omega)]
 exact Z3i h2 (by omega) (fun h=>by rw [g 2 h];rfl) (fun h=>by rw [g 3 h];rfl)
def VB (acc:List UInt8):Prop:=∀ b,validD (acc++b)=validD b
theorem VB.nil:VB []:=fun _=>rfl
theorem VB.add {acc s:List UInt8} (h:VB acc) (hs:Ch s):VB (acc++s):=fun b=>by rw [List.append_assoc,h,Zdi hs]
theorem VB.ok {acc:List UInt8} (h:VB acc):validD acc=true:=by
 have:=h []
 rw [List.append_nil] at this
 rw [this]
 rfl
theorem Z1p {t:List UInt8}:∀ {f p a:Nat} {acc s:List UInt8},ZD t f p acc=.ok a s→VB acc→VB s
 | 0,p,a,acc,s,h,_=>by rw [ZD] at h;cases h
 | f+1,p,a,acc,s,h,hv=>by
  rw [ZD] at h
  split at h
  ·cases h
  ·rename_i c hc
   split at h
   ·cases h
   ·split at h
    ·cases h
     exact hv
    ·split at h
     ·obtain ⟨b,u,h1,h2⟩:=Zd h
      exact Z1p h2 (hv.add (Ze1 (Z6x h1)))
     ·split at h
      ·rename_i h128
       exact Z1p h (hv.add (.inl ⟨c,rfl,by simpa [UInt8.lt_iff_toNat_lt] using h128⟩))
      ·rename_i h128
       obtain ⟨b,u,h1,h2⟩:=Zd h
       exact Z1p h2 (hv.add (Ze2 hc (by have:¬c.toNat < 128:=(by simpa [UInt8.lt_iff_toNat_lt] using h128);omega) h1))
theorem Z3e {t:List UInt8} {p a:Nat} {s:List UInt8} (h:ZL t p=.ok a s):validD s=true:=(Z1p h VB.nil).ok
end Sg
/- A number that has been read is one by itself; plain. -/
namespace Sg
theorem Z22 {t:List UInt8} {a b c:Nat} (h1:a≤b) (h2:b≤c):sl t a c=sl t a b++sl t b c:=by
 unfold sl
 rw [show c - a=(b - a)+(c - b) by omega,List.take_add,List.drop_drop,show a+(b - a)=b by omega]
theorem Z5g (t:List UInt8) (a:Nat):sl t a a=[]:=by simp [sl]
theorem Z3J {t:List UInt8} {a:Nat} {c:UInt8} (h:atB t a c=true):sl t a (a+1)=[c]:=by
 unfold atB at h
 have h1:t[a]?=some c:=by simpa using h
 obtain ⟨h2,h3⟩:=List.getElem?_eq_some_iff.1 h1
 unfold sl
 rw [List.drop_eq_getElem_cons h2,show a+1 - a=1 by omega,h3]
 rfl
def Digs (s:List UInt8):Prop:=s≠[]∧∀ c∈s,ZA c=true
theorem Zcb {f:UInt8→Bool} {l r:List UInt8} (hl:∀ c∈l,f c=true) (hr:∀ c,r.head?=some c→f c=false):(l++r).takeWhile f=l:=by
 induction l with
 | nil =>
  cases r with
  | nil=>rfl
  | cons c r=>rw [List.nil_append,List.takeWhile_cons_of_neg (by rw [hr c rfl];simp)]
 | cons x l ih =>
  rw [List.cons_append,List.takeWhile_cons_of_pos (hl x (List.mem_cons_self ..)),ih fun c hc=>hl c (List.mem_cons_of_mem _ hc)]
theorem Z7j {t:List UInt8} {p a:Nat} {u:Unit} (h:Z0P t p=.ok a u):p≤a∧Digs (sl t p a)∧∀ c,t[p]?=some c→(sl t p a).head?=some c:=by
 unfold Z0P at h
 split at h
 ·cases h
 ·rename_i hne
  cases h
  unfold Z1E at hne ⊢
  have h1:sl t p (p+((t.drop p).takeWhile ZA).length)=(t.drop p).takeWhile ZA:=by
   unfold sl
   rw [show p+((t.drop p).takeWhile ZA).length - p=((t.drop p).takeWhile ZA).length by omega]
   obtain ⟨r,hr⟩:=List.takeWhile_prefix ZA (l:=t.drop p)
   conv=>lhs;rw [←hr]
   rw [List.take_append_of_le_length (by rw [hr];exact Nat.le_refl _)]
   conv=>lhs;rw [hr]
   exact List.take_of_length_le (Nat.le_refl _)
  have h2:(t.drop p).takeWhile ZA≠[]:=fun e=>hne (by rw [e];rfl)
  rw [h1]
  refine ⟨by omega,⟨h2,fun c hc=>Z7Y hc⟩,fun c hc=>?_⟩
  obtain ⟨hp,hq⟩:=List.getElem?_eq_some_iff.1 hc
  rw [List.drop_eq_getElem_cons hp] at h2 ⊢
  by_cases hd:ZA t[p]=true
  ·rw [List.takeWhile_cons_of_pos hd,hq]
   rfl
  ·rw [List.takeWhile_cons_of_neg hd] at h2
   exact absurd rfl h2
structure NumS (M D F E:List UInt8):Prop where
 m:M=[]∨M=[45]
 d:D=[48]∨(Digs D∧D.head?≠some 48)
 f:F=[]∨∃ r,F=46::r∧Digs r
 e:E=[]∨∃ x sg r,E=x::(sg++r)∧(x=101∨x=69)∧(sg=[]∨sg=[43]∨sg=[45])∧Digs r
theorem Z8C {t:List UInt8} {p a:Nat} {u:Unit} (h:numX t p=.ok a u):∃ M D F E,sl t p a=M++(D++(F++E))∧NumS M D F E:=by
 unfold numX at h
 obtain ⟨q1,u1,h1,h⟩:=Zd h
 obtain ⟨q2,u2,h2,h3⟩:=Zd h
 obtain ⟨m,hm,hmp⟩:∃ m,m=(if atB t p 45 then p+1 else p)∧p≤m:=⟨_,rfl,by split<;>omega⟩
 rw [←hm] at h1
 have hM:sl t p m=[]∨sl t p m=[45]:=by
  rw [hm]
  split
  ·rename_i h4
   exact .inr (Z3J h4)
  ·exact .inl (Z5g t p)
 have hD:m≤q1∧(sl t m q1=[48]∨(Digs (sl t m q1)∧(sl t m q1).head?≠some 48)):=by
  unfold Z1C at h1
  split at h1
  ·rename_i h4
   cases h1
   exact ⟨by omega,.inl (Z3J h4)⟩
  ·rename_i h4
   obtain ⟨d1,d2,d3⟩:=Z7j h1
   refine ⟨d1,.inr ⟨d2,fun e=>?_⟩⟩
   cases hc:t[m]? with
   | none =>
    have hm2:=List.getElem?_eq_none_iff.1 hc
    refine d2.1 ?_
    unfold sl
    rw [List.drop_eq_nil_of_le hm2,List.take_nil]
   | some c =>
    have:=d3 c hc
    rw [e] at this
    cases this
    exact h4 (by simp [atB,hc])
 have hF:q1≤q2∧(sl t q1 q2=[]∨∃ r,sl t q1 q2=46::r∧Digs r):=by
  unfold Z0w at h2
  split at h2
  ·rename_i h4
   obtain ⟨d1,d2,d3⟩:=Z7j h2
   refine ⟨by omega,.inr ⟨sl t (q1+1) q2,?_,d2⟩⟩
   rw [Z22 (b:=q1+1) (by omega) d1,Z3J h4]
   rfl
  ·cases h2
   exact ⟨Nat.le_refl _,.inl (Z5g t q1)⟩
 have hE:q2≤a∧(sl t q2 a=[]∨∃ x sg r,sl t q2 a=x::(sg++r)∧(x=101∨x=69)∧(sg=[]∨sg=[43]∨sg=[45])∧Digs r):=by
  unfold Z1N at h3
  split at h3
  ·rename_i h4
   obtain ⟨d1,d2,d3⟩:=Z7j h3
   obtain ⟨x,hx,hx2⟩:∃ x,sl t q2 (q2+1)=[x]∧(x=101∨x=69):=by
    rw [Bool.or_eq_true] at h4
    rcases h4 with h4|h4
    ·exact ⟨101,Z3J h4,.inl rfl⟩
    ·exact ⟨69,Z3J h4,.inr rfl⟩
   have hs:q2+1≤Z0g t (q2+1)∧(sl t (q2+1) (Z0g t (q2+1))=[]∨sl t (q2+1) (Z0g t (q2+1))=[43]∨sl t (q2+1) (Z0g t (q2+1))=[45]):=by
    unfold Z0g
    split
    ·rename_i h5
     rw [Bool.or_eq_true] at h5
     refine ⟨by omega,?_⟩
     rcases h5 with h5|h5
     ·exact .inr (.inl (Z3J h5))
     ·exact .inr (.inr (Z3J h5))
    ·exact ⟨Nat.le_refl _,.inl (Z5g _ _)⟩
   refine ⟨by omega,.inr ⟨x,_,_,?_,hx2,hs.2,d2⟩⟩
   rw [Z22 (b:=q2+1) (by omega) (by omega),Z22 (a:=q2+1) hs.1 d1,hx]
   rfl
  ·cases h3
   exact ⟨Nat.le_refl _,.inl (Z5g _ _)⟩
 refine ⟨sl t p m,sl t m q1,sl t q1 q2,sl t q2 a,?_,⟨hM,hD.2,hF.2,hE.2⟩⟩
 rw [Z22 hmp (by omega),Z22 hD.1 (by omega),Z22 hF.1 hE.1]
theorem Z6U {l r:List UInt8} (hl:∀ c∈l,ZA c=true) (hr:∀ c,r.head?=some c→ZA c=false):runD (l++r)=l.length:=by
 unfold runD
 rw [Zcb hl hr]
theorem Z8F {M D F E:List UInt8} (h:NumS M D F E):(numP (M++(D++(F++E)))).isSome=true:=by
 obtain ⟨hM,hD,hF,hE⟩:=h
 have hDd:∀ c∈D,ZA c=true:=by
  rcases hD with rfl|⟨hD,-⟩
  ·intro c hc
   rw [List.mem_singleton.1 hc]
   decide
  ·exact hD.2
 have hDn:D≠[]:=by
  rcases hD with rfl|⟨hD,-⟩
  ·simp
  ·exact hD.1
 have hcut:cutP 45 (M++(D++(F++E)))=(D++(F++E),decide (M=[45])):=by
  rcases hM with rfl|rfl
  ·obtain ⟨x,r,rfl⟩:=List.exists_cons_of_ne_nil hDn
   have hx:=hDd x (List.mem_cons_self ..)
   rw [List.nil_append,List.cons_append,cutP,if_neg (fun e=>by rw [e] at hx;revert hx;decide)]
   rfl
  ·simp [cutP]
 have hEh:∀ c,E.head?=some c→c=101∨c=69:=by
  rcases hE with rfl|⟨x,sg,r,rfl,hx,-,-⟩
  ·intro c hc;cases hc
  ·intro c hc
   cases hc
   exact hx
 have hFE:∀ c,(F++E).head?=some c→ZA c=false:=by
  rcases hF with rfl|⟨r,rfl,-⟩
  ·intro c hc
   rcases hEh c hc with rfl|rfl<;>decide
  ·intro c hc
   cases hc
   decide
 have hrun:runD (D++(F++E))=D.length:=Z6U hDd hFE
 have hbad:Z3h (D++(F++E))=false:=by
  unfold Z3h
  rw [hrun]
  have h0:D.length≠0:=fun e=>hDn (List.length_eq_zero_iff.1 e)
  rcases hD with rfl|⟨hD,h48⟩
  ·simp
  ·obtain ⟨x,r,rfl⟩:=List.exists_cons_of_ne_nil hDn
   have hx:x≠48:=fun e=>h48 (by rw [e];rfl)
   have hb:bAt (x::r++(F++E)) 0=x.toNat:=rfl
   rw [hb]
   have:x.toNat≠48:=fun e=>hx (UInt8.toNat_inj.1 (by rw [e];rfl))
   simp [this]
 unfold numP
 rw [hcut]
 simp only
 rw [hbad,if_neg (by simp),hrun,List.drop_left]
 have hfr:∃ p1,Z8S (F++E)=some (E,p1):=by
  unfold Z8S
  rcases hF with rfl|⟨r,rfl,hr⟩
  ·rw [List.nil_append]
   cases E with
   | nil=>exact ⟨true,rfl⟩
   | cons x r =>
    have hx:=hEh x rfl
    have h46:x≠46:=by rcases hx with rfl|rfl<;>decide
    rw [cutP,if_neg h46]
    exact ⟨true,rfl⟩
  ·have hrr:runD (r++E)=r.length:=Z6U hr.2 fun c hc=>by rcases hEh c hc with rfl|rfl<;>decide
   rw [List.cons_append,cutP,if_pos rfl]
   simp only
   rw [if_pos trivial,hrr,if_neg (fun e=>hr.1 (List.length_eq_zero_iff.1 e)),List.drop_left]
   exact ⟨false,rfl⟩
 obtain ⟨p1,hfr⟩:=hfr
 rw [hfr]
 simp only
 have hex:∃ p2,expP E=some ([],p2):=by
  rcases hE with rfl|⟨x,sg,r,rfl,hx,hsg,hr⟩
  ·exact ⟨true,rfl⟩
  ·obtain ⟨y,r',rfl⟩:=List.exists_cons_of_ne_nil hr.1
   have hy:=hr.2 y (List.mem_cons_self ..)
   have hsn:Z2h (sg++y::r')=y::r':=by
    rcases hsg with rfl|rfl|rfl
    ·rw [List.nil_append,Z2h,if_neg]
     rintro (rfl|rfl)<;>exact absurd hy (by decide)
    ·rfl
    ·rfl
   have hrr:runD (y::r')=(y::r').length:=by
    have:=Z6U (l:=y::r') (r:=[]) hr.2 (fun c hc=>by cases hc)
    rwa [List.append_nil] at this
   rw [expP,if_pos hx,hsn,hrr,if_neg (by simp)]
   exact ⟨false,rfl⟩
 obtain ⟨p2,hex⟩:=hex
 rw [hex]
 simp
theorem Z9V {t:List UInt8} {p a:Nat} {u:Unit} (h:numX t p=.ok a u):(numP (sl t p a)).isSome=true:=by
 obtain ⟨M,D,F,E,h1,h2⟩:=Z8C h
 rw [h1]
 exact Z8F h2
end Sg
/- What has been read from a text is well shaped; plain. -/
namespace Sg
open Go.Lib
mutual
inductive VOk:Nat→Option (List (List UInt8))→List Nd→Prop
 | mk {d:Nat} {nm:Option (List (List UInt8))} {n:Nd} {xs:List (List Nd)}:Zl validD n=true→validD n.key=true→(nm=none→n.key=[])→hasN nm n.key=false→(ZF n→d≠0)→n.kids=(xs.length:Int) →
   ROk (d - 1) (if n.kind=7 then some [] else none) xs→VOk d nm (n::xs.flatten)
inductive ROk:Nat→Option (List (List UInt8))→List (List Nd)→Prop
 | nil {d:Nat} {nm:Option (List (List UInt8))}:ROk d nm []
 | cons {d:Nat} {nm:Option (List (List UInt8))} {x:List Nd} {xs:List (List Nd)}:VOk d nm x→ROk d (nm.map ((Z3 x).key::·)) xs→ROk d nm (x::xs)
end
theorem VOk.inv {d:Nat} {nm:Option (List (List UInt8))} {x:List Nd} (h:VOk d nm x):∃ n xs,x=n::xs.flatten∧Zl validD n=true∧validD n.key=true∧(nm=none→n.key=[])∧hasN nm n.key=false∧(ZF n→d≠0)∧n.kids=(xs.length:Int)∧ROk (d - 1) (if n.kind=7 then some [] else none) xs:=by
 cases h with
 | mk a1 a2 a3 a4 a5 a6 a7=>exact ⟨_,_,rfl,a1,a2,a3,a4,a5,a6,a7⟩
theorem ROk.inv {d:Nat} {nm:Option (List (List UInt8))} {x:List Nd} {xs:List (List Nd)} (h:ROk d nm (x::xs)):VOk d nm x∧ROk d (nm.map ((Z3 x).key::·)) xs:=by
 cases h with
 | cons a b=>exact ⟨a,b⟩
theorem Z5k:∀ (f:Nat) {d:Nat} {nm:Option (List (List UInt8))} {xs:List (List Nd)} {r:List Nd},ROk d nm xs→xs.flatten.length+r.length < f→Z1H validD f d nm xs.length (xs.flatten++r)=some r
 | 0,d,nm,xs,r,h,hf=>by omega
 | f+1,d,nm,[],r,h,hf=>rfl
 | f+1,d,nm,x::xs,r,h,hf=>by
  obtain ⟨h1,h2⟩:=h.inv
  obtain ⟨n,ys,rfl,a1,a2,a3,a4,a5,a6,a7⟩:=h1.inv
  rw [List.length_cons,List.flatten_cons,List.cons_append,List.cons_append,Z1H]
  rw [if_neg]
  ·have hk:n.kids.toNat=ys.length:=by rw [a6];simp
   have hf2:(n::ys.flatten++xs.flatten).length+r.length < f+1:=hf
   rw [List.length_append,List.length_cons] at hf2
   rw [hk,List.append_assoc,Z5k f a7 (by rw [List.length_append];omega)]
   simp only
   rw [a4,if_neg (by simp)]
   exact Z5k f h2 (by omega)
  ·rintro (h|h|⟨h,h3⟩|⟨h,h3⟩)
   ·rw [a1] at h;cases h
   ·rw [a2] at h;cases h
   ·exact h3 (a3 h)
   ·exact a5 h h3
theorem Z2T {v:List Nd} (h:VOk 32 none v):ZG validD v=true:=by
 have h1:ROk 32 none [v]:=.cons h .nil
 have h2:=Z5k (v.length+1) (r:=[]) h1 (by simp)
 rw [ZG,show ([(1,none)]:List Lv)=popL ((1,none)::[]) from rfl,Z1K (v.length+1) v 32 1 none [] (by omega) rfl]
 simp only [List.length_cons,List.length_nil,List.flatten_cons,List.flatten_nil,List.append_nil] at h2
 rw [h2]
 rfl
def Z77 (nm:Option (List (List UInt8))) (xs:List (List Nd)):Option (List (List UInt8)):=xs.foldl (fun m x=>m.map ((Z3 x).key::·)) nm
theorem Z7J:∀ {xs:List (List Nd)} {d:Nat} {nm:Option (List (List UInt8))} {x:List Nd},ROk d nm xs→VOk d (Z77 nm xs) x→ROk d nm (xs++[x])
 | [],d,nm,x,_,hx=>.cons hx .nil
 | y::ys,d,nm,x,h,hx=>by
  obtain ⟨h1,h2⟩:=h.inv
  exact .cons h1 (Z7J h2 hx)
theorem Z98 (xs:List (List Nd)):Z77 none xs=none:=by
 induction xs with
 | nil=>rfl
 | cons x r ih=>exact ih
theorem Z5b:∀ (xs:List (List Nd)) (ns:List (List UInt8)),∃ ms,Z77 (some ns) xs=some ms∧∀ k,k∈ms↔(k∈ns∨k∈xs.map fun x=>(Z3 x).key)
 | [],ns=>⟨ns,rfl,fun k=>by simp⟩
 | x::r,ns=>by
  obtain ⟨ms,h1,h2⟩:=Z5b r ((Z3 x).key::ns)
  refine ⟨ms,h1,fun k=>?_⟩
  rw [h2,List.map_cons,List.mem_cons,List.mem_cons]
  exact ⟨fun h=>by rcases h with (h|h)|h<;>simp [h],fun h=>by rcases h with h|h|h<;>simp [h]⟩
theorem Z8m {d:Nat} {l:List Nd} {k:List UInt8} {ns:List (List UInt8)} (h:VOk d none l) (hk:validD k=true) (hn:k∉ns):VOk d (some ns) (Z6 l k):=by
 obtain ⟨n,xs,rfl,a1,a2,a3,a4,a5,a6,a7⟩:=h.inv
 refine VOk.mk (n:=n.named k) (xs:=xs) ?_ hk (fun h=>by cases h) (by simp [hasN,hn,Nd.named]) a5 a6 a7
 exact a1
theorem Z6t {t:List UInt8} {p a d:Nat} {c:UInt8} {l:List Nd} (h:ZT Zb t p c=.ok a l):VOk d none l:=by
 have one:∀ {n:Nd},Zl validD n=true→n.key=[]→n.kids=0→(n.kind≠6∧n.kind≠7)→VOk d none [n]:=fun {n} h1 h2 h3 h4=>by
  have:=VOk.mk (d:=d) (nm:=none) (n:=n) (xs:=[]) h1 (by rw [h2];rfl) (fun _=>h2) rfl (fun hr=>(hr.elim h4.1 h4.2).elim) h3 .nil
  exact this
 unfold ZT at h
 split at h
 ·obtain ⟨b,s,h1,h⟩:=Zd h
  cases h
  refine one ?_ rfl rfl (by simp [nd])
  have:=Z3e h1
  simp [Zl,nd,this]
 ·split at h
  ·obtain ⟨b,s,h1,h⟩:=Zd h
   cases h
   refine one ?_ rfl rfl (by simp [nd])
   have:=Z9V h1
   simp [Zl,nd,this]
  ·repeat' split at h
   all_goals first
    | (obtain ⟨b,v,-,h⟩:=Zd h;cases h;exact one (by decide) rfl rfl (by simp [nd]))
    | cases h
structure RowS (d:Nat) (obj:Bool) (names:List (List UInt8)) (hd:Nd) (out:List Nd) (xs:List (List Nd)):Prop where
 out_:out=xs.flatten
 kids:hd.kids=(xs.length:Int)
 kind:hd.kind=if obj then 7 else 6
 head:hd.key=[]∧hd.text=[]∧hd.whole=false∧hd.int=0
 rows:ROk d (if obj then some [] else none) xs
 names_:obj=true→∀ k,k∈names↔k∈xs.map fun x=>(Z3 x).key
theorem Z7H {d:Nat} {obj:Bool} {names:List (List UInt8)} {hd:Nd} {out:List Nd} {xs:List (List Nd)} (h:RowS d obj names hd out xs):VOk (d+1) none (hd::out):=by
 rw [h.out_]
 obtain ⟨h1,h2,h3,h4⟩:=h.head
 refine VOk.mk ?_ (by rw [h1];rfl) (fun _=>h1) rfl (fun _=>by omega) h.kids ?_
 ·have hk:=h.kind
  have hkd:=h.kids
  cases obj
  ·have hk2:hd.kind=6:=hk
   simp [Zl,hk2,h2,h3,h4,hkd]
  ·have hk2:hd.kind=7:=hk
   simp [Zl,hk2,h2,h3,h4,hkd]
 ·have hk:=h.kind
  cases obj
  ·have hk2:hd.kind=6:=hk
   rw [if_neg (by rw [hk2];decide)]
   exact h.rows
  ·have hk2:hd.kind=7:=hk
   rw [if_pos hk2]
   exact h.rows
theorem ZbE {d:Nat} {val:Nat→Gt (List Nd)} (hv:∀ {p a l},val p=.ok a l→VOk d none l) {t:List UInt8} {obj:Bool} {p a:Nat} {names:List (List UInt8)} {g:List Nd × List UInt8} (h:Z0M val t obj p names=.ok a g) :
  if obj then (∀ ns:List (List UInt8),(∀ k,k∈ns→k∈names)→VOk d (some ns) g.1)∧(Z3 g.1).key=g.2 else VOk d none g.1:=by
 unfold Z0M at h
 cases obj with
 | true =>
  rw [if_pos rfl] at h ⊢
  split at h
  ·obtain ⟨b,s,h1,h⟩:=Zd h
   split at h
   ·cases h
   ·rename_i hs
    split at h
    ·obtain ⟨e,v,h2,h⟩:=Zd h
     cases h
     have hq:=Z3e h1
     have hvv:=hv h2
     refine ⟨fun ns hns=>Z8m hvv hq fun hk=>hs (hns s hk),?_⟩
     obtain ⟨n,xs,rfl,-⟩:=hvv.inv
     rfl
    ·cases h
  ·cases h
 | false =>
  rw [if_neg (by simp)] at h ⊢
  obtain ⟨e,v,h1,h⟩:=Zd h
  cases h
  exact hv h1
theorem Z9E {d:Nat} {val:Nat→Gt (List Nd)} (hv:∀ {p a l},val p=.ok a l→VOk d none l) {t:List UInt8} {obj:Bool}:∀ {f p a:Nat} {names:List (List UInt8)} {hd:Nd} {out l:List Nd} {xs:List (List Nd)},rowX val t obj f p names hd out=.ok a l→RowS d obj names hd out xs→VOk (d+1) none l
 | 0,p,a,names,hd,out,l,xs,h,_=>by rw [rowX] at h;cases h
 | f+1,p,a,names,hd,out,l,xs,h,hs=>by
  rw [rowX] at h
  obtain ⟨b,g,hi,h⟩:=Zd h
  have hg:=ZbE hv hi
  have hs2:RowS d obj (names++[g.2]) hd.more (out++g.1) (xs++[g.1]):=by
   refine ⟨by rw [hs.out_];simp,by rw [List.length_append];simp [Nd.more,hs.kids],hs.kind,hs.head,?_,fun ho k=>?_⟩
   ·refine Z7J hs.rows ?_
    cases obj with
    | false =>
     rw [if_neg (by simp),Z98]
     exact hg
    | true =>
     rw [if_pos rfl] at hg ⊢
     obtain ⟨ms,m1,m2⟩:=Z5b xs []
     rw [m1]
     refine hg.1 ms fun k hk=>?_
     rw [hs.names_ rfl]
     exact (m2 k).1 hk |>.resolve_left (by simp)
   ·subst ho
    rw [if_pos rfl] at hg
    rw [List.mem_append,List.map_append,List.mem_append,hs.names_ rfl,List.map_singleton,hg.2]
  unfold rowE at h
  split at h
  ·cases h
   exact Z7H hs2
  ·split at h
   ·exact Z9E hv h hs2
   ·cases h
theorem Zcv {t:List UInt8}:∀ {d p a:Nat} {l:List Nd},valX Zb t d p=.ok a l→VOk d none l:=by
 intro d
 induction d with
 | zero =>
  intro p a l h
  rw [valX] at h
  split at h
  ·cases h
  ·split at h
   ·cases h
   ·exact Z6t h
 | succ d ih =>
  intro p a l h
  rw [valX] at h
  split at h
  ·cases h
  ·split at h
   ·rename_i c hc hb
    have h':(if atB t (Z4 t (p+1)) (ZB (decide (c=123)))=true then Gt.ok (Z4 t (p+1)+1) [nd (if c=123 then 7 else 6)] else rowX (valX Zb t d) t (decide (c=123)) (t.length+1) (Z4 t (p+1)) [] (nd (if c=123 then 7 else 6)) [])=Gt.ok a l:=h
    have hrow:RowS d (decide (c=123)) [] (nd (if c=123 then 7 else 6)) [] []:=by
     refine ⟨rfl,rfl,?_,⟨rfl,rfl,rfl,rfl⟩,.nil,fun _ k=>by simp⟩
     by_cases h1:c=123<;>simp [nd,h1]
    split at h'
    ·cases h'
     exact Z7H hrow
    ·exact Z9E ih h' hrow
   ·exact Z6t h
theorem Z3U {t:List UInt8} {a:Nat} {l:List Nd} (h:Zy Zb t=.ok a l):VOk 32 none l:=by
 unfold Zy at h
 split at h
 ·cases h
 ·obtain ⟨b,v,hv,h⟩:=Zd h
  split at h
  ·cases h
  ·cases h
   exact Zcv hv
theorem Z3g {t:List UInt8} {a:Nat} {l:List Nd} (h:Zy Zb t=.ok a l):ZG validD l=true:=Z2T (Z3U h)
end Sg
/- Where nothing is hidden a payload reveals itself; plain. -/
namespace Sg
open Go.Lib
theorem Z0f:∀ {xs:List (List Nd)} {d:Nat} {nm:Option (List (List UInt8))},ROk d nm xs→∀ x∈xs,∃ nm',VOk d nm' x∧(nm=none→nm'=none)
 | [],_,_,_,x,hx=>by cases hx
 | y::r,d,nm,h,x,hx=>by
  obtain ⟨h1,h2⟩:=h.inv
  rcases List.mem_cons.1 hx with rfl|hx
  ·exact ⟨nm,h1,id⟩
  ·obtain ⟨nm',h3,h4⟩:=Z0f h2 x hx
   exact ⟨nm',h3,fun e=>h4 (by rw [e];rfl)⟩
theorem Z1O {n:Nd} {xs:List (List Nd)} {x:List Nd} (h:x∈xs):x.length < (n::xs.flatten).length:=by
 have:=ZR h
 rw [List.length_cons]
 omega
theorem Zc7:∀ (k:Nat) {d:Nat} {nm:Option (List (List UInt8))} {x:List Nd},x.length < k→VOk d nm x→Fo 1 x
 | 0,d,nm,x,hk,h=>by omega
 | k+1,d,nm,x,hk,h=>by
  obtain ⟨n,xs,rfl,a1,a2,a3,a4,a5,a6,a7⟩:=h.inv
  refine Fo.one (m:=xs.length) a6 (Fo.of fun y hy=>?_)
  obtain ⟨nm',h1,-⟩:=Z0f a7 y hy
  have:=Z1O (n:=n) hy
  exact Zc7 k (by omega) h1
theorem VOk.fo {d:Nat} {nm:Option (List (List UInt8))} {x:List Nd} (h:VOk d nm x):Fo 1 x:=Zc7 (x.length+1) (by omega) h
theorem VOk.open_ {d:Nat} {nm:Option (List (List UInt8))} {x:List Nd} (h:VOk d nm x):x=Z3 x::(kidsOf x 0).flatten∧Zl validD (Z3 x)=true∧validD (Z3 x).key=true∧(nm=none→(Z3 x).key=[])∧hasN nm (Z3 x).key=false∧(ZF (Z3 x)→d≠0)∧(Z3 x).kids=((kidsOf x 0).length:Int)∧ROk (d - 1) (if (Z3 x).kind=7 then some [] else none) (kidsOf x 0):=by
 obtain ⟨n,xs,rfl,a1,a2,a3,a4,a5,a6,a7⟩:=h.inv
 rw [Z0n rfl a6 fun y hy=>(Z0f a7 y hy).choose_spec.1.fo]
 exact ⟨rfl,a1,a2,a3,a4,a5,a6,a7⟩
theorem Z9P {n:Nd} (h:Zl validD n=true) (hr:n.kind=6∨n.kind=7):n.text=[]∧n.whole=false∧n.int=0:=by
 unfold Zl at h
 by_cases hc:n.kind < 1∨7 < n.kind∨n.kids < 0∨(0 < n.kids∧n.kind≠6∧n.kind≠7)
 ·rw [if_pos hc] at h
  cases h
 ·rw [if_neg hc,if_neg (by omega)] at h
  by_cases hw:n.whole=true∨n.int≠0
  ·rw [if_pos hw] at h
   cases h
  ·rw [if_neg hw,if_neg (by omega)] at h
   have h4:=not_or.1 hw
   exact ⟨by simpa using h,by simpa using h4.1,Decidable.not_not.1 h4.2⟩
theorem Z7d {x y:List Nd} (h:x=Z3 x::(kidsOf x 0).flatten) (hy:y∈kidsOf x 0):∀ n∈y,n∈x:=fun n hn=>by
 rw [h]
 exact List.mem_cons_of_mem _ (List.mem_flatten.2 ⟨y,hy,hn⟩)
theorem Z83 {x:List Nd} (h:Fo 1 x):Z3 x∈x:=by
 obtain ⟨-,-,h3,-⟩:=Zj h
 rw [h3]
 exact List.mem_cons_self ..
theorem Z27 {x:List Nd} (h:Fo 1 x) {k:List UInt8} (hk:(Z3 x).key=k):Z6 x k=x:=by
 subst hk
 obtain ⟨-,-,h3,-⟩:=Zj h
 cases x with
 | nil=>cases h3
 | cons n r=>rfl
def Bare (x:List Nd):Prop:=∀ n∈x,n.key≠sdN∧n.key≠ZJ
theorem ZaM {x:List Nd} (hx:Fo 1 x) (h:Bare x):memV x ZJ=none:=by
 unfold memV
 split
 ·rw [List.find?_eq_none]
  intro y hy
  obtain ⟨-,h2,h3,-⟩:=Zj hx
  have:=(h _ (Z7d h3 hy _ (Z83 (h2 y hy)))).2
  simpa using this
 ·rfl
theorem Z0C {x y:List Nd} (hx:Fo 1 x) (h:Bare x) (hy:y∈kidsOf x 0):Bare y:=fun n hn=>h n (Z7d (Zj hx).2.2.1 hy n hn)
theorem Z7L:∀ {xs:List (List Nd)} {d:Nat} {ns:List (List UInt8)} {k:List UInt8},ROk d (some ns) xs→k∈ns→∀ y∈xs,(Z3 y).key≠k
 | [],_,_,_,_,_,y,hy=>by cases hy
 | x::r,d,ns,k,h,hk,y,hy=>by
  obtain ⟨h1,h2⟩:=h.inv
  rcases List.mem_cons.1 hy with rfl|hy
  ·have:=h1.open_.2.2.2.2.1
   intro e
   rw [e] at this
   simp [hasN,hk] at this
  ·exact Z7L h2 (List.mem_cons_of_mem _ hk) y hy
end Sg
/- Rules on texts: a text is the list of its bytes. -/
namespace Sg
open Go Go.RowKit
abbrev sV (l:List UInt8):Value:=.string (ByteArray.mk l.toArray)
theorem ZdH (s:ByteArray):Value.string s=sV s.data.toList:=by
 cases s
 simp [sV]
theorem ZaL (a b:List UInt8):(a==b)=decide (a=b):=by by_cases h:a=b<;>simp [h]
section
variable {c:Ctx} {dr:Bool} {ds:List Deferred} {H:List Res} {e:Env} {ops:Array Oper} {l:List Oper} {κ:List Res→Env→Prop} {dst:Option Tmp} {ty:TypeId} {pos:String} {aft:Array Edge} {g:Option (Nat × Bool)} {q:Mode}
theorem Pu.sop {x y:Operand} {a b:List UInt8} {op:BinOp} {t u:TypeId} {v:Value} (hop:op=.eql∨op=.neq∨op=.lss∨op=.leq∨op=.gtr∨op=.geq∨op=.add) (hx:ev e x=some (sV a)) (hy:ev e y=some (sV b))
  (hv:∀ w,(Op.stringOp op (ByteArray.mk a.toArray) (ByteArray.mk b.toArray)).run c.P w=.ok v w):Pu c H e ⟨dst,.binOp op t x y u,ty,pos,aft,g⟩ v:=fun w ac _ ha=>by
 rcases hop with rfl|rfl|rfl|rfl|rfl|rfl|rfl<;>simp [execOp,ha.ev hx,ha.ev hy,eqGuard,binOp,hv]
theorem T.sop {x y:Operand} {d:Tmp} {a b:List UInt8} {op:BinOp} {t u:TypeId} {v:Value} (hop:op=.eql∨op=.neq∨op=.lss∨op=.leq∨op=.gtr∨op=.geq∨op=.add) (hx:ev e x=some (sV a)) (hy:ev e y=some (sV b))
  (hv:∀ w,(Op.stringOp op (ByteArray.mk a.toArray) (ByteArray.mk b.toArray)).run c.P w=.ok v w) (hlt:Nat.blt d c.fn.ntmps=true) (hk:Sr q c ds H ops l κ ((d,v)::e)):Sr q c ds H ops (⟨some d,.binOp op t x y u,ty,pos,aft,none⟩::l) κ e :=
 Sr.p (Pu.sop hop hx hy hv) rfl hlt rfl hk
theorem T.seql {x y:Operand} {d:Tmp} {a b:List UInt8} {t u:TypeId} (hx:ev e x=some (sV a)) (hy:ev e y=some (sV b)) (hlt:Nat.blt d c.fn.ntmps=true) (hk:Sr q c ds H ops l κ ((d,.bool (decide (a=b)))::e)):Sr q c ds H ops (⟨some d,.binOp .eql t x y u,ty,pos,aft,none⟩::l) κ e :=
 T.sop (by simp) hx hy (fun w=>by
  simp [Op.stringOp,Sem.run_pure]
  rw [ZaL]) hlt hk
theorem T.sneq {x y:Operand} {d:Tmp} {a b:List UInt8} {t u:TypeId} (hx:ev e x=some (sV a)) (hy:ev e y=some (sV b)) (hlt:Nat.blt d c.fn.ntmps=true) (hk:Sr q c ds H ops l κ ((d,.bool (decide (¬a=b)))::e)):Sr q c ds H ops (⟨some d,.binOp .neq t x y u,ty,pos,aft,none⟩::l) κ e :=
 T.sop (by simp) hx hy (fun w=>by
  simp [Op.stringOp,Sem.run_pure]
  rw [ZaL]) hlt hk
theorem T.sadd {x y:Operand} {d:Tmp} {a b:List UInt8} {t u:TypeId} (hx:ev e x=some (sV a)) (hy:ev e y=some (sV b)) (hm:a.length+b.length≤9223372036854775807) (hlt:Nat.blt d c.fn.ntmps=true) (hk:Sr q c ds H ops l κ ((d,sV (a++b))::e)):Sr q c ds H ops (⟨some d,.binOp .add t x y u,ty,pos,aft,none⟩::l) κ e :=
 T.sop (by simp) hx hy (fun w=>by
  have h:¬(((a.length+b.length:Nat):Int) > IntKind.i64.max):=by
   show ¬(((a.length+b.length:Nat):Int) > 9223372036854775807)
   omega
  have h2:ByteArray.mk a.toArray++ByteArray.mk b.toArray=ByteArray.mk (a++b).toArray:=by
   apply ByteArray.ext
   simp
  have h3:(ByteArray.mk a.toArray).size+(ByteArray.mk b.toArray).size=a.length+b.length:=rfl
  simp only [Op.stringOp,h3,if_neg h,h2,Sem.run_pure]) hlt hk
theorem T.slen {x:Operand} {d:Tmp} {a:List UInt8} {t:TypeId} [HU c.P t .string] (hx:ev e x=some (sV a)) (hlt:Nat.blt d c.fn.ntmps=true) (hk:Sr q c ds H ops l κ ((d,.int .i64 (a.length:Int))::e)):Sr q c ds H ops (⟨some d,.call ⟨.builtin .len,#[x],#[t]⟩,ty,pos,aft,none⟩::l) κ e:=T.lenS hx hlt hk
theorem Pu.sidx {x y:Operand} {a:List UInt8} {i:Nat} {kd:IntKind} {t:TypeId} [HU c.P t .string] (hx:ev e x=some (sV a)) (hy:ev e y=some (.int kd (i:Int))) (h:i < a.length):Pu c H e ⟨dst,.index t x y,ty,pos,aft,g⟩ (.int .u8 ((a.getD i 0).toNat:Int)):=fun w ac _ ha=>by
 have hr:=run_index_string (P:=c.P) w t (ByteArray.mk a.toArray) kd (i:Int) (HU.h (P:=c.P) (t:=t))
 have hs:(0:Int)≤(i:Int)∧((i:Nat):Int) < ((ByteArray.mk a.toArray).size:Nat):=⟨by omega,by show (i:Int) < (a.length:Nat);omega⟩
 rw [dif_pos hs] at hr
 have hg : (ByteArray.mk a.toArray)[(i : Int).toNat]'(by show _ < a.length; omega) = a.getD i 0 := by
  show a.toArray[(i : Int).toNat]'_ = _
  simp [List.getD,h]
 rw [hg] at hr
 simp [execOp,ha.ev hx,ha.ev hy,hr]
theorem T.sidx {x y:Operand} {d:Tmp} {a:List UInt8} {i:Nat} {kd:IntKind} {t:TypeId} [HU c.P t .string] (hx:ev e x=some (sV a)) (hy:ev e y=some (.int kd (i:Int))) (h:i < a.length) (hlt:Nat.blt d c.fn.ntmps=true) (hk:Sr q c ds H ops l κ ((d,.int .u8 ((a.getD i 0).toNat:Int))::e)) :
  Sr q c ds H ops (⟨some d,.index t x y,ty,pos,aft,none⟩::l) κ e:=Sr.p (Pu.sidx hx hy h) rfl hlt rfl hk
end
end Sg
/- Maps from texts to numbers that the call owns: a list of entries by rising names. -/
namespace Sg
open Go Go.RowKit Go.ChangeMaps Go.MapKept
open Go.WideElems (Fit rd rg)
open Go.Maps (Keyed)
abbrev D0:=DataW Unit
/- Plain: entries. -/
abbrev Ents:=List (List UInt8 × Int)
def entD (p:List UInt8 × Int):Lit × D0:=(.string p.1,.lit (.int .i64 p.2))
def mapD (m:Ents):D0:=.map (m.map entD)
def eget (m:Ents) (k:List UInt8):Option Int:=(m.find? fun p=>p.1==k).map (·.2)
def edel (m:Ents) (k:List UInt8):Ents:=m.filter fun p=>!(p.1==k)
def eins (x:List UInt8 × Int):Ents→Ents
 | []=>[x]
 | y::r=>if (Lit.string x.1).before (.string y.1) then x::y::r else y::eins x r
def eput (m:Ents) (k:List UInt8) (v:Int):Ents:=eins (k,v) (edel m k)
theorem Zd0 (m:Ents) (k:List UInt8):(mapD m).atKey (.string k) (.lit (.int .i64 0))=.lit (.int .i64 ((eget m k).getD 0)):=by
 unfold mapD DataW.atKey eget
 simp only
 induction m with
 | nil=>rfl
 | cons p m ih =>
  simp only [List.map_cons,List.find?_cons,entD,Lit.sameKey]
  cases p.1==k with
  | true=>rfl
  | false=>exact ih
theorem Z81 (m:Ents) (k:List UInt8) (zd:D0):(mapD m).atKey (.string k) zd=match eget m k with
  | some v=>.lit (.int .i64 v)
  | none=>zd:=by
 unfold mapD DataW.atKey eget
 simp only
 induction m with
 | nil=>rfl
 | cons p m ih =>
  simp only [List.map_cons,List.find?_cons,entD,Lit.sameKey]
  cases p.1==k with
  | true=>rfl
  | false=>exact ih
theorem Zby (m:Ents) (k:List UInt8):Maps.has (mapD m) (.string k)=(eget m k).isSome:=by
 unfold mapD eget
 rw [Maps.has_eq]
 induction m with
 | nil=>rfl
 | cons p m ih =>
  rw [List.map_cons,List.any_cons,ih,List.find?_cons]
  show ((p.1==k) || _)=_
  cases p.1==k<;>rfl
theorem Z41 (m:Ents):Maps.size (mapD m)=m.length:=by
 unfold mapD
 rw [Maps.size_eq,List.length_map]
theorem Zbz (m:Ents) (k:List UInt8):(mapD m).del (.string k)=mapD (edel m k):=by
 unfold mapD DataW.del edel
 simp only [List.filter_map,DataW.map.injEq]
 rfl
theorem Z80 (x:List UInt8 × Int):∀ m:Ents,DataW.insert (entD x) (m.map entD)=(eins x m).map entD
 | []=>rfl
 | y::r=>by
  rw [List.map_cons,DataW.insert,eins]
  show (if (Lit.string x.1).before (.string y.1) then _ else _)=_
  by_cases h:(Lit.string x.1).before (.string y.1)=true
  ·rw [if_pos h,if_pos h];rfl
  ·rw [if_neg h,if_neg h,Z80 x r];rfl
theorem Z7Z (m:Ents) (k:List UInt8) (v:Int):(mapD m).put (.string k) (.lit (.int .i64 v))=mapD (eput m k v):=by
 have h:=Zbz m k
 unfold mapD DataW.del at h
 unfold mapD DataW.put eput
 simp only [DataW.map.injEq] at h ⊢
 rw [h]
 exact Z80 (k,v) (edel m k)
/- The resource. -/
def mapQ (P:Program) (k e:TypeId) (n:Nat) (D:D0) (o:Obj):Prop :=
 ∃ es clock,o=.map es clock∧Fit P k (plainElem (H:=Unit) P e) es clock∧es.size≤n∧D=.map ((es.toList.map (rg P k (plainElem (H:=Unit) P e))).foldr DataW.insert [])
theorem mapQ_iff {P:Program} {w:World} {k e:TypeId} {b n:Nat} {D:D0}:(Res.ex b (mapQ P k e n D)).holds w↔w.ownsMap P k (plainElem P e) b n D :=
 ⟨fun ⟨_,h1,es,clock,h2,h3⟩=>by subst h2;exact ⟨es,clock,h1,h3⟩,fun ⟨es,clock,h1,h3⟩=>⟨_,h1,es,clock,rfl,h3⟩⟩
class InE (H:List Res) (b:Nat) (Q:outParam (Obj→Prop)):Prop where
 h:Res.ex b Q∈H
instance InE.hd {H:List Res} {b:Nat} {Q:Obj→Prop}:InE (.ex b Q::H) b Q:=⟨List.mem_cons_self ..⟩
instance InE.tl {H:List Res} {b:Nat} {Q:Obj→Prop} {r:Res} [h:InE H b Q]:InE (r::H) b Q:=⟨List.mem_cons_of_mem _ h.h⟩
instance Fr.hdE {H:List Res} {b:Nat} {Q:Obj→Prop}:Fr (.ex b Q::H) b (.ex b Q::H):=⟨.refl _⟩
section
variable {c:Ctx} {dr:Bool} {ds:List Deferred} {H:List Res} {e:Env} {ops:Array Oper} {l:List Oper} {κ:List Res→Env→Prop} {dst:Option Tmp} {ty:TypeId} {pos:String} {aft:Array Edge} {g:Option (Nat × Bool)} {q:Mode}
theorem Z5Z {P:Program} {k:TypeId} (hk:P.underlying k=some .string) {kk:List UInt8} (hl:kk.length≤maxLen):keyOf P k (sV kk)=some (.string kk):=WideMaps.keyOf_string_mk hk (s:=ByteArray.mk kk.toArray) hl
theorem Pu.mapLook {x y:Operand} {b n:Nat} {m:Ents} {kk:List UInt8} {t k E:TypeId} [HU c.P t (.map k E)] [HU c.P k .string] [HU c.P E (.int .i64)] {sz by_:Nat} [HI c.P E (.int .i64 0) sz by_] (hx:ev e x=some (.map (some b))) (hy:ev e y=some (sV kk)) (hl:kk.length≤maxLen) (hm:InE H b (mapQ c.P k E n (mapD m))) :
  Pu c H e ⟨dst,.lookup t x y false,ty,pos,aft,g⟩ (.int .i64 ((eget m kk).getD 0)):=fun w a hw ha=>by
 have hown:=mapQ_iff.1 (hw.res _ hm.h)
 obtain ⟨v,hrun,hat,_⟩:=hown.lookup_int (Maps.string_keyed HU.h) (HU.h (P:=c.P) (t:=t)) (HU.h (P:=c.P) (t:=E)) (Z1o w) (Z5Z (P:=c.P) (k:=k) HU.h hl)
 rw [Zd0] at hat
 simp only [DataW.lit.injEq,Lit.int.injEq,true_and] at hat
 subst hat
 simp [execOp,ha.ev hx,ha.ev hy,hrun]
theorem St.turnMap {F:World} {M:List Nat} {w w':World} {H:List Res} {b:Nat} {Q Q':Obj→Prop} (h:St F M w (.ex b Q::H)) (hg:w.grownBy w' (some b)) (hr:(Res.ex b Q').holds w'):St F M w' (.ex b Q'::H) :=
 h.turn hg.os hg.tape hg.output hg.size (fun j hj hn=>hg.block j hj (by simpa [Res.foot] using hn)) hr (fun c hc=>.inl hc) (by simp [Res.foot])
theorem Ef.mapMake {t k E:TypeId} [HU c.P t (.map k E)]:Ef c H e ⟨dst,.makeMap t none,ty,pos,aft,g⟩ fun v H'=>∃ b,v=.map (some b)∧H'=.ex b (mapQ c.P k E 0 (mapD []))::H:=fun w a hw ha=>by
 refine ⟨.map (some w.heap.size),w.alloc (.map #[] 0),_,.inl ?_,?_,w.heap.size,rfl,rfl⟩
 ·simp [execOp,run_makeMap]
 ·exact hw.fresh rfl rfl rfl (by simp) (fun j hj=>Below.heap_alloc _ _ _ hj) (mapQ_iff.2 (World.ownsMap_made w c.P k (plainElem c.P E))) (by simp [Res.foot]) (by simp [Res.foot])
theorem Ef.mapPut {x y u:Operand} {b n:Nat} {m:Ents} {kk:List UInt8} {z:Int} {t k E:TypeId} [HU c.P t (.map k E)] [HU c.P k .string] [HU c.P E (.int .i64)] (hx:ev e x=some (.map (some b))) (hy:ev e y=some (sV kk)) (hu:ev e u=some (.int .i64 z)) (hl:kk.length≤maxLen) (hn:n < maxLen) (hz:(Lit.int .i64 z).wf=true) :
  Ef c (.ex b (mapQ c.P k E n (mapD m))::H) e ⟨dst,.mapUpdate t x y u,ty,pos,aft,g⟩ fun v H'=>v=undef∧H'=.ex b (mapQ c.P k E (n+1) (mapD (eput m kk z)))::H:=fun w a hw ha=>by
 have hown:=mapQ_iff.1 (hw.res _ (List.mem_cons_self ..))
 obtain ⟨w',hrun,hown',hg⟩:=hown.update (Maps.string_keyed HU.h) (HU.h (P:=c.P) (t:=t)) hn (Z5Z (P:=c.P) (k:=k) HU.h hl) (plainElem_int (q:=.i64) (a:=z) (HU.h (P:=c.P) (t:=E)) hz)
 rw [Z7Z] at hown'
 refine ⟨undef,w',_,.inr ⟨?_,rfl⟩,St.turnMap hw hg (mapQ_iff.2 hown'),rfl,rfl⟩
 simp [execOp,ha.ev hx,ha.ev hy,ha.ev hu,hrun]
/- A range over a map. -/
theorem Z8X {P:Program} {w w':World} {b r:Nat} {es:Array MapEntry} {clock since c0:Nat} {seen:Array Nat} {v:Value} (hb:w.heap[b]?=some (.map es clock)) (hr:w.heap[r]?=some (.mapIter (some b) since seen c0))
  (hb':w'.heap[b]?=some (.map es clock)) (hr':w'.heap[r]?=some (.mapIter (some b) since seen c0)) (h:(Instr.entry (.pointer (some ⟨r,0,none⟩))).run P w=.ok v w):(Instr.entry (.pointer (some ⟨r,0,none⟩))).run P w'=.ok v w':=by
 have g1:∀ {u:World},u.heap[r]?=some (.mapIter (some b) since seen c0)→(getObj r).run P u=.ok (.mapIter (some b) since seen c0) u:=fun hu=>by simp [getObj,Sem.run,hu]
 have g2:∀ {u:World},u.heap[b]?=some (.map es clock)→(getObj b).run P u=.ok (.map es clock) u:=fun hu=>run_getObj_map hu
 simp only [Instr.entry,Sem.run_bind,g1 hr,g1 hr',Result.andThen] at h ⊢
 generalize seen.back?=ob at h ⊢
 cases ob with
 | none=>cases h
 | some st =>
  dsimp only at h ⊢
  simp only [Sem.run_bind,g2 hb,g2 hb',Result.andThen] at h ⊢
  by_cases hc:(clock != c0)=true
  ·rw [if_pos hc] at h
   cases h
  ·rw [if_neg hc] at h ⊢
   generalize es.find? (fun x=>x.born==st)=oe at h ⊢
   cases oe with
   | none=>cases h
   | some en =>
    dsimp only at h ⊢
    rw [Sem.run_pure] at h ⊢
    cases h
    rfl
end
end Sg
/- Rules on maps, in the form that walks apply. -/
namespace Sg
open Go Go.RowKit
section
variable {c:Ctx} {dr:Bool} {ds:List Deferred} {H:List Res} {e:Env} {ops:Array Oper} {l:List Oper} {κ:List Res→Env→Prop} {ty:TypeId} {pos:String} {aft:Array Edge} {q:Mode}
theorem T.mapLook {x y:Operand} {d:Tmp} {b n:Nat} {m:Ents} {kk:List UInt8} {t k E:TypeId} [HU c.P t (.map k E)] [HU c.P k .string] [HU c.P E (.int .i64)] {sz by_:Nat} [HI c.P E (.int .i64 0) sz by_] (hx:ev e x=some (.map (some b))) (hy:ev e y=some (sV kk)) (hm:InE H b (mapQ c.P k E n (mapD m))) (hl:kk.length≤maxLen) (hlt:Nat.blt d c.fn.ntmps=true)
  (hk:Sr q c ds H ops l κ ((d,.int .i64 ((eget m kk).getD 0))::e)):Sr q c ds H ops (⟨some d,.lookup t x y false,ty,pos,aft,none⟩::l) κ e:=Sr.p (Pu.mapLook (k:=k) (E:=E) (sz:=sz) (by_:=by_) hx hy hl hm) rfl hlt rfl hk
theorem T.mapMake {d:Tmp} {t k E:TypeId} [HU c.P t (.map k E)] (hlt:Nat.blt d c.fn.ntmps=true) (hk:∀ b,Sr (.eff dr) c ds (.ex b (mapQ c.P k E 0 (mapD []))::H) ops l κ ((d,.map (some b))::e)):Sr (.eff dr) c ds H ops (⟨some d,.makeMap t none,ty,pos,aft,none⟩::l) κ e :=
 Sr.eff (Ef.mapMake (k:=k) (E:=E)) hlt rfl fun v H' ⟨b,hv,hH⟩=>by
  subst hv hH
  exact hk b
theorem T.mapPut {x y u:Operand} {b n:Nat} {m:Ents} {kk:List UInt8} {z:Int} {t k E:TypeId} [HU c.P t (.map k E)] [HU c.P k .string] [HU c.P E (.int .i64)] (hx:ev e x=some (.map (some b))) (hy:ev e y=some (sV kk)) (hu:ev e u=some (.int .i64 z)) (hl:kk.length≤maxLen) (hn:n < maxLen) (hz:(Lit.int .i64 z).wf=true)
  (hk:Sr (.eff dr) c ds (.ex b (mapQ c.P k E (n+1) (mapD (eput m kk z)))::H) ops l κ e):Sr (.eff dr) c ds (.ex b (mapQ c.P k E n (mapD m))::H) ops (⟨none,.mapUpdate t x y u,ty,pos,aft,none⟩::l) κ e :=
 Sr.eff (Ef.mapPut (k:=k) (E:=E) hx hy hu hl hn hz) rfl rfl fun v H' ⟨hv,hH⟩=>by
  subst hv hH
  exact hk
theorem Z8I {P:Program} {k E:TypeId} {n:Nat} {m:Ents} {o:Obj} (h:mapQ P k E n (mapD m) o):mapQ P k E m.length (mapD m) o:=by
 obtain ⟨es,clock,h1,h2,h3,h4⟩:=h
 refine ⟨es,clock,h1,h2,?_,h4⟩
 have h5:=congrArg Maps.size h4
 rw [Z41] at h5
 rw [h5,Maps.size_eq,length_sorted,List.length_map,Array.length_toList]
 exact Nat.le_refl _
theorem St.tight {F:World} {M:List Nat} {w:World} {P:Program} {b n:Nat} {m:Ents} {k E:TypeId} (hw:St F M w (.ex b (mapQ P k E n (mapD m))::H)):St F M w (.ex b (mapQ P k E m.length (mapD m))::H) :=
 hw.weakB (fun _ h=>h) hw.nd fun q hq=>by
  rcases List.mem_cons.1 hq with rfl|hq
  ·obtain ⟨o,h1,h2⟩:=hw.res _ (List.mem_cons_self ..)
   exact ⟨o,h1,Z8I h2⟩
  ·exact hw.res q (List.mem_cons_of_mem _ hq)
theorem Sr.tight {b n:Nat} {m:Ents} {k E:TypeId} (h:Sr (.eff dr) c ds (.ex b (mapQ c.P k E m.length (mapD m))::H) ops l κ e):Sr (.eff dr) c ds (.ex b (mapQ c.P k E n (mapD m))::H) ops l κ e:=h.weaken fun _ hw=>hw.tight
theorem T.mapPutT {x y u:Operand} {b n:Nat} {m:Ents} {kk:List UInt8} {z:Int} {t k E:TypeId} [HU c.P t (.map k E)] [HU c.P k .string] [HU c.P E (.int .i64)] (hx:ev e x=some (.map (some b))) (hy:ev e y=some (sV kk)) (hu:ev e u=some (.int .i64 z)) (hl:kk.length≤maxLen) (hn:n < maxLen) (hz:(Lit.int .i64 z).wf=true)
  (hk:Sr (.eff dr) c ds (.ex b (mapQ c.P k E (eput m kk z).length (mapD (eput m kk z)))::H) ops l κ e):Sr (.eff dr) c ds (.ex b (mapQ c.P k E n (mapD m))::H) ops (⟨none,.mapUpdate t x y u,ty,pos,aft,none⟩::l) κ e :=
 T.mapPut (k:=k) (E:=E) hx hy hu hl hn hz hk.tight
end
end Sg
/- More rules on texts and maps: texts as elements, texts behind bytes, texts of bytes; the names of a map rise. -/
namespace Sg
open Go Go.RowKit Go.ChangeMaps Go.MapKept
section
variable {c:Ctx} {dr:Bool} {ds:List Deferred} {H:List Res} {e:Env} {ops:Array Oper} {l:List Oper} {κ:List Res→Env→Prop} {dst:Option Tmp} {ty:TypeId} {pos:String} {aft:Array Edge} {g:Option (Nat × Bool)} {q:Mode}
theorem getS {xs:List (List UInt8)} {j:Nat} (h:j < xs.length):(xs.map sV)[j]?=some (sV (xs.getD j [])):=by
 simp [List.getD,h]
theorem T.loadS {x:Operand} {d:Tmp} {ad:Option Addr} {j:Nat} {t:TypeId} [HU c.P t .string] {xs:List (List UInt8)} (hx:ev e x=some (.pointer (eaddr ad j))) (hr:Rd c.F c.M H ad (xs.map sV)) (hj:j < xs.length) (hlt:Nat.blt d c.fn.ntmps=true)
  (hk:Sr q c ds H ops l κ ((d,sV (xs.getD j []))::e)):Sr q c ds H ops (⟨some d,.load t x,ty,pos,aft,none⟩::l) κ e:=Sr.p (Pu.loadE (d:=.string) hx rfl (getS hj)) rfl hlt rfl hk
/- A text behind bytes. -/
theorem Z5I {P:Program} (w:World) (t u ty e:TypeId) (i:TypeInfo) (ht:P.underlying t=some (.slice e)) (hu:P.underlying u=some .string) (hi:P.info? e=some i) (hz:i.zero=some (.int .u8 0))
  (hsize:i.size=1) (hby:i.bytes=1) (v:Value) (n:Nat) (xs:List Value) (hown:w.ownsRow 0 e 1 v n xs) (s:ByteArray) (h63:n+s.size≤maxLen) (hbytes:n+s.size≤140737488355328) {v':Value} {w':World}
  (hrun:(Builtin.append_ #[t,u] ty #[v,.string s]).run P w=.ok v' w'):v'.ownBlock=v.ownBlock∨v'.ownBlock=some w.heap.size:=by
 have hsmall:n+s.size≤9223372036854775807:=by simp only [maxLen] at h63;omega
 have hxl:xs.length=n:=by simpa using hown.1
 rcases hown.2 with ⟨rfl,rfl⟩|⟨g,cap,cur,rfl,hbg,hg,hnc,hcm,hcs,htake⟩
 ·by_cases hm:s.size=0
  ·have hf:=Lib.run_firstCells_string (P:=P) w 1 s
   rw [hm] at hf
   have hr:(Builtin.append_ #[t,u] ty #[.slice none 0 0,.string s]).run P w=.ok (.slice none 0 0) w:=by
    simp [Builtin.append_,run_underlying ht,run_underlying hu,Go.sizeOf,typeInfo,hi,hsize,Builtin.lenOf,hm,hf]
   rw [hr] at hrun
   simp only [Result.ok.injEq] at hrun
   left
   rw [←hrun.1]
  ·have hr:=run_append_nil_string (P:=P) w t u ty e i (.int .u8 0) ht hu hi hz s (by omega) (by omega) (by rw [hby];omega)
   rw [hr] at hrun
   simp only [Result.ok.injEq] at hrun
   right
   rw [←hrun.1]
   rfl
 ·by_cases hroom:n+s.size≤cap
  ·have hcs':cur.size=cap:=by simpa using hcs
   have hr:=Lib.run_append_room_string (P:=P) w t u ty e i ht hu hi hsize g n cap cur hg s hroom (by omega)
   rw [hr] at hrun
   simp only [Result.ok.injEq] at hrun
   left
   rw [←hrun.1]
   rfl
  ·have holds:∀ j u,xs[j]?=some u→w.cell? ((⟨g,0,none⟩:Addr).add j)=some u:=hown.cells (g:=g) rfl
   have hr:=Lib.run_append_grow_string (P:=P) w t u ty e i (.int .u8 0) ht hu hi hz ⟨g,0,none⟩ n cap xs (by rw [hsize];simpa using hxl) holds s (by omega) (by omega) (by rw [hby];exact growslice_fits (by omega) (by omega))
   rw [hr] at hrun
   simp only [Result.ok.injEq] at hrun
   right
   rw [←hrun.1]
   rfl
theorem Z6M (s:List UInt8):Lib.strCells (ByteArray.mk s.toArray)=s.map bV:=by simp [Lib.strCells]
theorem T.appendS {d:Tmp} {x y:Operand} {ad:Option Addr} {n cp t u E:Nat} [HU c.P t (.slice E)] [HU c.P u .string] [HI c.P E (.int .u8 0) 1 1] {xs s:List UInt8} {f:Res→List Res} (hx:ev e x=some (.slice ad n cp)) (hy:ev e y=some (sV s))
  (hr:AtR H ad cp E 1 n (xs.map bV) f) (hroom:n+s.length≤140737488355328) (hlt:Nat.blt d c.fn.ntmps=true)
  (hk:∀ ad' cp',Sr (.eff dr) c ds (f (.row ad' cp' E 1 (n+s.length) ((xs++s).map bV))) ops l κ ((d,.slice ad' (n+s.length:Nat) cp')::e)) :
  Sr (.eff dr) c ds H ops (⟨some d,.call ⟨.builtin .append,#[x,y],#[t,u]⟩,ty,pos,aft,none⟩::l) κ e :=
 Sr.eff (K:=fun v H'=>∃ ad' cp',v=.slice ad' (n+s.length) cp'∧H'=f (.row ad' cp' E 1 (n+s.length) ((xs++s).map bV))) (fun w a hw ha=>by
  obtain ⟨rest,h1,h2⟩:=hr.h
  have hw1:=hw.perm h1
  obtain ⟨i,hi1,hi2,hi3,hi4⟩:=HI.h (P:=c.P) (t:=E) (z:=.int .u8 0) (sz:=1) (by_:=1)
  have hrow:w.ownsRow 0 E 1 (.slice ad n cp) n (xs.map bV):=hw1.res _ (List.mem_cons_self ..)
  have hsz:(ByteArray.mk s.toArray).size=s.length:=rfl
  have hmax:n+(ByteArray.mk s.toArray).size≤maxLen:=by rw [hsz];unfold maxLen;omega
  obtain ⟨v',w',hrun,hown,hg,-⟩:=Lib.run_append_own_string (P:=c.P) w 0 t u ty E i (HU.h (P:=c.P) (t:=t)) (HU.h (P:=c.P) (t:=u)) hi1 hi2 hi3 hi4 _ n _ hrow (ByteArray.mk s.toArray) hmax (by rw [hsz];exact hroom) (Nat.zero_le _)
  have hwhere:=Z5I (P:=c.P) w t u ty E i (HU.h (P:=c.P) (t:=t)) (HU.h (P:=c.P) (t:=u)) hi1 hi2 hi3 hi4 _ n _ hrow (ByteArray.mk s.toArray) hmax (by rw [hsz];exact hroom) hrun
  rw [Z6M,←List.map_append,hsz] at hown
  obtain ⟨ad',cp',hv'⟩:∃ ad' cp',v'=.slice ad' (n+s.length) cp':=by
   rcases hown.2 with ⟨hv,h0⟩|⟨g,cap,cur,hv,_⟩
   ·exact ⟨none,0,by rw [hv,h0]⟩
   ·exact ⟨_,_,hv⟩
  subst hv'
  refine ⟨_,w',_,.inl (by simp [execOp,ha.ev hx,ha.ev hy,resolve,invoke,builtin,hrun]),(hw1.turn (r':=.row ad' cp' E 1 (n+s.length) ((xs++s).map bV)) hg.os hg.tape hg.output hg.size (fun j hj hjr=>hg.block j hj fun hjo=>hjr ?_) hown (fun q hq=>?_) (by cases ad'<;>simp [Res.foot])).perm (h2 _),ad',cp',rfl,rfl⟩
  ·cases ad with
   | none=>simp [Value.ownBlock] at hjo
   | some q=>simp only [Value.ownBlock,Option.some.injEq] at hjo;simp [Res.foot,hjo]
  ·cases ad' with
   | none=>simp [Res.foot] at hq
   | some p =>
    simp only [Res.foot,List.mem_singleton] at hq
    subst hq
    rcases hwhere with hwh|hwh
    ·left
     cases ad with
     | none=>simp [Value.ownBlock] at hwh
     | some q=>simp only [Value.ownBlock,Option.some.injEq] at hwh;simp [Res.foot,hwh]
    ·right
     simp only [Value.ownBlock,Option.some.injEq] at hwh
     omega) hlt rfl (fun v H' ⟨ad',cp',hv,hH⟩=>by subst hv hH;exact hk ad' cp')
/- A text of bytes. -/
theorem Z4P:∀ (xs acc:List UInt8),((xs.map fun b=>(b.toNat:Int)).foldl (fun r n=>r.push (UInt8.ofNat n.toNat)) (ByteArray.mk acc.toArray))=ByteArray.mk (acc++xs).toArray
 | [],acc=>by simp
 | x::xs,acc=>by
  rw [List.map_cons,List.foldl_cons]
  have:(ByteArray.mk acc.toArray).push (UInt8.ofNat (x.toNat:Int).toNat)=ByteArray.mk (acc++[x]).toArray:=by
   apply ByteArray.ext
   simp [ByteArray.push]
  rw [this,Z4P xs (acc++[x]),List.append_assoc]
  rfl
theorem T.convS {x:Operand} {d:Tmp} {ad:Option Addr} {n cp:Nat} {xs:List UInt8} {t t' E:TypeId} [HU c.P t (.slice E)] [HU c.P E (.int .u8)] [HU c.P t' .string] (hx:ev e x=some (.slice ad n cp)) (hr:Rd c.F c.M H ad (xs.map bV)) (hn:xs.length=n) (hlt:Nat.blt d c.fn.ntmps=true)
  (hk:Sr q c ds H ops l κ ((d,sV xs)::e)):Sr q c ds H ops (⟨some d,.convert t t' x,ty,pos,aft,none⟩::l) κ e :=
 Sr.p (fun w a hw ha=>by
  have hcv:=run_convert_bytes_string (P:=c.P) w t t' E ad n cp (HU.h (P:=c.P) (t:=t)) (HU.h (P:=c.P) (t:=E)) (HU.h (P:=c.P) (t:=t'))
  have hb:(Conv.bytesToString (.slice ad n cp)).run c.P w=.ok (sV xs) w:=by
   cases ad with
   | none =>
    cases xs with
    | nil=>rfl
    | cons b xs =>
     obtain ⟨q,h,-⟩:=hr.h w hw 0 _ (by rfl)
     cases h
   | some q =>
    have hl:=run_loadCells_list (P:=c.P) (w:=w) q (xs.map bV) (fun j v hj=>by
     obtain ⟨q',h,h'⟩:=hr.h w hw j v hj
     simp only [Option.some.injEq] at h
     subst h
     exact h')
    rw [List.length_map,hn] at hl
    have hm:xs.map bV=(xs.map fun b=>(b.toNat:Int)).map (Value.int .u8):=by rw [List.map_map];rfl
    rw [hm] at hl
    rw [run_bytesToString w q n cp _ hl]
    have:=Z4P xs []
    rw [List.nil_append] at this
    exact congrArg (fun b=>Result.ok (Value.string b) w) this
  rw [hb] at hcv
  simp [execOp,ha.ev hx,hcv]) rfl hlt rfl hk
/- Pointers beside nil; truth values compared. -/
theorem Z4M {P:Program} {t E:TypeId} {a:Addr} [HU P t (.pointer E)] (w:World) (d:Nat):(Op.equalIn (d+1) t (.pointer (some a)) (.pointer none)).run P w=.ok false w:=by
 simp [Op.equalIn,Z9 (d:=.pointer E)]
theorem Z3N {P:Program} {t E:TypeId} [HU P t (.pointer E)] (w:World) (d:Nat):(Op.equalIn (d+1) t (.pointer none) (.pointer none)).run P w=.ok true w:=by
 simp [Op.equalIn,Z9 (d:=.pointer E)]
theorem T.eqlP {x:Operand} {d:Tmp} {t u E:TypeId} {a:Addr} [HU c.P t (.pointer E)] (hx:ev e x=some (.pointer (some a))) (hlt:Nat.blt d c.fn.ntmps=true) (hk:Sr q c ds H ops l κ ((d,.bool false)::e)):Sr q c ds H ops (⟨some d,.binOp .eql t x (.const (.pointer none)) u,ty,pos,aft,none⟩::l) κ e :=
 Sr.p (fun w ac _ ha=>by
  have h:=Z4M (P:=c.P) (t:=t) (E:=E) (a:=a) w 9999
  have h2:ac.eval (.const (.pointer none))=.pointer none:=rfl
  simp only [execOp,ha.ev hx,h2,eqGuard,binOp,Op.equal,Op.maxDepth]
  simp [h]) rfl hlt rfl hk
theorem T.eqlP0 {x:Operand} {d:Tmp} {t u E:TypeId} [HU c.P t (.pointer E)] (hx:ev e x=some (.pointer none)) (hlt:Nat.blt d c.fn.ntmps=true) (hk:Sr q c ds H ops l κ ((d,.bool true)::e)):Sr q c ds H ops (⟨some d,.binOp .eql t x (.const (.pointer none)) u,ty,pos,aft,none⟩::l) κ e :=
 Sr.p (fun w ac _ ha=>by
  have h:=Z3N (P:=c.P) (t:=t) (E:=E) w 9999
  have h2:ac.eval (.const (.pointer none))=.pointer none:=rfl
  simp only [execOp,ha.ev hx,h2,eqGuard,binOp,Op.equal,Op.maxDepth]
  simp [h]) rfl hlt rfl hk
theorem T.neqP {x:Operand} {d:Tmp} {t u E:TypeId} {a:Addr} [HU c.P t (.pointer E)] (hx:ev e x=some (.pointer (some a))) (hlt:Nat.blt d c.fn.ntmps=true) (hk:Sr q c ds H ops l κ ((d,.bool true)::e)):Sr q c ds H ops (⟨some d,.binOp .neq t x (.const (.pointer none)) u,ty,pos,aft,none⟩::l) κ e :=
 Sr.p (fun w ac _ ha=>by
  have h:=Z4M (P:=c.P) (t:=t) (E:=E) (a:=a) w 9999
  have h2:ac.eval (.const (.pointer none))=.pointer none:=rfl
  simp only [execOp,ha.ev hx,h2,eqGuard,binOp,Op.equal,Op.maxDepth]
  simp [h]) rfl hlt rfl hk
theorem T.neqP0 {x:Operand} {d:Tmp} {t u E:TypeId} [HU c.P t (.pointer E)] (hx:ev e x=some (.pointer none)) (hlt:Nat.blt d c.fn.ntmps=true) (hk:Sr q c ds H ops l κ ((d,.bool false)::e)):Sr q c ds H ops (⟨some d,.binOp .neq t x (.const (.pointer none)) u,ty,pos,aft,none⟩::l) κ e :=
 Sr.p (fun w ac _ ha=>by
  have h:=Z3N (P:=c.P) (t:=t) (E:=E) w 9999
  have h2:ac.eval (.const (.pointer none))=.pointer none:=rfl
  simp only [execOp,ha.ev hx,h2,eqGuard,binOp,Op.equal,Op.maxDepth]
  simp [h]) rfl hlt rfl hk
theorem T.eqlB {x y:Operand} {d:Tmp} {m n:Bool} {t u:TypeId} [HU c.P t .bool] (hx:ev e x=some (.bool m)) (hy:ev e y=some (.bool n)) (hlt:Nat.blt d c.fn.ntmps=true) (hk:Sr q c ds H ops l κ ((d,.bool (m==n))::e)):Sr q c ds H ops (⟨some d,.binOp .eql t x y u,ty,pos,aft,none⟩::l) κ e:=Sr.p (Pu.eqlB hx hy) rfl hlt rfl hk
end
/- Rising names. -/
end Sg
/- Entries put into a map: what it says then, in plain Lean. -/
namespace Sg
theorem Z6y (x:List UInt8 × Int) (n:List UInt8):∀ m:Ents,(∀ p∈m,p.1≠x.1)→eget (eins x m) n=if x.1=n then some x.2 else eget m n
 | [],_=>by
  unfold eins eget
  by_cases h:x.1=n<;>simp [h]
 | q::r,hm=>by
  have hq:q.1≠x.1:=hm q (List.mem_cons_self ..)
  have ih:=Z6y x n r (fun p hp=>hm p (List.mem_cons_of_mem _ hp))
  unfold eins
  split
  ·unfold eget
   by_cases h:x.1=n
   ·simp [h]
   ·simp [h]
  ·by_cases h2:q.1=n
   ·have h3:¬x.1=n:=fun e=>hq (h2.trans e.symm)
    rw [if_neg h3]
    unfold eget
    simp [h2]
   ·have e1:∀ l:Ents,eget (q::l) n=eget l n:=fun l=>by
     unfold eget
     simp [h2]
    rw [e1,e1,ih]
theorem ZaC (k n:List UInt8) (m:Ents) (h:k≠n):eget (edel m k) n=eget m n:=by
 unfold eget edel
 induction m with
 | nil=>rfl
 | cons q r ih =>
  by_cases hq:q.1=k
  ·have:¬q.1=n:=fun e=>h (hq.symm.trans e)
   rw [List.filter_cons_of_neg (by simp [hq]),ih]
   simp [this]
  ·rw [List.filter_cons_of_pos (by simp [hq])]
   by_cases h2:q.1=n
   ·simp [h2]
   ·rw [List.find?_cons_of_neg (by simp [h2]),List.find?_cons_of_neg (by simp [h2]),ih]
theorem Z1u (m:Ents) (k n:List UInt8) (v:Int):eget (eput m k v) n=if k=n then some v else eget m n:=by
 unfold eput
 rw [Z6y (k,v) n (edel m k) (fun p hp=>by
  unfold edel at hp
  rw [List.mem_filter] at hp
  simpa using hp.2)]
 by_cases h:k=n
 ·rw [if_pos h,if_pos h]
 ·rw [if_neg h,if_neg h]
  exact ZaC k n m h
theorem Z4m (x:List UInt8 × Int):∀ m:Ents,(eins x m).length=m.length+1
 | []=>rfl
 | q::r=>by
  unfold eins
  split
  ·rfl
  ·rw [List.length_cons,Z4m x r]
   rfl
theorem Z0O (m:Ents) (k:List UInt8) (v:Int):(eput m k v).length≤m.length+1:=by
 unfold eput
 rw [Z4m]
 have:(edel m k).length≤m.length:=List.length_filter_le _ _
 omega
end Sg
/- Maps from texts to pointers that the call owns: a list of entries by rising names; a pointer is its block's number, nil is - 1. -/
namespace Sg
open Go Go.RowKit Go.ChangeMaps Go.MapKept
open Go.WideElems (Fit rd rg)
open Go.Maps (Keyed)
def ptrE (v:Value):Option (D0 × List MemPlace):=match v with
 | .pointer (some ⟨b,0,none⟩)=>some (.lit (.int .i64 b),[])
 | .pointer none=>some (.lit (.int .i64 (-1)),[])
 | _=>none
def pV (z:Int):Value:=if z < 0 then .pointer none else .pointer (some ⟨z.toNat,0,none⟩)
theorem Z4V (b:Nat):pV (b:Int)=.pointer (some ⟨b,0,none⟩):=by
 unfold pV
 rw [if_neg (by omega)]
 rfl
theorem ZcS (b:Nat):ptrE (.pointer (some ⟨b,0,none⟩))=some (.lit (.int .i64 b),[]):=rfl
theorem Z7Q {v:Value} {z:D0 × List MemPlace} (h:ptrE v=some z):∃ n:Int,v=pV n∧z=(.lit (.int .i64 n),[]):=by
 unfold ptrE at h
 split at h
 ·cases h
  exact ⟨_,(Z4V _).symm,rfl⟩
 ·cases h
  exact ⟨-1,rfl,rfl⟩
 ·cases h
def ptrQ (P:Program) (k:TypeId) (n:Nat) (D:D0) (o:Obj):Prop :=
 ∃ es clock,o=.map es clock∧Fit P k ptrE es clock∧es.size≤n∧D=.map ((es.toList.map (rg P k ptrE)).foldr DataW.insert [])
theorem ptrQ_iff {P:Program} {w:World} {k:TypeId} {b n:Nat} {D:D0}:(Res.ex b (ptrQ P k n D)).holds w↔w.ownsMap P k ptrE b n D :=
 ⟨fun ⟨_,h1,es,clock,h2,h3⟩=>by subst h2;exact ⟨es,clock,h1,h3⟩,fun ⟨es,clock,h1,h3⟩=>⟨_,h1,es,clock,rfl,h3⟩⟩
def Z3n (P:Program) (k:TypeId) (b n:Nat) (D:D0) (left:Lit→Bool) (cnt:Nat) (o o':Obj):Prop :=
 ∃ es clock since seen c0,o=.map es clock∧Fit P k ptrE es clock∧es.size≤n∧D=.map ((es.toList.map (rg P k ptrE)).foldr DataW.insert []) ∧
  o'=.mapIter (some b) since seen c0∧(∀ x∈es.toList,x.born < since)∧(leftOf es seen).size=cnt ∧
  (∀ x∈es.toList,left (rg P k ptrE x).1=!seen.contains x.born)∧(∀ kl,left kl=true→∃ x∈es.toList,(rg P k ptrE x).1=kl)∧since≤c0∧since≤clock
theorem ptrRQ_iff {P:Program} {w:World} {k:TypeId} {b r n:Nat} {D:D0} {left:Lit→Bool} {cnt:Nat}:(Res.ex2 b r (Z3n P k b n D left cnt)).holds w↔w.ranges P k ptrE b r n D left cnt :=
 ⟨fun ⟨_,_,h1,h2,es,clock,since,seen,c0,e1,f1,f2,f3,e2,f4⟩=>by subst e1 e2;exact ⟨es,clock,since,seen,c0,h1,f1,f2,f3,h2,f4⟩,
 fun ⟨es,clock,since,seen,c0,h1,f1,f2,f3,h2,f4⟩=>⟨_,_,h1,h2,es,clock,since,seen,c0,rfl,f1,f2,f3,rfl,f4⟩⟩
section
variable {c:Ctx} {dr:Bool} {ds:List Deferred} {H:List Res} {e:Env} {ops:Array Oper} {l:List Oper} {κ:List Res→Env→Prop} {ty:TypeId} {pos:String} {aft:Array Edge} {q:Mode}
theorem T.ptrLook {x y:Operand} {d:Tmp} {b n:Nat} {m:Ents} {kk:List UInt8} {t k E:TypeId} [HU c.P t (.map k E)] [HU c.P k .string] {sz by_:Nat} [HI c.P E (.pointer none) sz by_] (hx:ev e x=some (.map (some b))) (hy:ev e y=some (sV kk)) (hm:InE H b (ptrQ c.P k n (mapD m))) (hl:kk.length≤maxLen) (hlt:Nat.blt d c.fn.ntmps=true)
  (hk:Sr q c ds H ops l κ ((d,pV ((eget m kk).getD (-1)))::e)):Sr q c ds H ops (⟨some d,.lookup t x y false,ty,pos,aft,none⟩::l) κ e :=
 Sr.p (fun w a hw ha=>by
  have hown:=ptrQ_iff.1 (hw.res _ hm.h)
  obtain ⟨v,ps,hrun,hv⟩:=hown.lookup (Maps.string_keyed HU.h) (HU.h (P:=c.P) (t:=t)) (Z1o (t:=E) w) (zd:=.lit (.int .i64 (-1))) (zp:=[]) rfl (Z5Z (P:=c.P) (k:=k) HU.h hl)
  obtain ⟨z,rfl,hz⟩:=Z7Q hv
  rw [Z81] at hz
  have h2:z=(eget m kk).getD (-1):=by
   cases hg:eget m kk with
   | none=>rw [hg] at hz;simp only [Prod.mk.injEq,DataW.lit.injEq,Lit.int.injEq,true_and] at hz;exact hz.1.symm
   | some u=>rw [hg] at hz;simp only [Prod.mk.injEq,DataW.lit.injEq,Lit.int.injEq,true_and] at hz;exact hz.1.symm
  rw [←h2]
  simp [execOp,ha.ev hx,ha.ev hy,hrun]) rfl hlt rfl hk
theorem T.ptrMake {d:Tmp} {t k E:TypeId} [HU c.P t (.map k E)] (hlt:Nat.blt d c.fn.ntmps=true) (hk:∀ b,Sr (.eff dr) c ds (.ex b (ptrQ c.P k 0 (mapD []))::H) ops l κ ((d,.map (some b))::e)):Sr (.eff dr) c ds H ops (⟨some d,.makeMap t none,ty,pos,aft,none⟩::l) κ e :=
 Sr.eff (K:=fun v H'=>∃ b,v=.map (some b)∧H'=.ex b (ptrQ c.P k 0 (mapD []))::H) (fun w a hw ha=>by
  refine ⟨.map (some w.heap.size),w.alloc (.map #[] 0),_,.inl ?_,?_,w.heap.size,rfl,rfl⟩
  ·simp [execOp,run_makeMap]
  ·exact hw.fresh rfl rfl rfl (by simp) (fun j hj=>Below.heap_alloc _ _ _ hj) (ptrQ_iff.2 (World.ownsMap_made w c.P k ptrE)) (by simp [Res.foot]) (by simp [Res.foot])) hlt rfl fun v H' ⟨b,hv,hH⟩=>by
  subst hv hH
  exact hk b
theorem Z8z {P:Program} {k:TypeId} {n:Nat} {m:Ents} {o:Obj} (h:ptrQ P k n (mapD m) o):ptrQ P k m.length (mapD m) o:=by
 obtain ⟨es,clock,h1,h2,h3,h4⟩:=h
 refine ⟨es,clock,h1,h2,?_,h4⟩
 have h5:Maps.size (mapD m)=es.size:=by
  rw [h4]
  simp [Maps.size,length_sorted]
 rw [Z41] at h5
 omega
theorem T.ptrPut {x y u:Operand} {b n p:Nat} {m:Ents} {kk:List UInt8} {t k E:TypeId} [HU c.P t (.map k E)] [HU c.P k .string] (hx:ev e x=some (.map (some b))) (hy:ev e y=some (sV kk)) (hu:ev e u=some (.pointer (some ⟨p,0,none⟩))) (hl:kk.length≤maxLen) (hn:n < maxLen)
  (hk:Sr (.eff dr) c ds (.ex b (ptrQ c.P k (eput m kk p).length (mapD (eput m kk p)))::H) ops l κ e):Sr (.eff dr) c ds (.ex b (ptrQ c.P k n (mapD m))::H) ops (⟨none,.mapUpdate t x y u,ty,pos,aft,none⟩::l) κ e :=
 Sr.eff (K:=fun v H'=>v=undef∧H'=.ex b (ptrQ c.P k (eput m kk p).length (mapD (eput m kk p)))::H) (fun w a hw ha=>by
  have hown:=ptrQ_iff.1 (hw.res _ (List.mem_cons_self ..))
  obtain ⟨w',hrun,hown',hg⟩:=hown.update (Maps.string_keyed HU.h) (HU.h (P:=c.P) (t:=t)) hn (Z5Z (P:=c.P) (k:=k) HU.h hl) (ZcS p)
  rw [Z7Z] at hown'
  obtain ⟨o,ho,hq⟩:=ptrQ_iff.2 hown'
  refine ⟨undef,w',_,.inr ⟨?_,rfl⟩,St.turnMap hw hg ⟨o,ho,Z8z hq⟩,rfl,rfl⟩
  simp [execOp,ha.ev hx,ha.ev hy,ha.ev hu,hrun]) rfl rfl fun v H' ⟨hv,hH⟩=>by
  subst hv hH
  exact hk
theorem T.ptrRange {x:Operand} {d:Tmp} {b n:Nat} {m:Ents} {t k E:TypeId} [HU c.P t (.map k E)] [HU c.P k .string] (hx:ev e x=some (.map (some b))) (hlt:Nat.blt d c.fn.ntmps=true)
  (hk:∀ r,Sr (.eff dr) c ds (.ex2 b r (Z3n c.P k b n (mapD m) (Maps.has (mapD m)) m.length)::H) ops l κ ((d,.pointer (some ⟨r,0,none⟩))::e)):Sr (.eff dr) c ds (.ex b (ptrQ c.P k n (mapD m))::H) ops (⟨some d,.range t x,ty,pos,aft,none⟩::l) κ e :=
 Sr.eff (K:=fun v H'=>∃ r,v=.pointer (some ⟨r,0,none⟩)∧H'=.ex2 b r (Z3n c.P k b n (mapD m) (Maps.has (mapD m)) m.length)::H) (fun w a hw ha=>by
  have hown:=ptrQ_iff.1 (hw.res _ (List.mem_cons_self ..))
  obtain ⟨w',hrun,hr,hg,hsz⟩:=hown.range (Maps.string_keyed HU.h) (HU.h (P:=c.P) (t:=t))
  rw [Z41] at hr
  refine ⟨_,w',_,.inl ?_,?_,w.heap.size,rfl,rfl⟩
  ·simp [execOp,ha.ev hx,hrun]
  ·have hne:=hr.ne
   refine hw.turn hg.os hg.tape hg.output hg.size (fun j hj _=>hg.block j hj (by simp)) (ptrRQ_iff.2 hr) (fun q hq=>?_) ?_
   ·simp only [Res.foot,List.mem_cons,List.not_mem_nil,or_false] at hq
    rcases hq with rfl|rfl
    ·exact .inl (by simp [Res.foot])
    ·exact .inr (Nat.le_refl _)
   ·simp only [Res.foot,List.nodup_cons,List.mem_cons,List.not_mem_nil,or_false,not_false_eq_true,List.nodup_nil,and_true]
    exact fun h=>hne h.symm) hlt rfl fun v H' ⟨r,hv,hH⟩=>by
  subst hv hH
  exact hk r
def Z6Z (P:Program) (k:TypeId) (b r n:Nat) (D:D0) (left:Lit→Bool) (cnt:Nat) (kk:List UInt8) (z:Int) (o o':Obj):Prop :=
 Z3n P k b n D left cnt o o'∧∀ w:World,w.heap[b]?=some o→w.heap[r]?=some o'→(Instr.entry (.pointer (some ⟨r,0,none⟩))).run P w=.ok (.tuple ⟨[sV kk,pV z]⟩) w
theorem T.ptrNext {x:Operand} {d:Tmp} {b r n:Nat} {m:Ents} {left:Lit→Bool} {cnt:Nat} {k:TypeId} [HU c.P k .string] (hx:ev e x=some (.pointer (some ⟨r,0,none⟩))) (hlt:Nat.blt d c.fn.ntmps=true)
  (h0:(∀ kl,left kl=false)→Sr (.eff dr) c ds (.ex2 b r (Z3n c.P k b n (mapD m) left cnt)::H) ops l κ ((d,.tuple #[.bool false])::e))
  (h1:∀ kk z cnt',left (.string kk)=true→eget m kk=some z→cnt' < cnt→Sr (.eff dr) c ds (.ex2 b r (Z6Z c.P k b r n (mapD m) (fun l=>left l&&!l.sameKey (.string kk)) cnt' kk z)::H) ops l κ ((d,.tuple #[.bool true,sV kk,pV z])::e)) :
  Sr (.eff dr) c ds (.ex2 b r (Z3n c.P k b n (mapD m) left cnt)::H) ops (⟨some d,.next x false,ty,pos,aft,none⟩::l) κ e :=
 Sr.eff (K:=fun v H'=>(v=.tuple #[.bool false]∧(∀ kl,left kl=false)∧H'=.ex2 b r (Z3n c.P k b n (mapD m) left cnt)::H) ∨
   ∃ kk z cnt',v=.tuple #[.bool true,sV kk,pV z]∧left (.string kk)=true∧eget m kk=some z∧cnt' < cnt∧H'=.ex2 b r (Z6Z c.P k b r n (mapD m) (fun l=>left l&&!l.sameKey (.string kk)) cnt' kk z)::H) (fun w a hw ha=>by
  have hrng:=ptrRQ_iff.1 (hw.res _ (List.mem_cons_self ..))
  rcases hrng.next (Maps.string_keyed HU.h) ty with ⟨_,hl,hrun⟩|⟨key,v,kl,y,w',cnt',hkey,hleft,hv,hat,hrun,hr',hc,hg,hsz,hent⟩
  ·exact ⟨_,w,_,.inl (by simp [execOp,ha.ev hx,hrun]),hw,.inl ⟨rfl,hl,rfl⟩⟩
  ·obtain ⟨s,rfl,rfl,hsl⟩:=WideMaps.string_of_keyOf (HU.h (P:=c.P) (t:=k)) hkey
   obtain ⟨z,rfl,rfl⟩:=Z7Q hv
   have hget:eget m s.data.toList=some z:=by
    have h:=hat .nil
    rw [Z81] at h
    cases hm:eget m s.data.toList with
    | none=>rw [hm] at h;cases h
    | some z'=>rw [hm] at h;simp only [DataW.lit.injEq,Lit.int.injEq,true_and] at h;rw [h]
   rw [ZdH s] at hrun hent
   refine ⟨_,w',_,.inl (by simp [execOp,ha.ev hx,hrun]),?_,.inr ⟨s.data.toList,z,cnt',rfl,hleft,hget,hc,rfl⟩⟩
   have hcur:(Res.ex2 b r (Z6Z c.P k b r n (mapD m) (fun l=>left l&&!l.sameKey (.string s.data.toList)) cnt' s.data.toList z)).holds w':=by
    obtain ⟨o,o',h1,h2,h3⟩:=ptrRQ_iff.2 hr'
    refine ⟨o,o',h1,h2,h3,fun u hu1 hu2=>?_⟩
    obtain ⟨es,clock,since,seen,c0,rfl,_,_,_,rfl,_⟩:=h3
    exact Z8X h1 h2 hu1 hu2 hent
   have hnd:=hw.nd
   refine hw.turn hg.os hg.tape hg.output hg.size (fun j hj hn=>hg.block j hj (fun h=>hn (by simp only [Option.some.injEq] at h;simp [Res.foot,h]))) hcur (fun q hq=>.inl (by simpa [Res.foot] using hq)) ?_
   simp only [feet,List.flatMap_cons,List.nodup_append] at hnd
   exact hnd.1) hlt rfl fun v H' hK=>by
  rcases hK with ⟨hv,hl,hH⟩|⟨kk,z,cnt',hv,a1,a2,a4,hH⟩
  ·subst hv hH
   exact h0 hl
  ·subst hv hH
   exact h1 kk z cnt' a1 a2 a4
theorem T.ptrEntry {x:Operand} {d:Tmp} {b r n:Nat} {D:D0} {left:Lit→Bool} {cnt:Nat} {kk:List UInt8} {z:Int} {k:TypeId} (hx:ev e x=some (.pointer (some ⟨r,0,none⟩))) (hlt:Nat.blt d c.fn.ntmps=true)
  (hk:Sr q c ds (.ex2 b r (Z6Z c.P k b r n D left cnt kk z)::H) ops l κ ((d,.tuple ⟨[sV kk,pV z]⟩)::e)):Sr q c ds (.ex2 b r (Z6Z c.P k b r n D left cnt kk z)::H) ops (⟨some d,.entry x,ty,pos,aft,none⟩::l) κ e:=Sr.p (fun w a hw ha=>by
 obtain ⟨o,o',h1,h2,_,h3⟩:=hw.res _ (List.mem_cons_self ..)
 have hrun:=h3 w h1 h2
 simp [execOp,ha.ev hx,hrun]) rfl hlt rfl hk
theorem St.ptrUncur {P:Program} {F:World} {M:List Nat} {w:World} {b r n:Nat} {D:D0} {left:Lit→Bool} {cnt:Nat} {kk:List UInt8} {z:Int} {k:TypeId} (h:St F M w (.ex2 b r (Z6Z P k b r n D left cnt kk z)::H)):St F M w (.ex2 b r (Z3n P k b n D left cnt)::H) :=
 h.weakB (fun _ h=>h) h.nd fun q hq=>by
  rcases List.mem_cons.1 hq with rfl|hq
  ·obtain ⟨o,o',h1,h2,h3,_⟩:=h.res _ (List.mem_cons_self ..)
   exact ⟨o,o',h1,h2,h3⟩
  ·exact h.res q (List.mem_cons_of_mem _ hq)
theorem S.ptrUncur {k':List Item} {b r n:Nat} {D:D0} {left:Lit→Bool} {cnt:Nat} {kk:List UInt8} {z:Int} {k:TypeId} (h:S c ds (.ex2 b r (Z3n c.P k b n D left cnt)::H) k' e):S c ds (.ex2 b r (Z6Z c.P k b r n D left cnt kk z)::H) k' e:=h.weaken fun _ hw=>hw.ptrUncur
theorem St.ptrUnrange {P:Program} {F:World} {M:List Nat} {w:World} {b r n:Nat} {D:D0} {left:Lit→Bool} {cnt:Nat} {k:TypeId} (h:St F M w (.ex2 b r (Z3n P k b n D left cnt)::H)):St F M w (.ex b (ptrQ P k n D)::H):=by
 have hnd:=h.nd
 simp only [feet,List.flatMap_cons] at hnd
 refine h.weakB (fun q hq=>?_) ?_ fun q hq=>?_
 ·simp only [feet,List.flatMap_cons,List.mem_append,Res.foot,List.mem_cons,List.not_mem_nil,or_false] at hq ⊢
  rcases hq with hq|hq
  ·exact .inl (.inl hq)
  ·exact .inr hq
 ·simp only [feet,List.flatMap_cons]
  refine hnd.sublist ?_
  exact List.Sublist.append_right (List.Sublist.cons_cons b (List.nil_sublist _)) _
 ·rcases List.mem_cons.1 hq with rfl|hq
  ·exact ptrQ_iff.2 (ptrRQ_iff.1 (h.res _ (List.mem_cons_self ..))).owns
  ·exact h.res q (List.mem_cons_of_mem _ hq)
theorem Sr.ptrUnrange {b r n:Nat} {D:D0} {left:Lit→Bool} {cnt:Nat} {k:TypeId} (h:Sr (.eff dr) c ds (.ex b (ptrQ c.P k n D)::H) ops l κ e):Sr (.eff dr) c ds (.ex2 b r (Z3n c.P k b n D left cnt)::H) ops l κ e:=h.weaken fun _ hw=>hw.ptrUnrange
class AtE (H:List Res) (b:Nat) (Q:outParam (Obj→Prop)) (f:outParam (Res→List Res)):Prop where
 h:∃ rest,H.Perm (.ex b Q::rest)∧∀ r,(r::rest).Perm (f r)
instance AtE.hd {H:List Res} {b:Nat} {Q:Obj→Prop}:AtE (.ex b Q::H) b Q (fun r=>r::H):=⟨H,.refl _,fun _=>.refl _⟩
instance AtE.tl {H:List Res} {b:Nat} {Q:Obj→Prop} {q:Res} {f:Res→List Res} [h:AtE H b Q f]:AtE (q::H) b Q (fun r=>q::f r):=by
 obtain ⟨rest,h1,h2⟩:=h.h
 exact ⟨q::rest,(h1.cons q).trans (.swap _ _ _),fun r=>(List.Perm.swap q r rest).trans ((h2 r).cons q)⟩
theorem T.mapPutA {x y u:Operand} {b n:Nat} {m:Ents} {kk:List UInt8} {z:Int} {t k E:TypeId} {f:Res→List Res} [HU c.P t (.map k E)] [HU c.P k .string] [HU c.P E (.int .i64)] (hx:ev e x=some (.map (some b))) (hy:ev e y=some (sV kk)) (hu:ev e u=some (.int .i64 z)) (hm:AtE H b (mapQ c.P k E n (mapD m)) f) (hl:kk.length≤maxLen) (hn:n < maxLen) (hz:(Lit.int .i64 z).wf=true)
  (hk:Sr (.eff dr) c ds (f (.ex b (mapQ c.P k E (eput m kk z).length (mapD (eput m kk z))))) ops l κ e):Sr (.eff dr) c ds H ops (⟨none,.mapUpdate t x y u,ty,pos,aft,none⟩::l) κ e:=by
 obtain ⟨rest,h1,h2⟩:=hm.h
 exact Sr.perm (T.mapPutT (k:=k) (E:=E) hx hy hu hl hn hz (Sr.perm hk (h2 _))) h1
theorem T.ptrPutA {x y u:Operand} {b n p:Nat} {m:Ents} {kk:List UInt8} {t k E:TypeId} {f:Res→List Res} [HU c.P t (.map k E)] [HU c.P k .string] (hx:ev e x=some (.map (some b))) (hy:ev e y=some (sV kk)) (hu:ev e u=some (.pointer (some ⟨p,0,none⟩))) (hm:AtE H b (ptrQ c.P k n (mapD m)) f) (hl:kk.length≤maxLen) (hn:n < maxLen)
  (hk:Sr (.eff dr) c ds (f (.ex b (ptrQ c.P k (eput m kk p).length (mapD (eput m kk p))))) ops l κ e):Sr (.eff dr) c ds H ops (⟨none,.mapUpdate t x y u,ty,pos,aft,none⟩::l) κ e:=by
 obtain ⟨rest,h1,h2⟩:=hm.h
 exact Sr.perm (T.ptrPut (k:=k) (E:=E) hx hy hu hl hn (Sr.perm hk (h2 _))) h1
end
end Sg
/- More rules on texts: a text's bytes as a new row, a part of a text; an append that leaves the row that it began with. -/
namespace Sg
open Go Go.RowKit
section
variable {q:Mode} {c:Ctx} {ds:List Deferred} {H:List Res} {ops:Array Oper} {l:List Oper} {κ:List Res→Env→Prop} {dr:Bool} {e:Env} {ty:TypeId} {pos:String} {aft:Array Edge}
theorem T.convSB {d:Tmp} {x:Operand} {s t E:TypeId} {bs:List UInt8} [HU c.P s .string] [HU c.P t (.slice E)] [HU c.P E (.int .u8)] (hx:ev e x=some (sV bs)) (hlt:Nat.blt d c.fn.ntmps=true)
  (hk:∀ b cp r,Rd c.F c.M (r::H) (some ⟨b,0,none⟩) (bs.map bV)→bs.length≤cp→Sr (.eff dr) c ds (r::H) ops l κ ((d,.slice (some ⟨b,0,none⟩) bs.length cp)::e)) :
  Sr (.eff dr) c ds H ops (⟨some d,.convert s t x,ty,pos,aft,none⟩::l) κ e :=
 Sr.eff (K:=fun u H'=>∃ b cp r,u=.slice (some ⟨b,0,none⟩) bs.length cp∧Rd c.F c.M (r::H) (some ⟨b,0,none⟩) (bs.map bV)∧bs.length≤cp∧H'=r::H) (fun w a hw ha=>by
  have hrun:=Go.Lib.run_convert_string_bytes (P:=c.P) w s t E (ByteArray.mk bs.toArray) (u:=.string) (HU.h (P:=c.P) (t:=s)) (HU.h (P:=c.P) (t:=t)) (HU.h (P:=c.P) (t:=E))
  have hnew:=Go.Lib.bytesWorld_at_new w E (ByteArray.mk bs.toArray)
  have hsz:=Go.Lib.bytesWorld_size w E (ByteArray.mk bs.toArray)
  have hold:=fun j (hj:j < w.heap.size)=>Go.Lib.bytesWorld_at_old w E (ByteArray.mk bs.toArray) j hj
  have hcap:bs.length≤grownCap w bs.length 0 E:=grownCap_ge w bs.length 0 E
  have hss:(ByteArray.mk bs.toArray).size=bs.length:=rfl
  have hcl:∃ zs,Go.Lib.bytesCells w E (ByteArray.mk bs.toArray)=⟨bs.map bV++zs⟩:=⟨_,by
   unfold Go.Lib.bytesCells
   apply Array.ext'
   simp only [Array.toList_append,Array.toList_map]
   rfl⟩
  obtain ⟨zs,hcl⟩:=hcl
  rw [hcl] at hnew
  rw [hss] at hrun
  have hos:(Go.Lib.bytesWorld w E (ByteArray.mk bs.toArray)).os=w.os∧(Go.Lib.bytesWorld w E (ByteArray.mk bs.toArray)).tape=w.tape∧(Go.Lib.bytesWorld w E (ByteArray.mk bs.toArray)).output=w.output:=by
   unfold Go.Lib.bytesWorld World.freeze
   rw [if_neg (by decide)]
   exact ⟨rfl,rfl,rfl⟩
  refine ⟨.slice (some ⟨w.heap.size,0,none⟩) bs.length (grownCap w bs.length 0 E),Go.Lib.bytesWorld w E (ByteArray.mk bs.toArray),_,.inl (by simp only [execOp,ha.ev hx,Sem.run_bind,hrun,Result.andThen_ok,Sem.run_pure]),hw.fresh (r':=.obj w.heap.size _) hos.1 hos.2.1 hos.2.2 (by rw [hsz];omega) hold hnew (fun q hq=>by simp only [Res.foot,List.mem_singleton] at hq;omega) (by simp [Res.foot]),w.heap.size,_,_,rfl,?_,hcap,rfl⟩
  have h1:Rd c.F c.M (.obj w.heap.size (.cells ⟨bs.map bV++zs⟩ E ((⟨bs.map bV++zs⟩:Array Value).size,(⟨bs.map bV++zs⟩:Array Value).size+1))::H) (some ⟨w.heap.size,0,none⟩) (bs.map bV++zs):=inferInstance
  have h2:=h1.take bs.length
  rwa [List.take_append_of_le_length (by simp),List.take_of_length_le (by simp)] at h2) hlt rfl
  (fun u H' ⟨b,cp,r,hu,hR,hc,hH⟩=>by subst hu hH;exact hk b cp r hR hc)
theorem Sr.same (h:Sr q c ds H ops l κ e):Sr q c ds H ops l κ e:=h
theorem T.sslice {d:Tmp} {x lo hi:Operand} {kd kd':IntKind} {i j:Nat} {t:TypeId} {bs:List UInt8} [HU c.P t .string] (hx:ev e x=some (sV bs)) (hl:ev e lo=some (.int kd (i:Int))) (hh:ev e hi=some (.int kd' (j:Int))) (h0:i≤j∧j≤bs.length) (hlt:Nat.blt d c.fn.ntmps=true)
  (hk:Sr q c ds H ops l κ ((d,sV ((bs.drop i).take (j - i)))::e)):Sr q c ds H ops (⟨some d,.slice t x (some lo) (some hi) none,ty,pos,aft,none⟩::l) κ e :=
 Sr.p (fun w a _ ha=>by
  have hr:=run_slice_string (P:=c.P) (w:=w) t (ByteArray.mk bs.toArray) kd kd' (i:Int) (j:Int) (HU.h (P:=c.P) (t:=t)) (by omega) (by omega) (by show (j:Int)≤(bs.length:Nat);omega)
  have hex:(ByteArray.mk bs.toArray).extract (i:Int).toNat (j:Int).toNat=ByteArray.mk ((bs.drop i).take (j - i)).toArray:=by
   rw [Int.toNat_natCast,Int.toNat_natCast]
   apply ByteArray.ext
   rw [ByteArray.data_extract]
   apply Array.ext'
   simp [List.extract,List.drop_take]
  rw [hex] at hr
  simp [execOp,ha.ev hx,ha.ev hl,ha.ev hh,Instr.sliceAt,Z9 (d:=.string),hr]) rfl hlt rfl hk
end
end Sg
/- The walks of the program's reader of JSON: bytes, blanks, digits, faults. -/
namespace Go.Proofs.YtophlopiigpbgaaGreatDoor
open Sg Go.IntWalk
set_option maxRecDepth 100000
set_option maxHeartbeats 1000000
abbrev jrV (t:List UInt8) (o n m:Value) (a s:Nat) (k:List UInt8) (c b:Int):List Value:=[sV t,.int .i64 a,.int .i64 s,o,n,m,sV k,.int .i64 c,.int .i64 b]
section
variable {F:World} {M:List Nat} {H:List Res} {p:Nat} {t:List UInt8} {o n m:Value} {a s:Nat} {k:List UInt8} {c b:Int}
structure _root_.Sg.Kp (R:Prop):Prop where
h:R
theorem _root_.Sg.Y1 {P R:Prop} (k:R) (h:Sg.Kp R→P:=by intro k;(first|(apply T.sadd;apply rfl;apply rfl;(first|omega|(simp only [List.length_append,List.length_cons,List.length_nil];omega));apply rfl)|(apply T.orU64;apply rfl;apply rfl;omega;omega;apply rfl)|((with_reducible apply T.mulNK 3);apply rfl;apply rfl;omega;apply rfl)|((with_reducible apply T.addKN 2);apply rfl;apply rfl;omega;apply rfl)|((with_reducible apply T.mulNK 4);apply rfl;apply rfl;omega;apply rfl)|(apply T.sadd;apply rfl;apply rfl;omega;apply rfl)|(apply T.sslice;(iterate 3 apply rfl);omega;apply rfl)|(apply T.mapLook;apply rfl;apply rfl;infer_instance;(first|assumption|(simp only [maxLen];omega)|omega);apply rfl)|(apply T.seql;(iterate 3 apply rfl))|(apply T.slen;apply rfl;apply rfl)|(apply T.sidx;apply rfl;apply rfl;omega;apply rfl)|(apply T.convS;apply rfl;infer_instance;(first|rfl|assumption|exact beN_len _ _|(simp;done)|(simp;omega));apply rfl)|(apply T.eqlP;apply rfl;apply rfl)|(apply T.eqlP0;apply rfl;apply rfl)|(apply T.neqP0;apply rfl;apply rfl)|(apply T.ptrLook;apply rfl;apply rfl;infer_instance;(first|assumption|(simp only [maxLen];omega)|omega);apply rfl)|(apply T.mv;apply rfl;apply rfl)|(apply T.asn;apply rfl;apply rfl)|(apply T.len;apply rfl;apply rfl)|(apply T.nilCheck;apply rfl;apply rfl)|(apply T.fieldAddrZ;apply rfl;apply rfl)|(apply T.load;apply rfl;apply rfl;infer_instance;apply rfl;apply rfl)|(apply T.lss;(iterate 3 apply rfl))|(apply T.gtr;(iterate 3 apply rfl))|(apply T.geq;(iterate 3 apply rfl))|(apply T.eql;(iterate 3 apply rfl))|(apply T.neq;(iterate 3 apply rfl))|(apply T.addI;apply rfl;apply rfl;omega;apply rfl)|(apply T.subI;apply rfl;apply rfl;omega;apply rfl)|(apply T.extract;(iterate 3 apply rfl))|(apply T.ixC;apply rfl;infer_instance;omega;(first|omega|(simp only [List.length_map];omega)|(simp;omega));apply rfl)|(apply T.ixF;apply rfl;apply rfl;infer_instance;exact (fun _=>rfl);apply rfl;omega;omega;apply rfl)|(apply T.fieldAddrF;apply rfl;infer_instance;exact (fun _=>rfl);apply rfl;omega;apply rfl)|(apply T.loadF;apply rfl;apply rfl;infer_instance;exact (fun _=>rfl);apply rfl;exact Zf (by omega);apply rfl;apply rfl)|(apply T.loadFN;apply rfl;apply rfl;infer_instance;exact (fun _=>rfl);apply rfl;exact Zf (by omega);apply rfl)|(apply T.loadB;apply rfl;infer_instance;omega;apply rfl)|(apply T.not;apply rfl;apply rfl)|(apply T.notB;apply rfl;apply rfl)|(apply T.pickT;(iterate 3 apply rfl))|(apply T.pickF;(iterate 3 apply rfl))|(apply T.buildL;(iterate 3 apply rfl))|(apply T.loadW;apply rfl;apply rfl;infer_instance;(first|rfl|(simp only [List.length_append,List.length_map,List.length_set,List.length_replicate,List.length_cons,List.length_nil];first|done|omega));apply rfl)|(apply T.sliceHK;apply rfl;apply rfl;omega;apply rfl)|(apply T.assert;(iterate 4 apply rfl))|(apply T.neqIf;apply rfl;apply rfl)|(apply T.neqNil;apply rfl;apply rfl)|(apply T.storeW;apply rfl;apply rfl;infer_instance;(first|rfl|(simp only [List.length_append,List.length_map,List.length_set,List.length_replicate,List.length_cons,List.length_nil];first|done|omega));(first|rfl|(simp only [List.length_append,List.length_map,List.length_set,List.length_replicate,List.length_cons,List.length_nil];first|done|omega));(first|rfl|(repeat' first|apply all_nV|apply Z11|apply all_iV|rfl|apply all_app)))|(apply T.store;apply rfl;apply rfl;infer_instance;(first|decide|(simp;omega)|simp);apply rfl)|(apply T.makeI;(iterate 3 apply rfl))|(with_reducible refine Sr.nil ?_)|(with_reducible refine S.seq ?_)|(with_reducible refine S.block ?_)|(with_reducible refine S.reg ?_)|(with_reducible refine S.skip ?_)|(with_reducible refine S.inBlock ?_)|(apply S.exit;apply rfl)|(apply S.quiet;apply rfl;kernel_rfl)|(apply T.ungV;apply rfl;(first|with_reducible rfl|decide))|(apply T.skip;apply rfl;(first|with_reducible rfl|decide);apply rfl)|(apply T.skipU;apply rfl;apply rfl)|(apply S.condTV;apply rfl;(first|with_reducible rfl|decide))|(apply S.condFV;apply rfl;(first|with_reducible rfl|decide))|(apply T.retW;apply rfl)|(apply T.doneW;apply rfl)|(with_reducible apply T.ofRet)|(apply T.retC;apply rfl;((repeat' first|apply RV.nil|(apply RV.tmp;apply rfl)|(apply RV.cellW;apply rfl;apply rfl;infer_instance;(first|rfl|(simp only [List.length_append,List.length_map,List.length_set,List.length_replicate,List.length_cons,List.length_nil];first|done|omega)))|(apply RV.cellP;apply rfl;apply rfl;infer_instance;apply rfl)));apply rfl)|(apply SA.en;apply rfl;apply rfl;kernel_rfl)|(apply T.ung;apply rfl)|fail);exact k.h):P:=h ⟨k⟩
theorem ZZ {c' b':Int}:Meets Tryz.prog 101 [.pointer (some ⟨p,0,none⟩),.int .i64 c',.int .i64 b'] F M (.blk p (jrV t o n m a s k c b) 86::H) (fun e H'=>e=.returned (.bool false)∧H'=.blk p (jrV t o n m a s k c' b') 86::H):=by
 refine Meets.enter Tryz.func101 rfl rfl ?_
 repeat' (first|refine Sg.Y1 ?_|fail)
 exact ⟨_,PSub.refl _,rfl,rfl⟩
theorem _root_.Sg.Y2 {P R:Prop} (k:R) (h:Sg.Kp R→P:=by intro k;(first|(apply T.sadd;apply rfl;apply rfl;(first|omega|(simp only [List.length_append,List.length_cons,List.length_nil];omega));apply rfl)|(apply T.sadd;apply rfl;apply rfl;decide;apply rfl)|(apply T.convBU64;apply rfl;apply rfl)|(apply T.sslice;(iterate 3 apply rfl);omega;apply rfl)|(apply T.ixN;apply rfl;apply rfl;infer_instance;omega;(first|omega|(simp only [List.length_map];omega)|(simp;omega));apply rfl)|(apply T.mapLook;apply rfl;apply rfl;infer_instance;(first|assumption|(simp only [maxLen];omega)|omega);apply rfl)|(apply T.convS;apply rfl;infer_instance;(first|rfl|assumption|exact beN_len _ _|(simp;done)|(simp;omega));apply rfl)|(apply T.neqP;apply rfl;apply rfl)|(apply T.neqP0;apply rfl;apply rfl)|(apply T.mv;apply rfl;apply rfl)|(apply T.asn;apply rfl;apply rfl)|(apply T.len;apply rfl;apply rfl)|(apply T.nilCheck;apply rfl;apply rfl)|(apply T.fieldAddrZ;apply rfl;apply rfl)|(apply T.load;apply rfl;apply rfl;infer_instance;apply rfl;apply rfl)|(apply T.lss;(iterate 3 apply rfl))|(apply T.eql;(iterate 3 apply rfl))|(apply T.addI;apply rfl;apply rfl;omega;apply rfl)|(apply T.extract;(iterate 3 apply rfl))|(apply T.ixF;apply rfl;apply rfl;infer_instance;exact (fun _=>rfl);apply rfl;omega;omega;apply rfl)|(apply T.fieldAddrF;apply rfl;infer_instance;exact (fun _=>rfl);apply rfl;omega;apply rfl)|(apply T.loadF;apply rfl;apply rfl;infer_instance;exact (fun _=>rfl);apply rfl;exact Zf (by omega);apply rfl;apply rfl)|(apply T.notB;apply rfl;apply rfl)|(apply T.pickT;(iterate 3 apply rfl))|(apply T.pickF;(iterate 3 apply rfl))|(apply T.buildL;(iterate 3 apply rfl))|(apply T.loadW;apply rfl;apply rfl;infer_instance;(first|rfl|(simp only [List.length_append,List.length_map,List.length_set,List.length_replicate,List.length_cons,List.length_nil];first|done|omega));apply rfl)|(apply T.sliceLC;apply rfl;omega;apply rfl)|(apply T.storeW;apply rfl;apply rfl;infer_instance;(first|rfl|(simp only [List.length_append,List.length_map,List.length_set,List.length_replicate,List.length_cons,List.length_nil];first|done|omega));(first|rfl|(simp only [List.length_append,List.length_map,List.length_set,List.length_replicate,List.length_cons,List.length_nil];first|done|omega));(first|rfl|(repeat' first|apply all_nV|apply Z11|apply all_iV|rfl|apply all_app)))|(apply T.store;apply rfl;apply rfl;infer_instance;(first|decide|(simp;omega)|simp);apply rfl)|(with_reducible refine Sr.nil ?_)|(with_reducible refine S.reg ?_)|(with_reducible refine S.skip ?_)|(with_reducible refine S.inBlock ?_)|(apply S.exit;apply rfl)|(apply T.ungV;apply rfl;(first|with_reducible rfl|decide))|(apply T.skip;apply rfl;(first|with_reducible rfl|decide);apply rfl)|(apply S.condTV;apply rfl;(first|with_reducible rfl|decide))|(apply S.condFV;apply rfl;(first|with_reducible rfl|decide))|(apply T.retW;apply rfl)|(apply T.doneW;apply rfl)|(with_reducible apply T.diesW)|(with_reducible apply T.ofRet)|(with_reducible apply T.ofPan)|(apply T.retC;apply rfl;((repeat' first|apply RV.nil|(apply RV.tmp;apply rfl)|(apply RV.cellW;apply rfl;apply rfl;infer_instance;(first|rfl|(simp only [List.length_append,List.length_map,List.length_set,List.length_replicate,List.length_cons,List.length_nil];first|done|omega)))|(apply RV.cellP;apply rfl;apply rfl;infer_instance;apply rfl)));apply rfl)|(apply SA.en;apply rfl;apply rfl;kernel_rfl)|fail);exact k.h):P:=h ⟨k⟩
theorem ZK:Meets Tryz.prog 65 [.pointer (some ⟨p,0,none⟩)] F M (.blk p (jrV t o n m a s k c b) 86::H) (fun e H'=>e=.returned (.bool false)∧H'=.blk p (jrV t o n m a s k 31 a) 86::H):=by
 refine Meets.enter Tryz.func65 rfl rfl ?_
 repeat' (first|refine Sg.Y1 ?_|fail)
 refine T.call rfl rfl ZZ ?_
 rintro _ _ ⟨rfl,rfl⟩
 repeat' (first|refine Sg.Y2 ?_|fail)
 exact ⟨_,PSub.refl _,rfl,rfl⟩
theorem _root_.Sg.Y3 {P R:Prop} (k:R) (h:Sg.Kp R→P:=by intro k;(first|(apply T.sadd;apply rfl;apply rfl;(first|omega|(simp only [List.length_append,List.length_cons,List.length_nil];omega));apply rfl)|(apply T.convBU64;apply rfl;apply rfl)|(apply T.loadE;apply rfl;apply rfl;infer_instance;apply rfl;apply rfl)|(apply T.convM;apply rfl;apply rfl)|(apply T.convI32;apply rfl;omega;apply rfl)|(apply T.ixN;apply rfl;apply rfl;infer_instance;omega;(first|omega|(simp only [List.length_map];omega)|(simp;omega));apply rfl)|(apply T.convU32;apply rfl;omega;apply rfl)|(apply T.mapLook;apply rfl;apply rfl;infer_instance;(first|assumption|(simp only [maxLen];omega)|omega);apply rfl)|(apply T.seql;(iterate 3 apply rfl))|(apply T.sneq;(iterate 3 apply rfl))|(apply T.slen;apply rfl;apply rfl)|(apply T.sidx;apply rfl;apply rfl;omega;apply rfl)|(apply T.loadS;apply rfl;infer_instance;(first|omega|(simp only [List.length_map];omega));apply rfl)|(apply T.convS;apply rfl;infer_instance;(first|rfl|assumption|exact beN_len _ _|(simp;done)|(simp;omega));apply rfl)|(apply T.mv;apply rfl;apply rfl)|(apply T.asn;apply rfl;apply rfl)|(apply T.len;apply rfl;apply rfl)|(apply T.nilCheck;apply rfl;apply rfl)|(apply T.fieldAddrZ;apply rfl;apply rfl)|(apply T.load;apply rfl;apply rfl;infer_instance;apply rfl;apply rfl)|(apply T.lss;(iterate 3 apply rfl))|(apply T.leq;(iterate 3 apply rfl))|(apply T.gtr;(iterate 3 apply rfl))|(apply T.geq;(iterate 3 apply rfl))|(apply T.eql;(iterate 3 apply rfl))|(apply T.neq;(iterate 3 apply rfl))|(apply T.addI;apply rfl;apply rfl;omega;apply rfl)|(apply T.subI;apply rfl;apply rfl;omega;apply rfl)|(apply T.extract;(iterate 3 apply rfl))|(apply T.ixC;apply rfl;infer_instance;omega;(first|omega|(simp only [List.length_map];omega)|(simp;omega));apply rfl)|(apply T.ixK;apply rfl;apply rfl;infer_instance;decide;decide;apply rfl)|(apply T.ixF;apply rfl;apply rfl;infer_instance;exact (fun _=>rfl);apply rfl;omega;omega;apply rfl)|(apply T.fieldAddrF;apply rfl;infer_instance;exact (fun _=>rfl);apply rfl;omega;apply rfl)|(apply T.ixAZ;apply rfl;apply rfl;omega;apply rfl)|(apply T.ixA;apply rfl;apply rfl;omega;apply rfl)|(apply T.loadF;apply rfl;apply rfl;infer_instance;exact (fun _=>rfl);apply rfl;exact Zf (by omega);apply rfl;apply rfl)|(apply T.loadFN;apply rfl;apply rfl;infer_instance;exact (fun _=>rfl);apply rfl;exact Zf (by omega);apply rfl)|(apply T.loadB;apply rfl;infer_instance;omega;apply rfl)|(apply T.loadI;apply rfl;infer_instance;omega;apply rfl)|(apply T.loadNat;apply rfl;infer_instance;(first|omega|(simp only [List.length_map];omega)|(simp;omega));apply rfl)|(apply T.notB;apply rfl;apply rfl)|(apply T.pickT;(iterate 3 apply rfl))|(apply T.pickF;(iterate 3 apply rfl))|(apply T.convI64;apply rfl;omega;apply rfl)|(apply T.convU64;apply rfl;omega;apply rfl)|(apply T.remI64;apply rfl;apply rfl;omega;apply rfl)|(apply T.buildL;(iterate 3 apply rfl))|(apply T.buildAL;(iterate 3 apply rfl))|(apply T.loadW;apply rfl;apply rfl;infer_instance;(first|rfl|(simp only [List.length_append,List.length_map,List.length_set,List.length_replicate,List.length_cons,List.length_nil];first|done|omega));apply rfl)|(apply T.sliceLK;apply rfl;apply rfl;omega;apply rfl)|(apply T.storeW;apply rfl;apply rfl;infer_instance;(first|rfl|(simp only [List.length_append,List.length_map,List.length_set,List.length_replicate,List.length_cons,List.length_nil];first|done|omega));(first|rfl|(simp only [List.length_append,List.length_map,List.length_set,List.length_replicate,List.length_cons,List.length_nil];first|done|omega));(first|rfl|(repeat' first|apply all_nV|apply Z11|apply all_iV|rfl|apply all_app)))|(apply T.store;apply rfl;apply rfl;infer_instance;(first|decide|(simp;omega)|simp);apply rfl)|(apply S.deferM;apply rfl;apply rfl)|(with_reducible refine Sr.nil ?_)|(with_reducible refine S.seq ?_)|(with_reducible refine S.block ?_)|(with_reducible refine S.reg ?_)|(with_reducible refine S.skip ?_)|(with_reducible refine S.inBlock ?_)|(apply S.exit;apply rfl)|(apply S.quiet;apply rfl;kernel_rfl)|(apply T.ungV;apply rfl;(first|with_reducible rfl|decide))|(apply T.skip;apply rfl;(first|with_reducible rfl|decide);apply rfl)|(apply T.skipU;apply rfl;apply rfl)|(apply S.condTV;apply rfl;(first|with_reducible rfl|decide))|(apply S.condFV;apply rfl;(first|with_reducible rfl|decide))|(apply T.retW;apply rfl)|(apply T.doneW;apply rfl)|(with_reducible apply T.ofRet)|(apply T.retC;apply rfl;((repeat' first|apply RV.nil|(apply RV.tmp;apply rfl)|(apply RV.cellW;apply rfl;apply rfl;infer_instance;(first|rfl|(simp only [List.length_append,List.length_map,List.length_set,List.length_replicate,List.length_cons,List.length_nil];first|done|omega)))|(apply RV.cellP;apply rfl;apply rfl;infer_instance;apply rfl)));apply rfl)|(apply SA.en;apply rfl;apply rfl;kernel_rfl)|(apply S.condQ;apply rfl;intro _;rotate_left;intro _;exfalso;(first|omega|with_reducible contradiction))|(apply S.condQ;apply rfl;intro _;exfalso;(first|omega|with_reducible contradiction);intro _)|(apply T.gcase;apply rfl;apply rfl;intro _;rotate_left;intro _;exfalso;(first|omega|with_reducible contradiction))|(apply T.gcase;apply rfl;apply rfl;intro _;exfalso;(first|omega|with_reducible contradiction);intro _)|fail);exact k.h):P:=h ⟨k⟩
theorem ZY:Meets Tryz.prog 62 [.pointer (some ⟨p,0,none⟩)] F M (.blk p (jrV t o n m a s k c b) 86::H) (fun e H'=>e=.returned (.int .u8 (bAt t a:Nat))∧H'=.blk p (jrV t o n m a s k c b) 86::H):=by
 refine Meets.enter Tryz.func62 rfl rfl ?_
 by_cases h:a < t.length
 ·repeat' (first|refine Sg.Y3 ?_|(apply S.condQ;apply rfl;all_goals intro _)|fail)
  exact ⟨_,PSub.refl _,rfl,rfl⟩
 ·repeat' (first|refine Sg.Y3 ?_|(apply S.condQ;apply rfl;all_goals intro _)|fail)
  rw [Z5H (by omega)]
  exact ⟨_,PSub.refl _,rfl,rfl⟩
theorem Z4v (ha:a≤t.length) (hl:t.length≤1000000000):Meets Tryz.prog 34 [.pointer (some ⟨p,0,none⟩)] F M (.blk p (jrV t o n m a s k c b) 86::H) (fun e H'=>e=.returned (.tuple ⟨[]⟩)∧H'=.blk p (jrV t o n m (Z4 t a) s k c b) 86::H):=by
 refine Meets.enter Tryz.func34 rfl rfl ?_
 repeat' (first|with_reducible refine S.block ?_|fail)
 refine S.loopE 1 [0] (fun R b' μ H' e=>∃ q:Nat,H'=.blk p (jrV t o n m q s k c b) 86::R∧e=b'∧(q≤t.length∧Z4 t a=Z4 t q)∧μ=t.length - q) rfl rfl ?_ _ _ ⟨a,rfl,rfl,⟨ha,rfl⟩,rfl⟩ (by repeat' first|exact trivial|refine And.intro rfl ?_)
 rintro _ _ _ ⟨q,rfl,rfl,⟨h1,h2⟩,rfl⟩ ih
 have hb:bAt t q=(t.getD q 0).toNat:=rfl
 by_cases h3:q < t.length
 ·repeat' (first|refine Sg.Y3 ?_|(apply S.condQ;apply rfl;all_goals intro _)|(apply T.gcase;apply rfl;apply rfl;all_goals intro _)|fail)
  rotate_left 4
  ·rw [h2,Z9v (t:=t) (p:=q) (by omega)];exact ⟨_,PSub.refl _,rfl,rfl⟩
  all_goals (have h5:=Zb9 (t:=t) (p:=q) (by omega);exact ih _ _ _ _ ⟨q+1,rfl,rfl,⟨by omega,h2.trans h5⟩,rfl⟩ (by omega) (by repeat' first|exact trivial|refine And.intro rfl ?_))
 ·have h4:=Z5H (t:=t) (p:=q) (by omega)
  repeat' (first|refine Sg.Y3 ?_|(apply T.gcase;apply rfl;apply rfl;all_goals intro _)|fail)
  rw [h2,Z9v (t:=t) (p:=q) (by omega)]
  exact ⟨_,PSub.refl _,rfl,rfl⟩
def JrB (p:Nat) (t:List UInt8) (o n m:Value) (s:Nat) (k:List UInt8) (c b:Int) (H:List Res):Gt Unit→Ending→List Res→Prop
 | .ok a' _=>fun e H'=>e=.returned (.bool true)∧H'=.blk p (jrV t o n m a' s k c b) 86::H
 | .bad c' b'=>fun e H'=>∃ a',e=.returned (.bool false)∧H'=.blk p (jrV t o n m a' s k c' b') 86::H
theorem Z1v (ha:a≤t.length) (hl:t.length≤1000000000):Meets Tryz.prog 125 [.pointer (some ⟨p,0,none⟩)] F M (.blk p (jrV t o n m a s k c b) 86::H) (JrB p t o n m s k c b H (Z0P t a)):=by
 refine Meets.enter Tryz.func125 rfl rfl ?_
 have hu:=Z3k t a
 repeat' (first|refine Sg.Y1 ?_|fail)
 refine T.call rfl rfl ZY ?_
 rintro _ _ ⟨rfl,rfl⟩
 by_cases h:48≤bAt t a∧bAt t a≤57
 ·rw [ZbW h]
  obtain ⟨h1,h2⟩:=h
  repeat' (first|refine Sg.Y3 ?_|(apply S.condQ;apply rfl;all_goals intro _)|(apply T.gcase;apply rfl;apply rfl;all_goals intro _)|fail)
  refine T.call rfl rfl ZY ?_
  rintro _ _ ⟨rfl,rfl⟩
  repeat' (first|refine Sg.Y1 ?_|fail)
  refine S.loopE 1 [0] (fun R b' μ H' e=>∃ q:Nat,H'=.blk p (jrV t o n m q s k c b) 86::R∧e=(4,.int .u8 (bAt t q:Nat))::b'∧(q≤t.length∧Z1E t a=Z1E t q)∧μ=t.length - q) rfl rfl ?_ _ _ ⟨a,rfl,rfl,⟨ha,rfl⟩,rfl⟩ (by repeat' first|exact trivial|refine And.intro rfl ?_)
  rintro _ _ _ ⟨q,rfl,rfl,⟨h3,h4⟩,rfl⟩ ih
  by_cases h5:48≤bAt t q∧bAt t q≤57
  ·have h6:=Z1Y (t:=t) (p:=q) (by omega)
   rw [Z4s h5] at h4
   obtain ⟨h5,h7⟩:=h5
   repeat' (first|refine Sg.Y3 ?_|(apply S.condQ;apply rfl;all_goals intro _)|(apply T.gcase;apply rfl;apply rfl;all_goals intro _)|fail)
   refine T.call rfl rfl ZY ?_
   rintro _ _ ⟨rfl,rfl⟩
   repeat' (first|refine Sg.Y2 ?_|fail)
   exact ih _ _ _ _ ⟨q+1,rfl,rfl,⟨by omega,h4⟩,rfl⟩ (by omega) (by repeat' first|exact trivial|refine And.intro rfl ?_)
  ·rw [Z3y h5] at h4
   rw [h4]
   repeat' (first|refine Sg.Y3 ?_|(apply S.condQ;apply rfl;all_goals intro _)|(apply T.gcase;apply rfl;apply rfl;all_goals intro _)|fail)
   all_goals exact ⟨_,PSub.refl _,rfl,rfl⟩
 ·rw [ZaE h]
  repeat' (first|refine Sg.Y3 ?_|(apply S.condQ;apply rfl;all_goals intro _)|(apply T.gcase;apply rfl;apply rfl;all_goals intro _)|fail)
  all_goals
   refine T.call rfl rfl ZK ?_
   rintro _ _ ⟨rfl,rfl⟩
   repeat' (first|refine Sg.Y2 ?_|fail)
   exact ⟨_,PSub.refl _,a,rfl,rfl⟩
end
end Go.Proofs.YtophlopiigpbgaaGreatDoor
