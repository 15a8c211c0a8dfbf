/- Texts put together by a program: JrfE JrfF JrfG JrfH DecQ JrfI. -/
import Derived.Test.YtjajcmedipjfhaaGreatDoorMp
import Derived.Test.YtjajcmedipjfhaaGreatDoorMg
import Derived.Test.YtjajcmedipjfhaaGreatDoorMd
/- The walks of the document's reader of JSON: what stands behind a backslash. -/
namespace Go.Proofs.YtjajcmedipjfhaaGreatDoor
open Sg Go.IntWalk
set_option maxRecDepth 100000
set_option maxHeartbeats 4000000
def GoE:Gt (List UInt8)→Ending→Prop
 | .ok a s=>fun e=>e=.returned (.agg ⟨goV a noL s 0 0⟩)
 | .bad c b=>fun e=>∃ s,e=.returned (.agg ⟨goV 0 noL s c b⟩)
section
variable {F:World} {M:List Nat} {H:List Res} {t:List UInt8} {p:Nat}
theorem Z24 {low:Bool} {fr:Nat}:∀ {k q u:Nat} {c:Int} {b:Nat},ZK t low fr k q u=.bad c b→c≠0
 | 0,q,u,c,b,h=>by rw [ZK] at h;cases h
 | k+1,q,u,c,b,h=>by
  rw [ZK] at h
  split at h
  ·cases h;decide
  ·split at h
   ·cases h;decide
   ·split at h
    ·cases h;decide
    ·exact Z24 h
theorem Z6I (hp:p < t.length) (hl:t.length≤1000000000) (h117:¬bAt t (p+1)=117):Meets Tryz.prog 143 [sV t,.int .i64 p] F M H (fun e H'=>GoE ((escX t p).bind fun a u=>.ok a (utfL u)) e∧H'=H):=by
 refine Meets.enter Tryz.func143 rfl rfl ?_
 have e1:(p:Int)+1=((p+1:Nat):Int):=by omega
 repeat' (first|(apply T.addI;apply rfl;apply rfl;omega;apply rfl;rw [e1])|(apply T.alloc;apply rfl;intro nb)|refine Sg.Y1 ?_|fail)
 refine T.call rfl rfl Z9 ?_
 rintro _ _ ⟨rfl,rfl⟩
 by_cases h6:p+1 < t.length
 ·have hlt:=Z2k t (p+1)
  rw [Z04 h6,Z7x h6,if_neg h117]
  generalize bAt t (p+1)=b at h117 hlt ⊢
  by_cases h34:b=34
  ·have hX:escN b=some b:=by subst h34;rfl
   have hU:utfL b=[UInt8.ofNat b]:=by unfold utfL;rw [if_pos (by omega)]
   simp only [hX,Gt.bind,hU]
   have c1:=Z2M (n:=b) (by omega)
   repeat' (first|(apply T.convU8;apply rfl;omega;apply rfl;rw [c1])|(refine T.convS (xs:=[UInt8.ofNat b]) rfl inferInstance rfl rfl ?_)|(apply T.bs;(iterate 6 apply rfl);intro nb)|refine Sg.Y3 ?_|(apply S.condQ;apply rfl;all_goals intro _)|fail)
   exact ⟨_,PSub.drop (PSub.drop (PSub.refl _)),rfl,rfl⟩
  by_cases h92:b=92
  ·have hX:escN b=some b:=by subst h92;rfl
   have hU:utfL b=[UInt8.ofNat b]:=by unfold utfL;rw [if_pos (by omega)]
   simp only [hX,Gt.bind,hU]
   have c1:=Z2M (n:=b) (by omega)
   repeat' (first|(apply T.convU8;apply rfl;omega;apply rfl;rw [c1])|(refine T.convS (xs:=[UInt8.ofNat b]) rfl inferInstance rfl rfl ?_)|(apply T.bs;(iterate 6 apply rfl);intro nb)|refine Sg.Y3 ?_|(apply S.condQ;apply rfl;all_goals intro _)|fail)
   exact ⟨_,PSub.drop (PSub.drop (PSub.refl _)),rfl,rfl⟩
  by_cases h47:b=47
  ·have hX:escN b=some b:=by subst h47;rfl
   have hU:utfL b=[UInt8.ofNat b]:=by unfold utfL;rw [if_pos (by omega)]
   simp only [hX,Gt.bind,hU]
   have c1:=Z2M (n:=b) (by omega)
   repeat' (first|(apply T.convU8;apply rfl;omega;apply rfl;rw [c1])|(refine T.convS (xs:=[UInt8.ofNat b]) rfl inferInstance rfl rfl ?_)|(apply T.bs;(iterate 6 apply rfl);intro nb)|refine Sg.Y3 ?_|(apply S.condQ;apply rfl;all_goals intro _)|fail)
   exact ⟨_,PSub.drop (PSub.drop (PSub.refl _)),rfl,rfl⟩
  by_cases h98:b=98
  ·have hX:escN b=some 8:=by subst h98;rfl
   have hU:utfL 8=[UInt8.ofNat 8]:=rfl
   simp only [hX,Gt.bind,hU]
   have c1:(8:Int)=(((UInt8.ofNat 8).toNat:Nat):Int):=rfl
   repeat' (first|(apply T.convU8;apply rfl;omega;apply rfl;rw [c1])|(refine T.convS (xs:=[UInt8.ofNat 8]) rfl inferInstance rfl rfl ?_)|(apply T.bs;(iterate 6 apply rfl);intro nb)|refine Sg.Y3 ?_|(apply S.condQ;apply rfl;all_goals intro _)|fail)
   exact ⟨_,PSub.drop (PSub.drop (PSub.refl _)),rfl,rfl⟩
  by_cases h102:b=102
  ·have hX:escN b=some 12:=by subst h102;rfl
   have hU:utfL 12=[UInt8.ofNat 12]:=rfl
   simp only [hX,Gt.bind,hU]
   have c1:(12:Int)=(((UInt8.ofNat 12).toNat:Nat):Int):=rfl
   repeat' (first|(apply T.convU8;apply rfl;omega;apply rfl;rw [c1])|(refine T.convS (xs:=[UInt8.ofNat 12]) rfl inferInstance rfl rfl ?_)|(apply T.bs;(iterate 6 apply rfl);intro nb)|refine Sg.Y3 ?_|(apply S.condQ;apply rfl;all_goals intro _)|fail)
   exact ⟨_,PSub.drop (PSub.drop (PSub.refl _)),rfl,rfl⟩
  by_cases h110:b=110
  ·have hX:escN b=some 10:=by subst h110;rfl
   have hU:utfL 10=[UInt8.ofNat 10]:=rfl
   simp only [hX,Gt.bind,hU]
   have c1:(10:Int)=(((UInt8.ofNat 10).toNat:Nat):Int):=rfl
   repeat' (first|(apply T.convU8;apply rfl;omega;apply rfl;rw [c1])|(refine T.convS (xs:=[UInt8.ofNat 10]) rfl inferInstance rfl rfl ?_)|(apply T.bs;(iterate 6 apply rfl);intro nb)|refine Sg.Y3 ?_|(apply S.condQ;apply rfl;all_goals intro _)|fail)
   exact ⟨_,PSub.drop (PSub.drop (PSub.refl _)),rfl,rfl⟩
  by_cases h114:b=114
  ·have hX:escN b=some 13:=by subst h114;rfl
   have hU:utfL 13=[UInt8.ofNat 13]:=rfl
   simp only [hX,Gt.bind,hU]
   have c1:(13:Int)=(((UInt8.ofNat 13).toNat:Nat):Int):=rfl
   repeat' (first|(apply T.convU8;apply rfl;omega;apply rfl;rw [c1])|(refine T.convS (xs:=[UInt8.ofNat 13]) rfl inferInstance rfl rfl ?_)|(apply T.bs;(iterate 6 apply rfl);intro nb)|refine Sg.Y3 ?_|(apply S.condQ;apply rfl;all_goals intro _)|fail)
   exact ⟨_,PSub.drop (PSub.drop (PSub.refl _)),rfl,rfl⟩
  by_cases h116:b=116
  ·have hX:escN b=some 9:=by subst h116;rfl
   have hU:utfL 9=[UInt8.ofNat 9]:=rfl
   simp only [hX,Gt.bind,hU]
   have c1:(9:Int)=(((UInt8.ofNat 9).toNat:Nat):Int):=rfl
   repeat' (first|(apply T.convU8;apply rfl;omega;apply rfl;rw [c1])|(refine T.convS (xs:=[UInt8.ofNat 9]) rfl inferInstance rfl rfl ?_)|(apply T.bs;(iterate 6 apply rfl);intro nb)|refine Sg.Y3 ?_|(apply S.condQ;apply rfl;all_goals intro _)|fail)
   exact ⟨_,PSub.drop (PSub.drop (PSub.refl _)),rfl,rfl⟩
  have hX:escN b=none:=by
   unfold escN
   simp only [h34,h92,h47,h98,h102,h110,h114,h116,if_false]
  simp only [hX,Gt.bind]
  repeat' (first|refine Sg.Y3 ?_|(apply S.condQ;apply rfl;all_goals intro _)|fail)
  refine T.call rfl rfl Zc ?_
  rintro _ _ ⟨rfl,rfl⟩
  repeat' (first|refine Sg.Y2 ?_|fail)
  exact ⟨_,PSub.drop (PSub.refl _),⟨[],rfl⟩,rfl⟩
 ·rw [Z0I h6,Z8q h6]
  have hn:t.length=p+1:=by omega
  repeat' (first|refine Sg.Y1 ?_|fail)
  refine T.call rfl rfl Zc ?_
  rintro _ _ ⟨rfl,rfl⟩
  rw [hn]
  repeat' (first|refine Sg.Y2 ?_|fail)
  exact ⟨_,PSub.drop (PSub.refl _),⟨[],rfl⟩,rfl⟩
end
end Go.Proofs.YtjajcmedipjfhaaGreatDoor
/- The walks of the document's reader of JSON: escapes of digits. -/
namespace Go.Proofs.YtjajcmedipjfhaaGreatDoor
open Sg Go.IntWalk
set_option maxRecDepth 100000
set_option maxHeartbeats 4000000
def remX (t:List UInt8) (fr hi a i:Nat):Gt (List UInt8) :=
 let K:Nat→Gt (List UInt8):=fun d=>(ZK t true fr 4 d 0).bind fun e lo=>Gt.ok e (utfL (65536+1024*(hi - 55296)+lo - 56320))
 if i=0 then (Z1k t fr a 92).bind fun b _=>(Z1k t fr b 117).bind fun d _=>K d else if i=1 then (Z1k t fr (a+1) 117).bind fun d _=>K d else K (a+2)
theorem Z6T {α β γ:Type} (g:Gt α) (f:Nat→α→Gt β) (k:Nat→β→Gt γ):(g.bind f).bind k=g.bind fun a v=>(f a v).bind k:=by
 cases g<;>rfl
theorem Zbo {t:List UInt8} {fr hi a i:Nat} (h:a+i < t.length) (hi2:i < 2):remX t fr hi a i=if bAt t (a+i)=(if i=0 then 92 else 117) then remX t fr hi a (i+1) else .bad 33 fr:=by
 rcases (by omega:i=0∨i=1) with rfl|rfl
 ·unfold remX
  have e92:(92:UInt8).toNat=92:=rfl
  rw [Z3g (p:=a) (by omega),e92]
  simp only [if_true,Nat.add_zero,Nat.zero_add,Nat.one_ne_zero,if_false]
  by_cases hb:bAt t a=92
  ·rw [if_pos hb,if_pos hb]
   rfl
  ·rw [if_neg hb,if_neg hb]
   rfl
 ·unfold remX
  have e117:(117:UInt8).toNat=117:=rfl
  rw [Z3g (p:=a+1) (by omega),e117]
  simp only [if_true,Nat.one_ne_zero,if_false,(by decide:¬(1+1=0)),(by decide:¬(1+1=1))]
  by_cases hb:bAt t (a+1)=117
  ·rw [if_pos hb,if_pos hb]
   rfl
  ·rw [if_neg hb,if_neg hb]
   rfl
theorem ZcO {t:List UInt8} {fr hi a i:Nat} (h:¬a+i < t.length) (ha:a+i≤t.length) (hi2:i < 2):remX t fr hi a i=.bad 31 t.length:=by
 rcases (by omega:i=0∨i=1) with rfl|rfl
 ·unfold remX
  rw [Z2w (p:=a) (by omega),show t.length=a by omega]
  rfl
 ·unfold remX
  rw [Z2w (p:=a+1) (by omega),show t.length=a+1 by omega]
  rfl
section
variable {F:World} {M:List Nat} {H:List Res} {t:List UInt8} {p:Nat}
theorem Z6H (hp:p < t.length) (hl:t.length≤1000000000) (h117:bAt t (p+1)=117):Meets Tryz.prog 143 [sV t,.int .i64 p] F M H (fun e H'=>GoE ((escX t p).bind fun a u=>.ok a (utfL u)) e∧H'=H):=by
 have h6:p+1 < t.length:=Zd (by omega)
 rw [Z7x h6,if_pos h117]
 unfold Z1G
 refine Meets.enter Tryz.func143 rfl rfl ?_
 have e1:(p:Int)+1=((p+1:Nat):Int):=by omega
 have e2:(p:Int)+2=((p+2:Nat):Int):=by omega
 repeat' (first|(apply T.addI;apply rfl;apply rfl;omega;apply rfl;first|rw [e1]|rw [e2])|(apply T.alloc;apply rfl;intro nb)|refine Sg.Y1 ?_|fail)
 refine T.call rfl rfl Z9 ?_
 rintro _ _ ⟨rfl,rfl⟩
 rw [Z04 h6,h117]
 repeat' (first|(apply T.addI;apply rfl;apply rfl;omega;apply rfl;first|rw [e1]|rw [e2])|refine Sg.Y1 ?_|fail)
 refine T.call rfl rfl (Z6B (low:=false) (L:=0) (fr:=p) (p:=p+2) rfl (by omega) hl) ?_
 cases hx:ZK t false p 4 (p+2) 0 with
 | bad c b =>
  have hc:=Z24 hx
  rintro _ _ ⟨rfl,rfl⟩
  repeat' (first|(apply T.alloc;apply rfl;intro nb)|refine Sg.Y3 ?_|(apply T.gcase;apply rfl;apply rfl;all_goals intro _)|fail)
  refine T.call rfl rfl (Z2r (u:=0) (by decide)) ?_
  rintro _ _ ⟨rfl,rfl⟩
  repeat' (first|refine Sg.Y1 ?_|fail)
  exact ⟨_,PSub.drop (PSub.drop (PSub.refl _)),⟨utfL 0,rfl⟩,rfl⟩
 | ok a hi =>
  obtain ⟨g1,g2⟩:=Z42 hx
  have hfa:=Z1e (t:=t) (low:=false) (fr:=p) (k:=4) (p:=p+2) (u:=0) (by omega) a hi hx
  rintro _ _ ⟨rfl,rfl⟩
  simp only [Gt.bind]
  by_cases hs:hi < 55296∨57343 < hi
  ·rw [if_pos hs]
   by_cases hs1:hi < 55296
   ·repeat' (first|(apply T.alloc;apply rfl;intro nb)|refine Sg.Y3 ?_|(apply T.gcase;apply rfl;apply rfl;all_goals intro _)|fail)
    refine T.call rfl rfl (Z2r (u:=hi) (by omega)) ?_
    rintro _ _ ⟨rfl,rfl⟩
    repeat' (first|refine Sg.Y1 ?_|fail)
    exact ⟨_,PSub.drop (PSub.drop (PSub.refl _)),rfl,rfl⟩
   ·have hs2:=hs.resolve_left hs1
    repeat' (first|(apply T.alloc;apply rfl;intro nb)|refine Sg.Y3 ?_|(apply S.condQ;apply rfl;all_goals intro _)|(apply T.gcase;apply rfl;apply rfl;all_goals intro _)|fail)
    refine T.call rfl rfl (Z2r (u:=hi) (by omega)) ?_
    rintro _ _ ⟨rfl,rfl⟩
    repeat' (first|refine Sg.Y1 ?_|fail)
    exact ⟨_,PSub.drop (PSub.drop (PSub.refl _)),rfl,rfl⟩
  ·rw [if_neg hs]
   have hs1:¬hi < 55296:=fun h=>hs (.inl h)
   have hs2:¬57343 < hi:=fun h=>hs (.inr h)
   clear hs
   have hQ0:remX t p hi a 0=(((Z1k t p a 92).bind fun b _=>(Z1k t p b 117).bind fun d _=>(ZK t true p 4 d 0).bind fun e lo=>Gt.ok e (65536+1024*(hi - 55296)+lo - 56320)).bind fun a u=>Gt.ok a (utfL u)):=by
    rw [Z6T]
    simp only [Z6T]
    rfl
   have hQ1:=hQ0
   simp only [Gt.bind] at hQ1
   rw [←hQ1]
   clear hQ0 hQ1
   generalize hQ:remX t p hi a 0=Q
   repeat' (first|(apply T.alloc;apply rfl;intro nb)|refine Sg.Y3 ?_|(apply S.condQ;apply rfl;all_goals intro _)|(apply T.gcase;apply rfl;apply rfl;all_goals intro _)|fail)
   refine S.loopE 0 [0,1,4,6,7,8] (fun R b' μ H' e=>∃ i:Nat,H'=R∧e=(9,.int .i64 i)::b'∧(i≤2∧a+i≤t.length∧remX t p hi a i=Q)∧μ=2 - i) rfl rfl ?_ _ _ ⟨0,rfl,rfl,⟨by omega,by omega,hQ⟩,rfl⟩ (by repeat' first|exact trivial|refine And.intro rfl ?_)
   rintro _ _ _ ⟨i,rfl,rfl,⟨k1,k2,k3⟩,rfl⟩ ih
   by_cases k4:i < 2
   ·have e3:(a:Int)+(i:Int)=((a+i:Nat):Int):=by omega
    repeat' (first|(apply T.addI;apply rfl;apply rfl;omega;apply rfl;rw [e3])|refine Sg.Y3 ?_|(apply S.condQ;apply rfl;all_goals intro _)|fail)
    refine T.call rfl rfl Z9 ?_
    rintro _ _ ⟨rfl,rfl⟩
    by_cases k5:a+i < t.length
    ·rw [Z04 k5]
     rw [Zbo k5 k4] at k3
     by_cases k6:bAt t (a+i)=if i=0 then 92 else 117
     ·rw [if_pos k6] at k3
      have k7:(i=0→bAt t (a+i)=92)∧(i=1→bAt t (a+i)=117):=⟨fun e=>by rw [k6,if_pos e],fun e=>by rw [k6,if_neg (by omega)]⟩
      clear k6
      repeat' (first|refine Sg.Y3 ?_|(apply S.condQ;apply rfl;all_goals intro _)|(apply T.gcase;apply rfl;apply rfl;all_goals intro _)|fail)
      all_goals exact ih _ _ _ _ ⟨i+1,rfl,rfl,⟨by omega,by omega,k3⟩,rfl⟩ (by omega) (by repeat' first|exact trivial|refine And.intro rfl ?_)
     ·rw [if_neg k6] at k3
      have k7:(i=0→¬bAt t (a+i)=92)∧(i=1→¬bAt t (a+i)=117):=⟨fun e=>by rw [if_pos e] at k6;exact k6,fun e=>by rw [if_neg (by omega)] at k6;exact k6⟩
      clear k6
      rw [←k3]
      repeat' (first|refine Sg.Y3 ?_|(apply S.condQ;apply rfl;all_goals intro _)|(apply T.gcase;apply rfl;apply rfl;all_goals intro _)|fail)
      all_goals
       refine T.call rfl rfl Zc ?_
       rintro _ _ ⟨rfl,rfl⟩
       repeat' (first|refine Sg.Y2 ?_|fail)
       exact ⟨_,PSub.drop (PSub.drop (PSub.refl _)),⟨[],rfl⟩,rfl⟩
    ·rw [Z0I k5]
     rw [ZcO k5 k2 k4] at k3
     rw [←k3]
     repeat' (first|refine Sg.Y1 ?_|fail)
     refine T.call rfl rfl Zc ?_
     rintro _ _ ⟨rfl,rfl⟩
     repeat' (first|refine Sg.Y2 ?_|fail)
     exact ⟨_,PSub.drop (PSub.drop (PSub.refl _)),⟨[],rfl⟩,rfl⟩
   ·obtain rfl:i=2:=by omega
    have e4:(a:Int)+2=((a+2:Nat):Int):=by omega
    have k8:remX t p hi a 2=(ZK t true p 4 (a+2) 0).bind fun e lo=>Gt.ok e (utfL (65536+1024*(hi - 55296)+lo - 56320)):=rfl
    rw [k8] at k3
    clear k8
    repeat' (first|(apply T.addI;apply rfl;apply rfl;omega;apply rfl;rw [e4])|refine Sg.Y1 ?_|fail)
    refine T.call rfl rfl (Z6B (low:=true) (L:=2) (fr:=p) (p:=a+2) rfl (by omega) hl) ?_
    cases hy:ZK t true p 4 (a+2) 0 with
    | bad c b =>
     rw [hy] at k3
     rw [←k3]
     have e5:65536+1024*((hi:Int) - 55296)+0 - 56320=((9216+1024*(hi - 55296):Nat):Int):=by omega
     rintro _ _ ⟨rfl,rfl⟩
     repeat' (first|(apply T.subI;apply rfl;apply rfl;omega;apply rfl;first|rw [e5]|skip)|(apply T.alloc;apply rfl;intro nb)|refine Sg.Y1 ?_|fail)
     refine T.call rfl rfl (Z2r (u:=9216+1024*(hi - 55296)) (by omega)) ?_
     rintro _ _ ⟨rfl,rfl⟩
     repeat' (first|refine Sg.Y1 ?_|fail)
     exact ⟨_,PSub.drop (PSub.drop (PSub.drop (PSub.refl _))),⟨_,rfl⟩,rfl⟩
    | ok e lo =>
     rw [hy] at k3
     rw [←k3]
     obtain ⟨q1,q2⟩:=Z5I hy
     have e5:65536+1024*((hi:Int) - 55296)+(lo:Int) - 56320=((65536+1024*(hi - 55296)+lo - 56320:Nat):Int):=by omega
     rintro _ _ ⟨rfl,rfl⟩
     repeat' (first|(apply T.subI;apply rfl;apply rfl;omega;apply rfl;first|rw [e5]|skip)|(apply T.alloc;apply rfl;intro nb)|refine Sg.Y1 ?_|fail)
     refine T.call rfl rfl (Z2r (u:=65536+1024*(hi - 55296)+lo - 56320) (by omega)) ?_
     rintro _ _ ⟨rfl,rfl⟩
     repeat' (first|refine Sg.Y1 ?_|fail)
     exact ⟨_,PSub.drop (PSub.drop (PSub.drop (PSub.refl _))),rfl,rfl⟩
end
end Go.Proofs.YtjajcmedipjfhaaGreatDoor
/- The walks of the document's reader of JSON: strings. -/
namespace Go.Proofs.YtjajcmedipjfhaaGreatDoor
open Sg Go.IntWalk
set_option maxRecDepth 100000
set_option maxHeartbeats 4000000
section
variable {F:World} {M:List Nat} {H:List Res} {t:List UInt8} {p:Nat}
theorem Z4i (hp:p < t.length) (hl:t.length≤1000000000):Meets Tryz.prog 143 [sV t,.int .i64 p] F M H (fun e H'=>GoE ((escX t p).bind fun a u=>.ok a (utfL u)) e∧H'=H):=by
 by_cases h:bAt t (p+1)=117
 ·exact Z6H hp hl h
 ·exact Z6I hp hl h
theorem Z4B {fr q:Nat} {ch:UInt8} {c:Int} {b:Nat} (h:Z1k t fr q ch=.bad c b):c≠0:=by
 unfold Z1k at h
 split at h
 ·cases h;decide
 ·split at h
  ·cases h
  ·cases h;decide
theorem ZaJ {fr:Nat} {c:Int} {b:Nat} (h:escX t fr=.bad c b):c≠0:=by
 have key:∀ {α β:Type} {g:Gt α} {f:Nat→α→Gt β},(g.bind f=.bad c b)→(g=.bad c b)∨∃ a v,g=.ok a v∧f a v=.bad c b:=fun {α β g f} h=>by
  cases g with
  | bad c' b'=>cases h;exact .inl rfl
  | ok a v=>exact .inr ⟨a,v,rfl,h⟩
 unfold escX at h
 split at h
 ·cases h;decide
 ·split at h
  ·unfold Z1G at h
   rcases key h with h|⟨a,v,_,h⟩
   ·exact Z24 h
   ·split at h
    ·cases h
    ·rcases key h with h|⟨a,v,_,h⟩
     ·exact Z4B h
     ·rcases key h with h|⟨a,v,_,h⟩
      ·exact Z4B h
      ·rcases key h with h|⟨a,v,_,h⟩
       ·exact Z24 h
       ·cases h
  ·split at h
   ·cases h
   ·cases h;decide
theorem Z61 {fr:Nat}:∀ {k q lo hi:Nat} {c:Int} {b:Nat},seqX t fr k q lo hi=.bad c b→c≠0
 | 0,q,lo,hi,c,b,h=>by rw [seqX] at h;cases h
 | k+1,q,lo,hi,c,b,h=>by
  rw [seqX] at h
  split at h
  ·cases h;decide
  ·split at h
   ·cases h;decide
   ·exact Z61 h
theorem Z8O {q:Nat} {ch:UInt8} {c:Int} {b:Nat} (h:Z0G t q ch=.bad c b):c≠0:=by
 unfold Z0G at h
 split at h
 ·cases h;decide
 ·exact Z61 h
theorem Z2f (hp:p≤t.length) (hl:t.length≤262144):Meets Tryz.prog 119 [sV t,.int .i64 p] F M H (fun e H'=>GoE (ZB t p) e∧H'=H):=by
 refine Meets.enter Tryz.func119 rfl rfl ?_
 unfold ZB
 generalize hQ:Z0c t (t.length+1 - p) p []=Q
 refine S.nilrow 5 1 ?_
 repeat' (first|(apply T.alloc;apply rfl;intro nb)|refine Sg.Y1 ?_|fail)
 refine S.frontR none ?_
 refine S.loopE 1 [0,4] (fun R b' μ H' e=>∃ (q f:Nat) (acc:List UInt8) (ad:Option Addr) (cp nn:Nat),H'=.row ad cp 5 1 nn (acc.map bV)::R∧e=(1,.int .i64 q)::(5,.slice ad nn cp)::b'∧(q≤t.length∧t.length < q+f∧acc.length=nn∧nn≤4*q∧Z0c t f q acc=Q)∧μ=t.length - q) rfl rfl ?_ _ _ ⟨p,t.length+1 - p,[],none,0,0,rfl,rfl,⟨hp,by omega,rfl,by omega,hQ⟩,rfl⟩ (by repeat' first|exact trivial|refine And.intro rfl ?_)
 rintro _ _ _ ⟨q,f,acc,ad,cp,nn,rfl,rfl,⟨h1,h2,h3,h4,h5⟩,rfl⟩ ih
 subst h3
 obtain ⟨f,rfl⟩:∃ g,f=g+1:=⟨f - 1,by omega⟩
 repeat' (first|refine Sg.Y1 ?_|fail)
 refine T.call rfl rfl Z9 ?_
 rintro _ _ ⟨rfl,rfl⟩
 rcases Nat.lt_or_ge q t.length with h6|h6
 ·have hq:t[q]?=some (t.getD q 0):=by simp [List.getD,h6]
  have hu:=(t.getD q 0).toNat_lt
  have hb:bAt t q=(t.getD q 0).toNat:=rfl
  rw [Z3K hq] at h5
  rw [Z04 h6,hb]
  by_cases c1:(t.getD q 0).toNat < 32
  ·rw [if_pos c1] at h5
   rw [←h5]
   repeat' (first|(apply T.alloc;apply rfl;intro nb)|refine Sg.Y3 ?_|(apply S.condQ;apply rfl;all_goals intro _)|fail)
   refine T.call rfl rfl Zc ?_
   rintro _ _ ⟨rfl,rfl⟩
   repeat' (first|refine Sg.Y2 ?_|fail)
   exact ⟨_,PSub.drop (PSub.drop (PSub.drop (PSub.refl _))),⟨[],rfl⟩,rfl⟩
  rw [if_neg c1] at h5
  by_cases c2:(t.getD q 0).toNat=34
  ·rw [if_pos c2] at h5
   rw [←h5]
   repeat' (first|(refine T.convS (xs:=acc) rfl inferInstance rfl rfl ?_)|(apply T.alloc;apply rfl;intro nb)|refine Sg.Y3 ?_|(apply S.condQ;apply rfl;all_goals intro _)|fail)
   exact ⟨_,PSub.drop (PSub.drop (PSub.drop (PSub.refl _))),rfl,rfl⟩
  rw [if_neg c2] at h5
  by_cases c3:(t.getD q 0).toNat=92
  ·rw [if_pos c3] at h5
   repeat' (first|(apply T.alloc;apply rfl;intro nb)|refine Sg.Y3 ?_|(apply S.condQ;apply rfl;all_goals intro _)|fail)
   refine T.call rfl rfl (Z4i h6 (by omega)) ?_
   have hfit:=Z1h (t:=t) (fr:=q)
   cases hx:escX t q with
   | bad e1 q1 =>
    have hc:=ZaJ hx
    rw [hx] at h5
    rw [←h5]
    rintro _ _ ⟨⟨s,rfl⟩,rfl⟩
    repeat' (first|refine Sg.Y3 ?_|(apply S.condQ;apply rfl;all_goals intro _)|fail)
    exact ⟨_,PSub.drop (PSub.drop (PSub.drop (PSub.refl _))),⟨s,rfl⟩,rfl⟩
   | ok a1 u =>
    rw [hx] at h5
    have h5':Z0c t f a1 (acc++utfL u)=Q:=h5
    obtain ⟨r3,r4⟩:=hfit a1 u hx
    have hle:=Z5g u
    rintro _ _ ⟨rfl,rfl⟩
    repeat' (first|(apply T.appendS;apply rfl;apply rfl;infer_instance;omega;apply rfl;intro na nc)|refine Sg.Y1 ?_|fail)
    refine S.sublist ?_ (PSub.drop (PSub.refl _))
    exact ih _ _ _ _ ⟨a1,f,acc++utfL u,na,nc,_,rfl,rfl,⟨r4,by omega,by rw [List.length_append],by omega,h5'⟩,rfl⟩ (by omega) (by repeat' first|exact trivial|refine And.intro rfl ?_)
  rw [if_neg c3] at h5
  by_cases c4:(t.getD q 0).toNat < 128
  ·rw [if_pos c4] at h5
   have e1:(q:Int)+1=((q+1:Nat):Int):=by omega
   have hl1:([t.getD q 0]:List UInt8).length=1:=rfl
   have hs:(t.drop q).take (q+1 - q)=[t.getD q 0]:=by
    rw [show q+1 - q=1 by omega,List.take_one,List.head?_drop,hq]
    rfl
   repeat' (first|(apply T.addI;apply rfl;apply rfl;omega;apply rfl;rw [e1])|(apply T.sslice;(iterate 3 apply rfl);omega;apply rfl;rw [hs])|(apply T.appendS;apply rfl;apply rfl;infer_instance;omega;apply rfl;intro na nc)|(apply T.alloc;apply rfl;intro nb)|refine Sg.Y3 ?_|(apply S.condQ;apply rfl;all_goals intro _)|fail)
   refine S.sublist ?_ (PSub.drop (PSub.refl _))
   exact ih _ _ _ _ ⟨q+1,f,acc++[t.getD q 0],na,nc,acc.length+1,rfl,rfl,⟨by omega,by omega,by simp,by omega,h5⟩,rfl⟩ (by omega) (by repeat' first|exact trivial|refine And.intro rfl ?_)
  rw [if_neg c4] at h5
  repeat' (first|(apply T.alloc;apply rfl;intro nb)|refine Sg.Y3 ?_|(apply S.condQ;apply rfl;all_goals intro _)|fail)
  refine T.call rfl rfl (Z1y h6 (by omega)) ?_
  have hfit:=Z0K (t:=t) (p:=q) (c:=t.getD q 0) h6
  cases hx:Z0G t q (t.getD q 0) with
  | bad e1 q1 =>
   have hc:=Z8O hx
   rw [hx] at h5
   rw [←h5]
   rintro _ _ ⟨rfl,rfl⟩
   repeat' (first|refine Sg.Y3 ?_|(apply S.condQ;apply rfl;all_goals intro _)|fail)
   exact ⟨_,PSub.drop (PSub.drop (PSub.drop (PSub.refl _))),⟨[],rfl⟩,rfl⟩
  | ok a1 u =>
   rw [hx] at h5
   have h5':Z0c t f a1 (acc++(t.drop q).take (a1 - q))=Q:=h5
   obtain ⟨r3,r4⟩:=hfit a1 u hx
   have hl2:((t.drop q).take (a1 - q)).length=a1 - q:=by rw [List.length_take,List.length_drop];omega
   rintro _ _ ⟨rfl,rfl⟩
   repeat' (first|(apply T.appendS;apply rfl;apply rfl;infer_instance;omega;apply rfl;intro na nc)|refine Sg.Y1 ?_|fail)
   refine S.sublist ?_ (PSub.drop (PSub.refl _))
   exact ih _ _ _ _ ⟨a1,f,acc++(t.drop q).take (a1 - q),na,nc,_,rfl,rfl,⟨r4,by omega,by rw [List.length_append],by omega,h5'⟩,rfl⟩ (by omega) (by repeat' first|exact trivial|refine And.intro rfl ?_)
 ·obtain rfl:q=t.length:=by omega
  have h7:Z0c t (f+1) t.length acc=.bad 31 t.length:=by rw [Z0c,List.getElem?_eq_none (Nat.le_refl _)]
  rw [h7] at h5
  rw [←h5,Z0I (by omega)]
  repeat' (first|(apply T.alloc;apply rfl;intro nb)|refine Sg.Y1 ?_|fail)
  refine T.call rfl rfl Zc ?_
  rintro _ _ ⟨rfl,rfl⟩
  repeat' (first|refine Sg.Y2 ?_|fail)
  exact ⟨_,PSub.drop (PSub.drop (PSub.drop (PSub.refl _))),⟨[],rfl⟩,rfl⟩
end
end Go.Proofs.YtjajcmedipjfhaaGreatDoor
/- The walks of the document's reader of JSON: words. -/
namespace Go.Proofs.YtjajcmedipjfhaaGreatDoor
open Sg Go.IntWalk
set_option maxRecDepth 100000
set_option maxHeartbeats 4000000
def VaE (H:List Res):Gt (List Nd)→Ending→List Res→Prop
 | .ok a l=>fun e H'=>∃ oa oc s,e=.returned (.agg ⟨goV a (.slice oa l.length oc) s 0 0⟩)∧H'=ouR oa oc l::H
 | .bad c b=>fun e H'=>∃ s,e=.returned (.agg ⟨goV 0 noL s c b⟩)∧H'=H
section
variable {F:World} {M:List Nat} {H:List Res} {t:List UInt8} {p:Nat}
theorem Z0M {w:List UInt8} {kd:Nat} (hw:∀ x∈w,x≠0) (hwl:w.length≤100) (hp:p≤t.length) (hl:t.length≤262144):Meets Tryz.prog 121 [sV t,.int .i64 p,sV w,.int .i64 kd] F M H (VaE H ((Z0t t p w).bind fun a _=>.ok a [nd kd])):=by
 refine Meets.enter Tryz.func121 rfl rfl ?_
 generalize hQ:Z0t t p w=Q
 repeat' (first|(apply T.alloc;apply rfl;intro nb)|refine Sg.Y1 ?_|fail)
 refine S.loopE 0 [0,1,2,3,8] (fun R b' μ H' e=>∃ i:Nat,H'=R∧e=(9,.int .i64 i)::b'∧(i≤w.length∧p+i≤t.length∧Z0t t (p+i) (w.drop i)=Q)∧μ=w.length - i) rfl rfl ?_ _ _ ⟨0,rfl,rfl,⟨Nat.zero_le _,hp,hQ⟩,rfl⟩ (by repeat' first|exact trivial|refine And.intro rfl ?_)
 rintro _ _ _ ⟨i,rfl,rfl,⟨h1,h2,h3⟩,rfl⟩ ih
 by_cases h4:i < w.length
 ·have hg:w.drop i=w.getD i 0::w.drop (i+1):=by
   rw [List.drop_eq_getElem_cons h4]
   simp [List.getD,h4]
  have hne:w.getD i 0≠0:=by
   rw [List.getD_eq_getElem?_getD,List.getElem?_eq_getElem h4]
   exact hw _ (List.getElem_mem h4)
  have hwu:=(w.getD i 0).toNat_lt
  have hne':(w.getD i 0).toNat≠0:=fun e=>hne (UInt8.toNat_inj.1 e)
  rw [hg,Z4u hne] at h3
  have hu:=Z2k t (p+i)
  have e1:(p:Int)+(i:Int)=((p+i:Nat):Int):=by omega
  have n1:∀ {X:List Res},Meets Tryz.prog 116 [sV t,.int .i64 ((p+i:Nat):Int)] F M X (fun e H'=>e=.returned (.int .i64 (Z2Z t (p+i)))∧H'=X):=Z9
  by_cases h5:bAt t (p+i)=(w.getD i 0).toNat
  ·rw [if_pos h5] at h3
   have hlt:=Zd (t:=t) (p:=p+i) (by rw [h5];exact hne')
   have hb:=Z04 hlt
   repeat' (first|refine Sg.Y3 ?_|(apply S.condQ;apply rfl;all_goals intro _)|fail)
   (apply S.draw;(case Hs=>exact []);(case es=>exact  [4]);(case n=>exact  10);(case hn=>rfl))
   repeat' (first|(apply T.addI;apply rfl;apply rfl;omega;apply rfl;rw [e1])|(apply T.call;apply rfl;apply rfl;with_reducible exact n1;rintro _ _ ⟨rfl,rfl⟩;rw [hb])|(apply SA.qn;(iterate 4 apply rfl);kernel_rfl)|(apply SA.qz;(iterate 4 apply rfl);kernel_rfl)|(apply SA.qsn;(iterate 3 apply rfl);kernel_rfl;(first|exact fun _ h=>h|exact fun _ h=>St.psub h (by ((repeat (first|dsimp only [List.set_cons_zero]|dsimp only [List.set_cons_succ]));repeat' first|exact PSub.refl _|exact PSub.nil|(apply PSub.take;(repeat' first|(with_reducible exact Z0)|(with_reducible apply Z1)))|(with_reducible apply PSub.drop)|((apply PSub.take);(repeat' first|exact Z0|(apply Z1)))))))|(apply SA.done;apply rfl;kernel_rfl)|(apply SK.intro;(first|exact fun _ h=>h|exact fun _ h=>St.psub h (by ((repeat (first|dsimp only [List.set_cons_zero]|dsimp only [List.set_cons_succ]));repeat' first|exact PSub.refl _|exact PSub.nil|(apply PSub.take;(repeat' first|(with_reducible exact Z0)|(with_reducible apply Z1)))|(with_reducible apply PSub.drop)|((apply PSub.take);(repeat' first|exact Z0|(apply Z1)))))))|refine Sg.Y7 ?_|(apply S.condQ;apply rfl;all_goals intro _)|fail)
   exact ih _ _ _ _ ⟨i+1,rfl,rfl,⟨by omega,by omega,h3⟩,rfl⟩ (by omega) (by repeat' first|exact trivial|refine And.intro rfl ?_)
  ·rw [if_neg h5] at h3
   rw [←h3]
   have e2:((p+i:Nat):Int)=(p:Int)+(i:Int):=by omega
   by_cases hlt:p+i < t.length
   ·have hb:=Z04 hlt
    repeat' (first|refine Sg.Y3 ?_|(apply S.condQ;apply rfl;all_goals intro _)|fail)
    (apply S.draw;(case Hs=>exact []);(case es=>exact  [4]);(case n=>exact  10);(case hn=>rfl))
    repeat' (first|(apply T.addI;apply rfl;apply rfl;omega;apply rfl;rw [e1])|(apply T.call;apply rfl;apply rfl;with_reducible exact n1;rintro _ _ ⟨rfl,rfl⟩;rw [hb])|(apply SA.qn;(iterate 4 apply rfl);kernel_rfl)|(apply SA.qz;(iterate 4 apply rfl);kernel_rfl)|(apply SA.qsn;(iterate 3 apply rfl);kernel_rfl;(first|exact fun _ h=>h|exact fun _ h=>St.psub h (by ((repeat (first|dsimp only [List.set_cons_zero]|dsimp only [List.set_cons_succ]));repeat' first|exact PSub.refl _|exact PSub.nil|(apply PSub.take;(repeat' first|(with_reducible exact Z0)|(with_reducible apply Z1)))|(with_reducible apply PSub.drop)|((apply PSub.take);(repeat' first|exact Z0|(apply Z1)))))))|(apply SA.done;apply rfl;kernel_rfl)|(apply SK.intro;(first|exact fun _ h=>h|exact fun _ h=>St.psub h (by ((repeat (first|dsimp only [List.set_cons_zero]|dsimp only [List.set_cons_succ]));repeat' first|exact PSub.refl _|exact PSub.nil|(apply PSub.take;(repeat' first|(with_reducible exact Z0)|(with_reducible apply Z1)))|(with_reducible apply PSub.drop)|((apply PSub.take);(repeat' first|exact Z0|(apply Z1)))))))|refine Sg.Y3 ?_|(apply S.condQ;apply rfl;all_goals intro _)|fail)
    refine T.call rfl rfl Zc ?_
    rintro _ _ ⟨rfl,rfl⟩
    repeat' (first|refine Sg.Y2 ?_|fail)
    exact ⟨_,PSub.drop (PSub.refl _),[],rfl,rfl⟩
   ·have hb:=Z0I hlt
    repeat' (first|refine Sg.Y3 ?_|(apply S.condQ;apply rfl;all_goals intro _)|fail)
    (apply S.draw;(case Hs=>exact []);(case es=>exact  [4]);(case n=>exact  10);(case hn=>rfl))
    repeat' (first|(apply T.addI;apply rfl;apply rfl;omega;apply rfl;rw [e1])|(apply T.call;apply rfl;apply rfl;with_reducible exact n1;rintro _ _ ⟨rfl,rfl⟩;rw [hb])|(apply SA.qn;(iterate 4 apply rfl);kernel_rfl)|(apply SA.qz;(iterate 4 apply rfl);kernel_rfl)|(apply SA.qsn;(iterate 3 apply rfl);kernel_rfl;(first|exact fun _ h=>h|exact fun _ h=>St.psub h (by ((repeat (first|dsimp only [List.set_cons_zero]|dsimp only [List.set_cons_succ]));repeat' first|exact PSub.refl _|exact PSub.nil|(apply PSub.take;(repeat' first|(with_reducible exact Z0)|(with_reducible apply Z1)))|(with_reducible apply PSub.drop)|((apply PSub.take);(repeat' first|exact Z0|(apply Z1)))))))|(apply SA.done;apply rfl;kernel_rfl)|(apply SK.intro;(first|exact fun _ h=>h|exact fun _ h=>St.psub h (by ((repeat (first|dsimp only [List.set_cons_zero]|dsimp only [List.set_cons_succ]));repeat' first|exact PSub.refl _|exact PSub.nil|(apply PSub.take;(repeat' first|(with_reducible exact Z0)|(with_reducible apply Z1)))|(with_reducible apply PSub.drop)|((apply PSub.take);(repeat' first|exact Z0|(apply Z1)))))))|refine Sg.Y3 ?_|(apply S.condQ;apply rfl;all_goals intro _)|fail)
    refine T.call rfl rfl Zc ?_
    rintro _ _ ⟨rfl,rfl⟩
    repeat' (first|refine Sg.Y2 ?_|fail)
    exact ⟨_,PSub.drop (PSub.refl _),[],rfl,rfl⟩
 ·obtain rfl:i=w.length:=by omega
  rw [List.drop_length,Z0t] at h3
  rw [←h3]
  have e1:(p:Int)+(w.length:Int)=((p+w.length:Nat):Int):=by omega
  repeat' (first|(apply T.addI;apply rfl;apply rfl;omega;apply rfl;rw [e1])|(refine Sr.rowOfN (n:=1) (sz:=6) rfl (by decide) ?_)|(apply T.bsL;(iterate 5 apply rfl);intro nb)|refine Sg.Y3 ?_|(apply S.condQ;apply rfl;all_goals intro _)|fail)
  exact ⟨_,PSub.take Z0 (PSub.drop (PSub.refl _)),_,_,[],rfl,rfl⟩
end
end Go.Proofs.YtjajcmedipjfhaaGreatDoor
/- Numbers of JSON texts, in plain Lean: by places in the text. -/
namespace Sg
def Z6A (t:List UInt8) (p:Nat):Option (Nat × Bool):=if bAt t p=46 then (if Zt t (p+1)=p+1 then none else some (Zt t (p+1),false)) else some (p,true)
def Z2x (t:List UInt8) (p:Nat):Nat:=if bAt t p=43∨bAt t p=45 then p+1 else p
def expR (t:List UInt8) (p:Nat):Option (Nat × Bool):=if bAt t p=101∨bAt t p=69 then (if Zt t (Z2x t (p+1))=Z2x t (p+1) then none else some (Zt t (Z2x t (p+1)),false)) else some (p,true)
def minR (t:List UInt8):Nat:=if bAt t 0=45 then 1 else 0
def numR (t:List UInt8):Option (Bool × List UInt8 × Bool) :=
 if Zt t (minR t)=minR t∨(bAt t (minR t)=48∧minR t+1 < Zt t (minR t)) then none else
 match Z6A t (Zt t (minR t)) with
 | none=>none
 | some (b,p1)=>match expR t b with
  | none=>none
  | some (e,p2)=>if e=t.length then some (decide (bAt t 0=45),sl t (minR t) (Zt t (minR t)),p1&&p2) else none
theorem Z0r (t:List UInt8) (p k:Nat):bAt (t.drop p) k=bAt t (p+k):=by
 unfold bAt
 simp only [List.getD,List.getElem?_drop]
theorem Z8x {t:List UInt8} {p:Nat} {c:UInt8} (hc:c≠0):cutP c (t.drop p)=if bAt t p=c.toNat then (t.drop (p+1),true) else (t.drop p,false):=by
 rcases Nat.lt_or_ge p t.length with h|h
 ·have h1:t.drop p=t[p]::t.drop (p+1):=List.drop_eq_getElem_cons h
  have h2:bAt t p=t[p].toNat:=Z2j (List.getElem?_eq_getElem h)
  rw [h1,h2]
  unfold cutP
  simp only
  by_cases h3:t[p]=c
  ·rw [if_pos h3,if_pos (by rw [h3])]
  ·rw [if_neg h3,if_neg (fun h4=>h3 (UInt8.toNat_inj.1 h4))]
 ·rw [List.drop_eq_nil_of_le h,Z14 h,if_neg (fun h1=>hc (UInt8.toNat_inj.1 h1.symm))]
  rfl
theorem Z1V (t:List UInt8) (p:Nat):runD (t.drop p)=Zt t p - p:=by
 unfold runD Zt
 omega
theorem Z8t (t:List UInt8) (p:Nat):(t.drop p).drop (runD (t.drop p))=t.drop (Zt t p):=by
 rw [List.drop_drop]
 rfl
theorem Z9L (t:List UInt8) (p:Nat):Z2y (t.drop p)=t.drop (Z2x t p):=by
 unfold Z2x
 rcases Nat.lt_or_ge p t.length with h|h
 ·have h1:t.drop p=t[p]::t.drop (p+1):=List.drop_eq_getElem_cons h
  have h2:bAt t p=t[p].toNat:=Z2j (List.getElem?_eq_getElem h)
  rw [h1,h2]
  unfold Z2y
  simp only
  by_cases h3:t[p]=43∨t[p]=45
  ·rw [if_pos h3,if_pos (h3.imp (fun h=>by rw [h];rfl) (fun h=>by rw [h];rfl))]
  ·rw [if_neg h3,if_neg (fun h4=>h3 (h4.imp (fun h=>UInt8.toNat_inj.1 h) (fun h=>UInt8.toNat_inj.1 h))),h1]
 ·rw [List.drop_eq_nil_of_le h,Z14 h,if_neg (by omega),List.drop_eq_nil_of_le h]
  rfl
theorem Z7V {t:List UInt8} {p:Nat} (h:p≤t.length):p≤Z2x t p∧Z2x t p≤t.length:=by
 unfold Z2x
 split
 ·rename_i h1
  have:=Zd (t:=t) (p:=p) (by omega)
  omega
 ·omega
theorem Z27 {t:List UInt8} {p:Nat} (h:p≤t.length):p≤Zt t p∧Zt t p≤t.length:=⟨Z5M t p,ZaN h⟩
theorem ZaC {t:List UInt8} {p:Nat} (h:p≤t.length):Z7t (t.drop p)=(Z6A t p).map fun x=>(t.drop x.1,x.2):=by
 unfold Z7t Z6A
 rw [Z8x (by decide)]
 by_cases h1:bAt t p=46
 ·have h2:=Z5M t (p+1)
  rw [if_pos (show bAt t p=(46:UInt8).toNat from h1),if_pos h1,if_pos rfl]
  simp only
  rw [Z1V]
  by_cases h3:Zt t (p+1)=p+1
  ·rw [if_pos (by omega),if_pos h3]
   rfl
  ·rw [if_neg (by omega),if_neg h3]
   have:=Z8t t (p+1)
   rw [Z1V] at this
   rw [this]
   rfl
 ·rw [if_neg (show ¬bAt t p=(46:UInt8).toNat from h1),if_neg h1,if_neg (by simp)]
  rfl
theorem ZbN {t:List UInt8} {p:Nat} (h:p≤t.length):expP (t.drop p)=match expR t p with
  | none=>none
  | some (e,p2)=>if p2=true then some (t.drop p,true) else if e=t.length then some ([],false) else none:=by
 unfold expR
 by_cases h1:bAt t p=101∨bAt t p=69
 ·have h0:=Zd (t:=t) (p:=p) (by omega)
  have h2:t.drop p=t[p]::t.drop (p+1):=List.drop_eq_getElem_cons h0
  have h3:bAt t p=t[p].toNat:=Z2j (List.getElem?_eq_getElem h0)
  have h4:t[p]=101∨t[p]=69:=by
   rw [h3] at h1
   exact h1.imp (fun h=>UInt8.toNat_inj.1 h) (fun h=>UInt8.toNat_inj.1 h)
  obtain ⟨h5,h6⟩:=Z7V (t:=t) (p:=p+1) h0
  obtain ⟨h7,h8⟩:=Z27 h6
  rw [if_pos h1,h2]
  unfold expP
  simp only
  rw [if_pos h4,Z9L,Z1V,List.length_drop]
  by_cases h9:Zt t (Z2x t (p+1))=Z2x t (p+1)
  ·rw [if_pos h9]
   simp only
   by_cases h10:Z2x t (p+1)=t.length
   ·rw [if_pos (.inl (List.drop_eq_nil_of_le (by omega)))]
   ·rw [if_pos (.inr (by omega))]
  ·rw [if_neg h9]
   simp only [Bool.false_eq_true,if_false]
   by_cases h10:Zt t (Z2x t (p+1))=t.length
   ·rw [if_pos h10,if_neg]
    rintro (h11|h11)
    ·have:=List.drop_eq_nil_iff.1 h11
     omega
    ·omega
   ·rw [if_neg h10,if_pos (.inr (by omega))]
 ·rw [if_neg h1]
  simp only [if_true]
  rcases Nat.lt_or_ge p t.length with h0|h0
  ·have h2:t.drop p=t[p]::t.drop (p+1):=List.drop_eq_getElem_cons h0
   have h3:bAt t p=t[p].toNat:=Z2j (List.getElem?_eq_getElem h0)
   rw [h2]
   unfold expP
   simp only
   rw [if_neg (fun h4=>h1 (h4.imp (fun h=>by rw [h3,h];rfl) (fun h=>by rw [h3,h];rfl)))]
  ·rw [List.drop_eq_nil_of_le h0]
   rfl
theorem ZbH {t:List UInt8} {p b:Nat} {x:Bool} (h:p≤t.length) (hf:Z6A t p=some (b,x)):b≤t.length∧p≤b:=by
 unfold Z6A at hf
 split at hf
 ·rename_i h1
  have:=Zd (t:=t) (p:=p) (by omega)
  have:=Z27 (t:=t) (p:=p+1) (by omega)
  split at hf
  ·cases hf
  ·cases hf
   omega
 ·cases hf
  omega
theorem Zao (t:List UInt8):minR t≤t.length:=by
 unfold minR
 split
 ·rename_i h
  have:=Zd (t:=t) (p:=0) (by omega)
  omega
 ·omega
theorem Zd9 (t:List UInt8):cutP 45 t=(t.drop (minR t),decide (bAt t 0=45)):=by
 have:=Z8x (t:=t) (p:=0) (c:=45) (by decide)
 rw [List.drop_zero] at this
 rw [this]
 unfold minR
 by_cases h:bAt t 0=45
 ·rw [if_pos (show bAt t 0=(45:UInt8).toNat from h),if_pos h,decide_eq_true h]
 ·rw [if_neg (show ¬bAt t 0=(45:UInt8).toNat from h),if_neg h,decide_eq_false h]
  rfl
theorem Zae (t:List UInt8):numP t=numR t:=by
 have hm:=Zao t
 obtain ⟨hd1,hd2⟩:=Z27 hm
 unfold numP numR
 rw [Zd9]
 simp only
 have hb:Z2G (t.drop (minR t))=true↔(Zt t (minR t)=minR t∨(bAt t (minR t)=48∧minR t+1 < Zt t (minR t))):=by
  unfold Z2G
  rw [Z1V,Z0r]
  simp only [Nat.add_zero,Bool.or_eq_true,Bool.and_eq_true,decide_eq_true_eq]
  omega
 by_cases h1:Zt t (minR t)=minR t∨(bAt t (minR t)=48∧minR t+1 < Zt t (minR t))
 ·rw [if_pos (hb.2 h1),if_pos h1]
 ·rw [if_neg (fun h=>h1 (hb.1 h)),if_neg h1,Z8t,ZaC hd2]
  have hsl:(t.drop (minR t)).take (runD (t.drop (minR t)))=sl t (minR t) (Zt t (minR t)):=by
   unfold sl
   rw [Z1V]
  cases hf:Z6A t (Zt t (minR t)) with
  | none=>rfl
  | some y =>
   obtain ⟨b,p1⟩:=y
   obtain ⟨hb2,-⟩:=ZbH hd2 hf
   simp only [Option.map_some]
   rw [ZbN hb2]
   cases he:expR t b with
   | none=>rfl
   | some z =>
    obtain ⟨e,p2⟩:=z
    simp only
    cases p2 with
    | true =>
     rw [if_pos rfl]
     have:e=b:=by
      unfold expR at he
      split at he
      ·split at he<;>cases he
      ·cases he;rfl
     subst this
     simp only
     rw [hsl]
     by_cases h3:e=t.length
     ·rw [if_pos h3,if_pos (List.drop_eq_nil_of_le (by omega))]
     ·rw [if_neg h3,if_neg (fun h4=>by have:=List.drop_eq_nil_iff.1 h4;omega)]
    | false =>
     rw [if_neg (by simp)]
     by_cases h3:e=t.length
     ·rw [if_pos h3,if_pos h3]
      simp only
      rw [if_pos trivial,hsl]
     ·rw [if_neg h3,if_neg h3]
end Sg
/- The walks of the document's numbers: read. -/
namespace Go.Proofs.YtjajcmedipjfhaaGreatDoor
open Sg Go.IntWalk
set_option maxRecDepth 100000
set_option maxHeartbeats 4000000
section
variable {F:World} {M:List Nat} {H:List Res} {t:List UInt8} {p:Nat}
theorem Z5u:Meets Tryz.prog 180 [sV t,.int .i64 p] F M H (fun e H'=>e=.returned (.bool (decide (48≤bAt t p∧bAt t p≤57)))∧H'=H):=by
 refine Meets.enter Tryz.func180 rfl rfl ?_
 by_cases hp:p < t.length
 ·have hb:(t.getD p 0).toNat=bAt t p:=rfl
  by_cases hd:48≤(t.getD p 0).toNat
  ·have e:decide (48≤bAt t p∧bAt t p≤57)=decide ((((t.getD p 0).toNat:Nat):Int)≤57):=by rw [decide_eq_decide];omega
   rw [e]
   repeat' (first|refine Sg.Y3 ?_|(apply T.gcase;apply rfl;apply rfl;all_goals intro _)|fail)
   exact ⟨_,PSub.refl _,rfl,rfl⟩
  ·have e:decide (48≤bAt t p∧bAt t p≤57)=false:=decide_eq_false (by omega)
   rw [e]
   repeat' (first|refine Sg.Y3 ?_|(apply T.gcase;apply rfl;apply rfl;all_goals intro _)|fail)
   exact ⟨_,PSub.refl _,rfl,rfl⟩
 ·have hb:=Z14 (t:=t) (p:=p) (by omega)
  rw [decide_eq_false (by omega)]
  repeat' (first|refine Sg.Y3 ?_|(apply T.gcase;apply rfl;apply rfl;all_goals intro _)|fail)
  exact ⟨_,PSub.refl _,rfl,rfl⟩
theorem Z1E (hp:p≤t.length) (hl:t.length≤1000000000):Meets Tryz.prog 169 [sV t,.int .i64 p] F M H (fun e H'=>e=.returned (.int .i64 (Zt t p:Nat))∧H'=H):=by
 refine Meets.enter Tryz.func169 rfl rfl ?_
 repeat' (first|refine Sg.Y1 ?_|fail)
 refine S.loopE 0 [0] (fun R b' μ H' e=>∃ q:Nat,H'=R∧e=(1,.int .i64 q)::b'∧(q≤t.length∧Zt t p=Zt t q)∧μ=t.length - q) rfl rfl ?_ _ _ ⟨p,rfl,rfl,⟨hp,rfl⟩,rfl⟩ (by repeat' first|exact trivial|refine And.intro rfl ?_)
 rintro _ _ _ ⟨q,rfl,rfl,⟨h1,h2⟩,rfl⟩ ih
 repeat' (first|refine Sg.Y1 ?_|fail)
 refine T.call rfl rfl Z5u ?_
 rintro _ _ ⟨rfl,rfl⟩
 by_cases h3:48≤bAt t q∧bAt t q≤57
 ·have h4:=Zd (t:=t) (p:=q) (by omega)
  have h5:=Z1N h3
  rw [decide_eq_true h3]
  repeat' (first|refine Sg.Y1 ?_|fail)
  exact ih _ _ _ _ ⟨q+1,rfl,rfl,⟨by omega,h2.trans h5⟩,rfl⟩ (by omega) (by repeat' first|exact trivial|refine And.intro rfl ?_)
 ·have h5:=Z28 h3
  rw [decide_eq_false h3]
  repeat' (first|refine Sg.Y1 ?_|fail)
  rw [h2,h5]
  exact ⟨_,PSub.refl _,rfl,rfl⟩
end
end Go.Proofs.YtjajcmedipjfhaaGreatDoor
