/- Texts put together by a program: JsnW JsnX JsnY RowN NodA NodB NodC RevA ShlV. -/
import Derived.Test.YtophlopiigpbgaaGreatDoorMf
import Derived.Test.YtophlopiigpbgaaGreatDoorMb
import Derived.Test.YtophlopiigpbgaaGreatDoorMa
import Derived.Test.YtophlopiigpbgaaGreatDoorMc
import Derived.Shelf.Unicode.ValidAny
import Derived.Test.YtophlopiigpbgaaGreatDoorProg
set_option linter.unusedVariables false
set_option linter.unusedSimpArgs false
/- The walks of the program's reader of JSON: names and what stands behind an item, as steps. -/
namespace Go.Proofs.YtophlopiigpbgaaGreatDoor
open Sg Go.IntWalk
set_option maxRecDepth 100000
set_option maxHeartbeats 4000000
section
variable {F:World} {M:List Nat} {H:List Res} {p:Nat} {t:List UInt8} {C:Jc} {c:Cf}
theorem Za1 (hT:Tabs F M) {i:Nat} {y:Nat × Ents} {r:Stk} (ha:C.a < t.length) (hr:Rel C c) (hi:Inv t C) (hl:t.length≤262144) (hst:C.st=(i,some y)::r) :
  Meets Tryz.prog 66 [.pointer (some ⟨p,0,none⟩)] F M (C.res p t H) (StepP p t H (namC t c 34)):=by
 obtain ⟨oa,oc,na,nc,ma,mc,out,st,a,s,k⟩:=C
 obtain ⟨mb,m⟩:=y
 simp only at hst
 subst hst
 have hs:=hr.stk
 obtain ⟨cp,cs,co,ck,ckey⟩:=c
 cases ck with
 | nil=>exact hs.elim
 | cons z q =>
  obtain ⟨zi,zo⟩:=z
  cases zo with
  | none=>exact hs.2.1.elim
  | some ns =>
   have hcp:=hr.p
   have hout:=hr.out
   simp only at hcp ha hout
   subst hcp
   subst hout
   have hns:∀ x,eget m x=if x∈ns then some 1 else none:=hs.2.1
   have hd:=hi.dep
   simp only [List.length_cons] at hd
   have hmm:=hi.maps (i,some (mb,m)) (List.mem_cons_self ..) _ rfl
   simp only at hmm
   have hat:=hi.at_
   have hol:=hi.outl
   simp only at hat hol
   have h:=Za2 (F:=F) (M:=M) (H:=ZC r H) (p:=p) (t:=t) (o:=.slice oa out.length oc) (n:=.slice na (r.length+1) nc) (a:=a) (s:=s) (k:=k) (c:=0) (b:=0) (Ho:=ouR oa oc out) (Hn:=opS na nc ((i,some (mb,m))::r)) (ma:=ma) (mc:=mc) (i:=i) (mb:=mb) (m:=m) (r:=r) hT ha hl (by omega) (by omega)
   have hsub:PSub H (ouR oa oc out::opS na nc ((i,some (mb,m))::r)::nmR ma mc ((i,some (mb,m))::r)::mpR mb m::ZC r H):=PSub.drop (PSub.drop (PSub.drop (PSub.drop (Z08 H r))))
   unfold namC
   rw [if_pos rfl]
   refine Meets.of_st h ?_
   clear h
   have hfit:=ZP (t:=t) (p:=a+1) (by omega)
   cases hx:ZL t (a+1) with
   | bad c1 q1 =>
    rintro e H' w ⟨a',rfl,rfl⟩ hw
    exact ⟨_,⟨_,.slice na (r.length+1) nc,.slice ma (r.length+1) mc,a',s,k,rfl,rfl⟩,hw.psub (PSub.take Z0 hsub)⟩
   | ok a' x =>
    obtain ⟨f1,f2⟩:=hfit a' x hx
    simp only
    by_cases hxn:x∈ns
    ·have hg:0 < (eget m x).getD 0:=by rw [hns,if_pos hxn];decide
     rw [if_pos hg,if_pos hxn]
     rintro e H' w ⟨rfl,rfl⟩ hw
     exact ⟨_,⟨_,.slice na (r.length+1) nc,.slice ma (r.length+1) mc,a',s,k,rfl,rfl⟩,hw.psub (PSub.take Z0 hsub)⟩
    ·have hg:¬0 < (eget m x).getD 0:=by rw [hns,if_neg hxn];decide
     rw [if_neg hg,if_neg hxn]
     rintro e H' w ⟨rfl,rfl⟩ hw
     refine ⟨_,⟨⟨oa,oc,na,nc,ma,mc,out,(i,some (mb,eput m x 1))::r,a',4,x⟩,rfl,rfl,⟨rfl,rfl,rfl,rfl,hs.1,?_,hs.2.2⟩,⟨f2,?_,hi.kids,?_,?_,?_,hi.dep⟩⟩,hw⟩
     ·intro x'
      rw [Z1u]
      by_cases hxx:x=x'
      ·rw [if_pos hxx,if_pos (by rw [hxx];exact List.mem_cons_self ..)]
      ·rw [if_neg hxx,hns]
       by_cases hm:x'∈ns
       ·rw [if_pos hm,if_pos (List.mem_cons_of_mem _ hm)]
       ·rw [if_neg hm,if_neg (by rw [List.mem_cons];exact fun hh=>hh.elim (fun e=>hxx e.symm) hm)]
     ·show out.length≤a'
      omega
     ·intro z hz
      rcases List.mem_cons.1 hz with rfl|hz
      ·exact hi.idx (i,some (mb,m)) (List.mem_cons_self ..)
      ·exact hi.idx z (List.mem_cons_of_mem _ hz)
     ·intro z hz
      rcases List.mem_cons.1 hz with rfl|hz
      ·exact hi.kind (i,some (mb,m)) (List.mem_cons_self ..)
      ·exact hi.kind z (List.mem_cons_of_mem _ hz)
     ·intro z hz y hy
      rcases List.mem_cons.1 hz with rfl|hz
      ·cases hy
       have:=Z0O m x 1
       show (eput m x 1).length≤a'
       omega
      ·have:=hi.maps z (List.mem_cons_of_mem _ hz) y hy
       simp only at this
       show y.2.length≤a'
       omega
theorem Z9t (hr:Rel C c) (hi:Inv t C) (ha:C.a < t.length) (s':Nat):StepP p t H (.go { c with p:=c.p+1,s:=s' }) (.returned (.bool true)) (({ C with a:=C.a+1,s:=s' }:Jc).res p t H):=by
 refine ⟨_,rfl,rfl,⟨?_,rfl,hr.out,hr.key,hr.stk⟩,⟨?_,?_,hi.kids,hi.idx,hi.kind,fun z hz y hy=>?_,hi.dep⟩⟩
 ·show C.a+1=c.p+1
  rw [hr.p]
 ·show C.a+1≤t.length
  omega
 ·have:=hi.outl
  show C.out.length≤C.a+1
  omega
 ·have:=hi.maps z hz y hy
  show y.2.length≤C.a+1
  omega
theorem Z7U (hr:Rel C c):∀ {e:Ending} {H':List Res},(e=.returned (.bool false)∧H'=.blk p (C.cells t 31 C.a) 86::ouR C.oa C.oc C.out::opS C.na C.nc C.st::nmR C.ma C.mc C.st::ZC C.st H)→∃ H'',PSub H'' H'∧StepP p t H (.stop 31 c.p) e H'':=by
 rintro _ _ ⟨rfl,rfl⟩
 refine ⟨_,PSub.take Z0 (PSub.drop (PSub.drop (PSub.drop (Z08 H C.st)))),.slice C.oa C.out.length C.oc,.slice C.na C.st.length C.nc,.slice C.ma C.st.length C.mc,C.a,C.s,C.k,rfl,?_⟩
 rw [←hr.p]
 rfl
theorem Za4 {ch:UInt8} {x:Nat × Option (Nat × Ents)} {r:Stk} (ha:C.a < t.length) (hr:Rel C c) (hi:Inv t C) (hl:t.length≤262144) (hst:C.st=x::r) :
  Meets Tryz.prog 67 [.pointer (some ⟨p,0,none⟩),.int .u8 (ch.toNat:Nat)] F M (C.res p t H) (StepP p t H (morC c ch)):=by
 have hu:=ch.toNat_lt
 have e1:∀ n:UInt8,(ch=n)↔(ch.toNat=n.toNat):=fun n=>UInt8.toNat_inj.symm
 have hend:=Z8d (F:=F) (M:=M) (p:=p) (H:=H) ha hr hi hl (by rw [hst];exact List.cons_ne_nil _ _)
 have hon:=fun s'=>Z9t (p:=p) (H:=H) hr hi ha s'
 have hodd:=fun e H'=>Z7U (p:=p) (t:=t) (H:=H) hr (e:=e) (H':=H')
 have hat:=hi.at_
 have hol:=hi.outl
 have hd:=hi.dep
 have hix:=hi.idx x (by rw [hst];exact List.mem_cons_self ..)
 have hkk:=hi.kind x (by rw [hst];exact List.mem_cons_self ..)
 have hlen:C.st.length=r.length+1:=by rw [hst];rfl
 have htop:(upL inV (C.st.map (·.1)))[r.length]?=some (inV x.1):=by
  rw [hst]
  have:=Z6I inV x.1 (r.map (·.1))
  rw [List.length_map] at this
  exact this
 have hupl:(upL inV (C.st.map (·.1))).length=C.st.length:=by rw [Z6J,List.length_map]
 have hobj:Z1A c.stk=x.2.isSome:=by
  have hs:=hr.stk
  rw [hst] at hs
  cases hck:c.stk with
  | nil=>rw [hck] at hs;exact hs.elim
  | cons z q =>
   rw [hck] at hs
   obtain ⟨zi,zo⟩:=z
   obtain ⟨xi,xo⟩:=x
   cases zo<;>cases xo
   ·rfl
   ·exact hs.2.1.elim
   ·exact hs.2.1.elim
   ·rfl
 have hget:C.out[x.1]?=some (C.out.getD x.1 default):=Zf hix
 have e2:((C.st.length:Nat):Int) - 1=((r.length:Nat):Int):=by omega
 have key:∀ (obj:Bool),x.2.isSome=obj→Meets Tryz.prog 67 [.pointer (some ⟨p,0,none⟩),.int .u8 (ch.toNat:Nat)] F M (C.res p t H) (StepP p t H (if ch.toNat=44 then .go { c with p:=c.p+1,s:=if obj then 2 else 0 } else if ch.toNat=(if obj then 125 else 93) then .go (endC c) else .stop 31 c.p)):=by
  intro obj ho
  rw [ho] at hkk
  refine Meets.enter Tryz.func67 rfl rfl ?_
  have hen2:=hend
  unfold Jc.res Jc.cells at hon ⊢
  unfold Jc.cells at hodd
  unfold Jc.res Jc.cells at hen2
  cases obj with
  | true =>
   simp only [if_true] at hkk ⊢
   by_cases h44:ch.toNat=44
   ·rw [if_pos h44]
    repeat' (first|(apply T.subI;apply rfl;apply rfl;omega;apply rfl;rw [e2])|(apply T.loadE;apply rfl;apply rfl;infer_instance;exact htop;apply rfl)|refine Sg.Y8 ?_|(apply S.condQ;apply rfl;all_goals intro _)|(apply T.gcase;apply rfl;apply rfl;all_goals intro _)|fail)
    exact ⟨_,PSub.refl _,hon 2⟩
   ·rw [if_neg h44]
    by_cases h125:ch.toNat=125
    ·rw [if_pos h125]
     repeat' (first|(apply T.subI;apply rfl;apply rfl;omega;apply rfl;rw [e2])|(apply T.loadE;apply rfl;apply rfl;infer_instance;exact htop;apply rfl)|refine Sg.Y8 ?_|(apply S.condQ;apply rfl;all_goals intro _)|(apply T.gcase;apply rfl;apply rfl;all_goals intro _)|fail)
     refine T.call rfl rfl hen2 ?_
     intro e H' hS
     obtain ⟨v,rfl⟩:=hS.bool
     repeat' (first|refine Sg.Y10 ?_|fail)
     exact ⟨_,PSub.refl _,hS⟩
    ·rw [if_neg h125]
     repeat' (first|(apply T.subI;apply rfl;apply rfl;omega;apply rfl;rw [e2])|(apply T.loadE;apply rfl;apply rfl;infer_instance;exact htop;apply rfl)|refine Sg.Y8 ?_|(apply S.condQ;apply rfl;all_goals intro _)|(apply T.gcase;apply rfl;apply rfl;all_goals intro _)|fail)
     all_goals
      refine T.call rfl rfl ZK ?_
      rintro _ _ ⟨rfl,rfl⟩
      repeat' (first|refine Sg.Y10 ?_|fail)
      exact hodd _ _ ⟨rfl,rfl⟩
  | false =>
   simp only [if_false,Bool.false_eq_true] at hkk ⊢
   have hk7:¬(C.out.getD x.1 default).kind=7:=by omega
   by_cases h44:ch.toNat=44
   ·rw [if_pos h44]
    repeat' (first|(apply T.subI;apply rfl;apply rfl;omega;apply rfl;rw [e2])|(apply T.loadE;apply rfl;apply rfl;infer_instance;exact htop;apply rfl)|refine Sg.Y8 ?_|(apply S.condQ;apply rfl;all_goals intro _)|(apply T.gcase;apply rfl;apply rfl;all_goals intro _)|fail)
    exact ⟨_,PSub.refl _,hon 0⟩
   ·rw [if_neg h44]
    by_cases h93:ch.toNat=93
    ·rw [if_pos h93]
     repeat' (first|(apply T.subI;apply rfl;apply rfl;omega;apply rfl;rw [e2])|(apply T.loadE;apply rfl;apply rfl;infer_instance;exact htop;apply rfl)|refine Sg.Y8 ?_|(apply S.condQ;apply rfl;all_goals intro _)|(apply T.gcase;apply rfl;apply rfl;all_goals intro _)|fail)
     refine T.call rfl rfl hen2 ?_
     intro e H' hS
     obtain ⟨v,rfl⟩:=hS.bool
     repeat' (first|refine Sg.Y10 ?_|fail)
     exact ⟨_,PSub.refl _,hS⟩
    ·rw [if_neg h93]
     repeat' (first|(apply T.subI;apply rfl;apply rfl;omega;apply rfl;rw [e2])|(apply T.loadE;apply rfl;apply rfl;infer_instance;exact htop;apply rfl)|refine Sg.Y8 ?_|(apply S.condQ;apply rfl;all_goals intro _)|(apply T.gcase;apply rfl;apply rfl;all_goals intro _)|fail)
     all_goals
      refine T.call rfl rfl ZK ?_
      rintro _ _ ⟨rfl,rfl⟩
      repeat' (first|refine Sg.Y10 ?_|fail)
      exact hodd _ _ ⟨rfl,rfl⟩
 have hmc:morC c ch=if ch.toNat=44 then .go { c with p:=c.p+1,s:=if x.2.isSome then 2 else 0 } else if ch.toNat=(if x.2.isSome then 125 else 93) then .go (endC c) else .stop 31 c.p:=by
  unfold morC
  rw [hobj]
  by_cases h44:ch.toNat=44
  ·rw [if_pos h44,if_pos ((e1 44).2 h44)]
  ·rw [if_neg h44,if_neg (fun hh=>h44 ((e1 44).1 hh))]
   cases x.2.isSome with
   | true =>
    simp only [if_true]
    by_cases h:ch.toNat=125
    ·rw [if_pos h,if_pos ((e1 125).2 h)]
    ·rw [if_neg h,if_neg (fun hh=>h ((e1 125).1 hh))]
   | false =>
    simp only [if_false,Bool.false_eq_true]
    by_cases h:ch.toNat=93
    ·rw [if_pos h,if_pos ((e1 93).2 h)]
    ·rw [if_neg h,if_neg (fun hh=>h ((e1 93).1 hh))]
 rw [hmc]
 exact key _ rfl
end
end Go.Proofs.YtophlopiigpbgaaGreatDoor
/- The walks of the program's reader of JSON: a step. -/
namespace Sg
structure GoodC (c:Cf):Prop where
 one:c.s=1∨c.s=3∨c.s=5→c.stk≠[]
 top:c.s=2∨c.s=3→Z1A c.stk=true
 le:c.s≤6
section
variable {wh:List UInt8→Int × Bool} {t:List UInt8} {c c':Cf} {ch:UInt8}
theorem GoodC.behind (c:Cf):GoodC c.behind:=by
 unfold Cf.behind
 cases h:c.stk with
 | nil=>exact ⟨fun h=>by simp only [behS] at h;omega,fun h=>by simp only [behS] at h;omega,Nat.le_refl _⟩
 | cons a r=>exact ⟨fun _=>List.cons_ne_nil _ _,fun h=>by simp only [behS] at h;omega,(by decide:5≤6)⟩
theorem Zdn (h:begC c ch=.go c'):GoodC c'∧c'.p=c.p+1:=by
 unfold begC at h
 split at h
 ·cases h
 ·cases h
  refine ⟨⟨fun _=>List.cons_ne_nil _ _,fun h=>?_,?_⟩,rfl⟩
  ·by_cases h1:ch=123
   ·simp only [h1,if_true]
    rfl
   ·simp only [h1,if_false] at h
    omega
  ·show (if ch=123 then 3 else 1)≤6
   split<;>decide
theorem Z9k (hp:c.p < t.length) (h:valC wh t c ch=.go c'):GoodC c'∧c.p < c'.p:=by
 unfold valC at h
 split at h
 ·have:=Zdn h
  exact ⟨this.1,by omega⟩
 ·have hfit:=Z0H (wh:=wh) (c:=ch) hp
  cases hx:ZT wh t c.p ch with
  | bad e a=>rw [hx] at h;cases h
  | ok a l =>
   rw [hx] at h
   cases h
   have:=hfit a l hx
   exact ⟨GoodC.behind _,show c.p < a by omega⟩
theorem Za3 (hp:c.p < t.length) (h:namC t c ch=.go c'):GoodC c'∧c.p < c'.p:=by
 unfold namC at h
 split at h
 ·have hfit:=ZP (t:=t) (p:=c.p+1) (by omega)
  cases hx:ZL t (c.p+1) with
  | bad e a=>rw [hx] at h;cases h
  | ok a s =>
   rw [hx] at h
   simp only at h
   have:=hfit a s hx
   split at h
   ·split at h
    ·cases h
    ·cases h
     exact ⟨⟨fun h=>by simp only at h;omega,fun h=>by simp only at h;omega,(by decide:4≤6)⟩,show c.p < a by omega⟩
   ·cases h
 ·cases h
theorem Z5z:GoodC (endC c)∧c.p < (endC c).p:=⟨GoodC.behind _,Nat.lt_succ_self _⟩
theorem Zb5 (hp:c.p < t.length) (h:Z2s wh t c ch=.go c'):GoodC c'∧c.p < c'.p:=by
 unfold Z2s at h
 split at h
 ·exact Z9k hp h
 ·split at h
  ·cases h
   exact Z5z
  ·exact Z9k hp h
 ·exact Za3 hp h
 ·split at h
  ·cases h
   exact Z5z
  ·exact Za3 hp h
 ·split at h
  ·cases h
   exact ⟨⟨fun h=>by simp only at h;omega,fun h=>by simp only at h;omega,(by decide:0≤6)⟩,Nat.lt_succ_self _⟩
  ·cases h
 ·unfold morC at h
  by_cases hb:Z1A c.stk=true
  ·simp only [hb,if_true] at h
   split at h
   ·cases h
    exact ⟨⟨fun h=>by simp only at h;omega,fun _=>hb,(by decide:2≤6)⟩,Nat.lt_succ_self _⟩
   ·split at h
    ·cases h
     exact Z5z
    ·cases h
  ·have hbf:Z1A c.stk=false:=by simpa using hb
   by_cases h44:ch=44
   ·rw [if_pos h44] at h
    cases h
    exact ⟨⟨fun h=>by simp [hbf] at h,fun h=>by simp [hbf] at h,by simp [hbf]⟩,Nat.lt_succ_self _⟩
   ·rw [if_neg h44,hbf] at h
    by_cases h93:ch=93
    ·rw [if_pos (by simpa using h93)] at h
     cases h
     exact Z5z
    ·rw [if_neg (by simpa using h93)] at h
     cases h
 ·cases h
theorem Z6b {f:Nat}:mach wh t f { c with p:=Z4 t c.p }=mach wh t f c:=by
 cases f with
 | zero=>rfl
 | succ f=>simp only [mach,Zr]
end
end Sg
namespace Go.Proofs.YtophlopiigpbgaaGreatDoor
open Sg Go.IntWalk
set_option maxRecDepth 100000
set_option maxHeartbeats 4000000
section
variable {F:World} {M:List Nat} {H:List Res} {p:Nat} {t:List UInt8} {C:Jc} {c:Cf}
theorem Zcy (hr:Rel C c) (h:Z1A c.stk=true):∃ i y r,C.st=(i,some y)::r:=by
 have hs:=hr.stk
 cases hck:c.stk with
 | nil=>rw [hck] at h;cases h
 | cons z q =>
  rw [hck] at hs h
  obtain ⟨zi,zo⟩:=z
  cases hC:C.st with
  | nil=>rw [hC] at hs;exact hs.elim
  | cons x r =>
   rw [hC] at hs
   obtain ⟨xi,xo⟩:=x
   cases zo with
   | none=>cases h
   | some ns=>cases xo with
    | none=>exact hs.2.1.elim
    | some y=>exact ⟨xi,y,r,rfl⟩
theorem Zdy (hr:Rel C c) (h:c.stk≠[]):C.st≠[]:=fun e=>by
 have:=hr.stk.len
 rw [e] at this
 exact h (List.length_eq_zero_iff.1 this.symm)
theorem Z9s (hT:Tabs F M) {ch:UInt8} (ha:C.a < t.length) (hr:Rel C c) (hi:Inv t C) (hg:GoodC c) (hl:t.length≤262144) (hch:t[c.p]?=some ch) :
  Meets Tryz.prog 35 [.pointer (some ⟨p,0,none⟩)] F M (C.res p t H) (StepP p t H (Z2s Zb t c ch)):=by
 have hu:=ch.toNat_lt
 have e1:∀ n:UInt8,(ch=n)↔(ch.toNat=n.toNat):=fun n=>UInt8.toNat_inj.symm
 have hb:bAt t C.a=ch.toNat:=by rw [hr.p];exact Z59 hch
 have hsC:=hr.s
 have hval:=Z8n (F:=F) (M:=M) (p:=p) (H:=H) (ch:=ch) hT ha hr hi hl
 have hend:=fun hn=>Z8d (F:=F) (M:=M) (p:=p) (H:=H) ha hr hi hl (Zdy hr hn)
 have hon:=fun s'=>Z9t (p:=p) (H:=H) hr hi ha s'
 have hodd:=fun e H'=>Z7U (p:=p) (t:=t) (H:=H) hr (e:=e) (H':=H')
 have hnam:Z1A c.stk=true→Meets Tryz.prog 66 [.pointer (some ⟨p,0,none⟩)] F M (C.res p t H) (StepP p t H (namC t c 34)):=fun h=>by
  obtain ⟨i,y,r,hst⟩:=Zcy hr h
  exact Za1 hT ha hr hi hl hst
 have hmor:c.stk≠[]→Meets Tryz.prog 67 [.pointer (some ⟨p,0,none⟩),.int .u8 (ch.toNat:Nat)] F M (C.res p t H) (StepP p t H (morC c ch)):=fun h=>by
  cases hst:C.st with
  | nil=>exact absurd hst (Zdy hr h)
  | cons x r=>exact Za4 ha hr hi hl hst
 unfold Jc.res Jc.cells at hval hend hon hnam hmor ⊢
 unfold Jc.cells at hodd
 refine Meets.enter Tryz.func35 rfl rfl ?_
 repeat' (first|refine Sg.Y9 ?_|fail)
 refine T.call rfl rfl ZY ?_
 rintro _ _ ⟨rfl,rfl⟩
 rw [hb]
 have hle:=hg.le
 unfold Z2s
 rcases (by omega:c.s=0∨c.s=1∨c.s=2∨c.s=3∨c.s=4∨c.s=5∨c.s=6) with h0|h0|h0|h0|h0|h0|h0
 ·rw [h0] at hsC ⊢
  repeat' (first|refine Sg.Y8 ?_|(apply S.condQ;apply rfl;all_goals intro _)|fail)
  refine T.call rfl rfl hval ?_
  intro e H' hS
  obtain ⟨v,rfl⟩:=hS.bool
  repeat' (first|refine Sg.Y10 ?_|fail)
  exact ⟨_,PSub.refl _,hS⟩
 ·have hE:=hend (hg.one (.inl h0))
  rw [h0] at hsC ⊢
  by_cases h1:ch.toNat=93
  ·simp only [(e1 93).2 h1,if_true]
   repeat' (first|refine Sg.Y8 ?_|(apply S.condQ;apply rfl;all_goals intro _)|fail)
   refine T.call rfl rfl hE ?_
   intro e H' hS
   obtain ⟨v,rfl⟩:=hS.bool
   repeat' (first|refine Sg.Y10 ?_|fail)
   exact ⟨_,PSub.refl _,hS⟩
  ·simp only [show ¬ch=93 from fun hh=>h1 ((e1 93).1 hh),if_false]
   repeat' (first|refine Sg.Y8 ?_|(apply S.condQ;apply rfl;all_goals intro _)|fail)
   refine T.call rfl rfl hval ?_
   intro e H' hS
   obtain ⟨v,rfl⟩:=hS.bool
   repeat' (first|refine Sg.Y10 ?_|fail)
   exact ⟨_,PSub.refl _,hS⟩
 ·have hN:=hnam (hg.top (.inl h0))
  rw [h0] at hsC ⊢
  by_cases h1:ch.toNat=34
  ·obtain rfl:ch=34:=(e1 34).2 h1
   repeat' (first|refine Sg.Y8 ?_|(apply S.condQ;apply rfl;all_goals intro _)|fail)
   refine T.call rfl rfl hN ?_
   intro e H' hS
   obtain ⟨v,rfl⟩:=hS.bool
   repeat' (first|refine Sg.Y10 ?_|fail)
   exact ⟨_,PSub.refl _,hS⟩
  ·have hn:namC t c ch=.stop 31 c.p:=by
    unfold namC
    rw [if_neg (fun hh=>h1 ((e1 34).1 hh))]
   simp only [hn]
   repeat' (first|refine Sg.Y8 ?_|(apply S.condQ;apply rfl;all_goals intro _)|fail)
   refine T.call rfl rfl ZK ?_
   rintro _ _ ⟨rfl,rfl⟩
   repeat' (first|refine Sg.Y10 ?_|fail)
   exact hodd _ _ ⟨rfl,rfl⟩
 ·have hE:=hend (hg.one (.inr (.inl h0)))
  have hN:=hnam (hg.top (.inr h0))
  rw [h0] at hsC ⊢
  by_cases h2:ch.toNat=125
  ·simp only [(e1 125).2 h2,if_true]
   repeat' (first|refine Sg.Y8 ?_|(apply S.condQ;apply rfl;all_goals intro _)|fail)
   refine T.call rfl rfl hE ?_
   intro e H' hS
   obtain ⟨v,rfl⟩:=hS.bool
   repeat' (first|refine Sg.Y10 ?_|fail)
   exact ⟨_,PSub.refl _,hS⟩
  ·simp only [show ¬ch=125 from fun hh=>h2 ((e1 125).1 hh),if_false]
   by_cases h1:ch.toNat=34
   ·obtain rfl:ch=34:=(e1 34).2 h1
    repeat' (first|refine Sg.Y8 ?_|(apply S.condQ;apply rfl;all_goals intro _)|fail)
    refine T.call rfl rfl hN ?_
    intro e H' hS
    obtain ⟨v,rfl⟩:=hS.bool
    repeat' (first|refine Sg.Y10 ?_|fail)
    exact ⟨_,PSub.refl _,hS⟩
   ·have hn:namC t c ch=.stop 31 c.p:=by
     unfold namC
     rw [if_neg (fun hh=>h1 ((e1 34).1 hh))]
    simp only [hn]
    repeat' (first|refine Sg.Y8 ?_|(apply S.condQ;apply rfl;all_goals intro _)|fail)
    refine T.call rfl rfl ZK ?_
    rintro _ _ ⟨rfl,rfl⟩
    repeat' (first|refine Sg.Y10 ?_|fail)
    exact hodd _ _ ⟨rfl,rfl⟩
 ·rw [h0] at hsC ⊢
  by_cases h1:ch.toNat=58
  ·simp only [(e1 58).2 h1,if_true]
   have hat:=hi.at_
   repeat' (first|refine Sg.Y8 ?_|(apply S.condQ;apply rfl;all_goals intro _)|fail)
   exact ⟨_,PSub.refl _,hon 0⟩
  ·simp only [show ¬ch=58 from fun hh=>h1 ((e1 58).1 hh),if_false]
   repeat' (first|refine Sg.Y8 ?_|(apply S.condQ;apply rfl;all_goals intro _)|fail)
   refine T.call rfl rfl ZK ?_
   rintro _ _ ⟨rfl,rfl⟩
   repeat' (first|refine Sg.Y10 ?_|fail)
   exact hodd _ _ ⟨rfl,rfl⟩
 ·have hM:=hmor (hg.one (.inr (.inr h0)))
  rw [h0] at hsC ⊢
  repeat' (first|refine Sg.Y8 ?_|(apply S.condQ;apply rfl;all_goals intro _)|fail)
  refine T.call rfl rfl hM ?_
  intro e H' hS
  obtain ⟨v,rfl⟩:=hS.bool
  repeat' (first|refine Sg.Y10 ?_|fail)
  exact ⟨_,PSub.refl _,hS⟩
 ·rw [h0] at hsC ⊢
  repeat' (first|refine Sg.Y8 ?_|(apply S.condQ;apply rfl;all_goals intro _)|fail)
  refine T.call rfl rfl ZK ?_
  rintro _ _ ⟨rfl,rfl⟩
  repeat' (first|refine Sg.Y10 ?_|fail)
  exact hodd _ _ ⟨rfl,rfl⟩
end
end Go.Proofs.YtophlopiigpbgaaGreatDoor
/- The walks of the program's reader of JSON: it says what going down says. -/
namespace Go.Proofs.YtophlopiigpbgaaGreatDoor
open Sg Go.IntWalk
set_option maxRecDepth 100000
set_option maxHeartbeats 4000000
section
variable {F:World} {M:List Nat} {H:List Res} {p:Nat} {t:List UInt8} {C:Jc} {c:Cf}
def ParP (H:List Res):Gt (List Nd)→Ending→List Res→Prop
 | .ok _ l=>fun e H'=>∃ oa oc,e=.returned (.tuple ⟨[.slice oa l.length oc,.int .i64 0,.int .i64 0]⟩)∧H'=ouR oa oc l::H
 | .bad c a=>fun e H'=>e=.returned (.tuple ⟨[.slice none 0 0,.int .i64 c,.int .i64 a]⟩)∧H'=H
theorem ZbY (hr:Rel C c) (hi:Inv t C):Rel { C with a:=Z4 t C.a } { c with p:=Z4 t c.p }∧Inv t { C with a:=Z4 t C.a }:=by
 have h1:=Zm t C.a
 have h2:=Zw (t:=t) hi.at_
 refine ⟨⟨?_,hr.s,hr.out,hr.key,hr.stk⟩,⟨h2,?_,hi.kids,hi.idx,hi.kind,fun z hz y hy=>?_,hi.dep⟩⟩
 ·show Z4 t C.a=Z4 t c.p
  rw [hr.p]
 ·have:=hi.outl
  show C.out.length≤Z4 t C.a
  omega
 ·have:=hi.maps z hz y hy
  show y.2.length≤Z4 t C.a
  omega
theorem Z8R (h:GoodC c) (q:Nat):GoodC { c with p:=q }:=⟨h.one,h.top,h.le⟩
theorem Zbi (C:Jc) (p:Nat) (t:List UInt8) (H:List Res):PSub (ouR C.oa C.oc C.out::H) (C.res p t H) :=
 PSub.drop (PSub.take Z0 (PSub.drop (PSub.drop (Z08 H C.st))))
theorem Z0F (hT:Tabs F M) (h63:t.length≤maxLen):Meets Tryz.prog 13 [sV t] F M H (ParP H (Zy Zb t)):=by
 refine Meets.enter Tryz.func13 rfl rfl ?_
 by_cases hl:262144 < t.length
 ·have hp:Zy Zb t=.bad 10 0:=by unfold Zy;rw [if_pos hl]
  rw [hp]
  repeat' (first|refine Sg.Y3 ?_|(apply S.condQ;apply rfl;all_goals intro _)|fail)
  exact ⟨_,PSub.refl _,rfl,rfl⟩
 ·have hl':t.length≤262144:=by omega
  rw [←Z8K hl']
  refine S.nilrow 52 1 ?_
  refine S.nilrow 3 1 ?_
  refine S.nilrow 34 6 ?_
  repeat' (first|(apply T.box;apply rfl;apply rfl;intro nb)|refine Sg.Y3 ?_|(apply S.condQ;apply rfl;all_goals intro _)|fail)
  refine T.call rfl rfl (Z4v (t:=t) (o:=.slice none 0 0) (n:=.slice none 0 0) (m:=.slice none 0 0) (a:=0) (s:=0) (k:=[]) (c:=0) (b:=0) (Nat.zero_le _) (by omega)) ?_
  rintro _ _ ⟨rfl,rfl⟩
  have h0:mach Zb t (t.length+1) ⟨Z4 t 0,0,[],[],[]⟩=mach Zb t (t.length+1) ⟨0,0,[],[],[]⟩:=Z6b (c:=⟨0,0,[],[],[]⟩)
  have hsl:=Zw (t:=t) (p:=0) (Nat.zero_le _)
  rw [←h0]
  generalize hQ:mach Zb t (t.length+1) ⟨Z4 t 0,0,[],[],[]⟩=Q
  repeat' (first|refine Sg.Y1 ?_|fail)
  refine S.loopE 4 [0,5] (fun R b' μ H' e=>∃ (C:Jc) (c:Cf) (f:Nat),H'=C.res nb t R∧e=b'∧(Rel C c∧Inv t C∧GoodC c∧Z4 t c.p=c.p∧t.length < c.p+f∧mach Zb t f c=Q)∧μ=t.length - C.a) rfl rfl ?_ _ _ ⟨⟨none,0,none,0,none,0,[],[],Z4 t 0,0,[]⟩,⟨Z4 t 0,0,[],[],[]⟩,t.length+1,rfl,rfl,⟨⟨rfl,rfl,rfl,rfl,trivial⟩,⟨hsl,Nat.zero_le _,fun x hx=>by (exact absurd hx List.not_mem_nil),fun x hx=>by (exact absurd hx List.not_mem_nil),fun x hx=>by (exact absurd hx List.not_mem_nil),fun x hx=>by (exact absurd hx List.not_mem_nil),Nat.zero_le _⟩,⟨fun h=>by simp only at h;omega,fun h=>by simp only at h;omega,(by decide:0≤6)⟩,Zr _ _,(show t.length < Z4 t 0+(t.length+1) by omega),hQ⟩,rfl⟩ (by repeat' first|exact trivial|refine And.intro rfl ?_)
  rintro _ _ _ ⟨C,c,f,rfl,rfl,⟨hr,hi,hg,hsk,hf,hm⟩,rfl⟩ ih
  clear hQ h0
  have hpa:=hr.p
  have hat:=hi.at_
  obtain ⟨f,rfl⟩:∃ g,f=g+1:=⟨f - 1,by omega⟩
  by_cases ha:C.a < t.length
  ·have hch:t[c.p]?=some (t.getD c.p 0):=by rw [←hpa];simp [List.getD,ha]
   have hst:=Z9s (F:=F) (M:=M) (p:=nb) (H:=H) hT ha hr hi hg hl' hch
   have hm2:mach Zb t (f+1) c=match Z2s Zb t c (t.getD c.p 0) with
    | .go c'=>mach Zb t f c'
    | .stop e a=>.bad e a:=by
    simp only [mach,hsk,hch]
    rfl
   unfold Jc.res Jc.cells at hst ⊢
   repeat' (first|refine Sg.Y3 ?_|(apply S.condQ;apply rfl;all_goals intro _)|fail)
   refine T.call rfl rfl hst ?_
   clear hst
   cases hsc:Z2s Zb t c (t.getD c.p 0) with
   | stop e1 a1 =>
    rw [hsc] at hm2
    rintro _ _ ⟨o,n,m,a,s,k,rfl,rfl⟩
    rw [←hm,hm2]
    repeat' (first|refine Sg.Y1 ?_|fail)
    exact ⟨_,PSub.drop (PSub.refl _),rfl,rfl⟩
   | go c' =>
    rw [hsc] at hm2
    obtain ⟨g1,g2⟩:=Zb5 (by rw [←hpa];exact ha) hsc
    rintro _ _ ⟨C',rfl,rfl,hr',hi'⟩
    have hpa':=hr'.p
    unfold Jc.res Jc.cells
    repeat' (first|refine Sg.Y2 ?_|fail)
    refine T.call rfl rfl (Z4v hi'.at_ (by omega)) ?_
    rintro _ _ ⟨rfl,rfl⟩
    repeat' (first|with_reducible refine Sr.nil ?_|(with_reducible apply T.ofRet)|fail)
    have hbl:=ZbY hr' hi'
    have hge:=Zm t C'.a
    exact ih _ _ _ _ ⟨{ C' with a:=Z4 t C'.a },{ c' with p:=Z4 t c'.p },f,rfl,rfl,⟨hbl.1,hbl.2,Z8R g1 _,Zr _ _,(show t.length < Z4 t c'.p+f by rw [←hpa'] at g2 ⊢;omega),by rw [Z6b];exact hm2.symm.trans hm⟩,rfl⟩ (show t.length - Z4 t C'.a < t.length - C.a by omega) (by repeat' first|exact trivial|refine And.intro rfl ?_)
  ·have hae:C.a=t.length:=by omega
   have hch:t[c.p]?=none:=by rw [←hpa];exact List.getElem?_eq_none (by omega)
   have hm2:mach Zb t (f+1) c=if c.s=6 then .ok (Z4 t c.p) c.out else .bad 31 t.length:=by
    simp only [mach,hsk,hch]
   have hss:=hr.s
   have hoo:=hr.out
   have hsub:=Zbi C nb t H
   unfold Jc.res Jc.cells at hsub ⊢
   rw [←hm,hm2]
   by_cases h6:C.s=6
   ·rw [if_pos (by rw [←hss];exact h6)]
    repeat' (first|refine Sg.Y3 ?_|(apply S.condQ;apply rfl;all_goals intro _)|fail)
    rw [←hoo]
    exact ⟨_,hsub,C.oa,C.oc,rfl,rfl⟩
   ·rw [if_neg (by rw [←hss];exact h6)]
    repeat' (first|refine Sg.Y3 ?_|(apply S.condQ;apply rfl;all_goals intro _)|fail)
    exact ⟨_,PSub.drop (PSub.drop (PSub.drop (PSub.drop (Z08 H C.st)))),rfl,rfl⟩
end
end Go.Proofs.YtophlopiigpbgaaGreatDoor
/- A literal of records is a growable row. -/
namespace Sg
open Go Go.RowKit
theorem St.blkRowN {F:World} {M:List Nat} {w:World} {H:List Res} {b n sz:Nat} {vs:List Value} {E:TypeId} (h:St F M w (.blk b vs E::H)) (hn:vs.length=n*sz) (hm:n≤maxLen):St F M w (.row (some ⟨b,0,none⟩) n E sz n vs::H):=by
 refine h.weakB (fun _ h=>h) h.nd (fun r hr=>?_)
 rcases List.mem_cons.1 hr with rfl|hr
 ·have hb:w.heap[b]?=some (.cells ⟨vs⟩ E (0,0)):=h.res _ (List.mem_cons_self ..)
  exact ⟨hn,.inr ⟨b,n,⟨vs⟩,rfl,Nat.zero_le _,hb,Nat.le_refl _,hm,by simp [hn],by simp only [Nat.zero_mul,List.drop_zero,Nat.zero_add];rw [←hn];exact List.take_length⟩⟩
 ·exact h.res r (List.mem_cons_of_mem _ hr)
section
variable {c:Ctx} {dr:Bool} {ds:List Deferred} {H:List Res} {e:Env} {ops:Array Oper} {l:List Oper} {κ:List Res→Env→Prop}
theorem S.rowOfN {k:List Item} {b n sz:Nat} {vs:List Value} {E:TypeId} (hn:vs.length=n*sz) (hm:n≤maxLen) (h:S c ds (.row (some ⟨b,0,none⟩) n E sz n vs::H) k e):S c ds (.blk b vs E::H) k e:=h.weaken fun _ hw=>hw.blkRowN hn hm
end
end Sg
/- The walks of the program's looks at nodes: what stands behind a value, what stands in it, its members. -/
namespace Go.Proofs.YtophlopiigpbgaaGreatDoor
open Sg Go.IntWalk
set_option maxRecDepth 100000
set_option maxHeartbeats 4000000
section
variable {F:World} {M:List Nat} {H:List Res} {v:List Nd} {p:Nat} {oa:Option Addr} {oc n:Nat}
theorem Z3j {x r:List Nd} [Rd F M H oa (v.flatMap ndV)] (hn:v.length=n) (hl:n≤2200000) (hx:Fo 1 x) (hd:v.drop p=x++r) :
  Meets Tryz.prog 36 [.slice oa n oc,.int .i64 p] F M H (fun e H'=>e=.returned (.int .i64 (p+x.length:Nat))∧H'=H):=by
 subst hn
 refine Meets.enter Tryz.func36 rfl rfl ?_
 have h0:=Z3a hd hx.pos
 have h1:=hx.pos
 repeat' (first|refine Sg.Y3 ?_|(apply S.condQ;apply rfl;all_goals intro _)|(apply T.gcase;apply rfl;apply rfl;all_goals intro _)|fail)
 refine S.loopE 0 [0] (fun R b' μ H' e=>∃ (q k:Nat) (y:List Nd) (z:Int),H'=R∧e=(1,.int .i64 q)::(5,.int .i64 z)::b'∧(Fo k y∧v.drop q=y++r∧q+y.length=p+x.length∧z=(k:Int))∧μ=v.length - q) rfl rfl ?_ _ _ ⟨p,1,x,1,rfl,rfl,⟨hx,hd,rfl,rfl⟩,rfl⟩ (by repeat' first|exact trivial|refine And.intro rfl ?_)
 rintro _ _ _ ⟨q,k,y,z,rfl,rfl,⟨h2,h3,h4,h5⟩,rfl⟩ ih
 cases h2 with
 | nil =>
  subst h5
  have h6:q=p+x.length:=h4
  repeat' (first|refine Sg.Y1 ?_|fail)
  exact ⟨_,PSub.refl _,by rw [h6],rfl⟩
 | @node nn m k' a b hk ha hb =>
  obtain ⟨h6,h7⟩:=Z0j (b:=a++b++r) (by simpa using h3)
  have h8:(v.getD q default).kids=(m:Int):=by rw [h6,hk]
  have h9:=ha.le
  have h10:=hb.le
  have h11:v.drop (q+1)=(a++b)++r:=by
   rw [←List.drop_drop,h3]
   rfl
  simp only [List.length_cons,List.length_append] at h4
  repeat' (first|refine Sg.Y3 ?_|(apply S.condQ;apply rfl;all_goals intro _)|(apply T.gcase;apply rfl;apply rfl;all_goals intro _)|fail)
  exact ih _ _ _ _ ⟨q+1,m+k',a++b,z+((v.getD q default).kids - 1),rfl,rfl,⟨ha.app hb,h11,by rw [List.length_append];omega,by omega⟩,rfl⟩ (by omega) (by repeat' first|exact trivial|refine And.intro rfl ?_)
theorem Zah {nn:Nd} {xs:List (List Nd)} {r:List Nd} [Rd F M H oa (v.flatMap ndV)] (hn:v.length=n) (hl:n≤2200000) (ha:At v p nn xs r) :
  Meets Tryz.prog 37 [.slice oa n oc,.int .i64 p] F M H (fun e H'=>∃ ka kc,e=.returned (.slice ka xs.length kc)∧H'=.row ka kc 3 1 xs.length ((offs (p+1) xs).map nV)::H):=by
 subst hn
 refine Meets.enter Tryz.func37 rfl rfl ?_
 obtain ⟨g1,g2⟩:=Z0j ha.drop
 have g3:(v.getD p default).kids=(xs.length:Int):=by rw [g1,ha.kids]
 have g4:xs.length < v.length:=by
  have h1:=(Fo.of ha.fo).le
  have h2:=congrArg List.length ha.drop
  simp only [List.length_drop,List.length_cons,List.length_append] at h2
  omega
 refine S.nilrow 3 1 ?_
 repeat' (first|refine Sg.Y3 ?_|(apply S.condQ;apply rfl;all_goals intro _)|(apply T.gcase;apply rfl;apply rfl;all_goals intro _)|fail)
 refine S.frontR none ?_
 refine S.loopE 1 [0,1] (fun R b' μ H' e=>∃ (i:Nat) (ka:Option Addr) (kc m:Nat) (q:Nat),H'=.row ka kc 3 1 m ((offs (p+1) (xs.take i)).map nV)::R∧e=(5,.slice ka m kc)::(6,.int .i64 q)::(7,.int .i64 i)::b'∧(i≤xs.length∧m=i∧q=p+1+(xs.take i).flatten.length)∧μ=xs.length - i) rfl rfl ?_ _ _ ⟨0,none,0,0,p+1,rfl,rfl,⟨Nat.zero_le _,rfl,rfl⟩,rfl⟩ (by repeat' first|exact trivial|refine And.intro rfl ?_)
 rintro _ _ _ ⟨i,ka,kc,m,q,rfl,rfl,⟨h1,h2,h3⟩,rfl⟩ ih
 by_cases h4:i < xs.length
 ·have hk:=ha.kid h4
  rw [←h3] at hk
  have hx:=ha.fo _ (List.getElem_mem h4)
  have hq:=Z3a hk hx.pos
  have hxp:=hx.pos
  have hs:=Z67 (p+1) (xs.take i) xs[i]
  rw [←List.take_succ_eq_append_getElem h4,←h3] at hs
  have ht:=Z0p h4
  subst h2
  repeat' (first|(apply T.bs;(iterate 6 apply rfl);intro nb)|(apply T.appendN;apply rfl;apply rfl;infer_instance;apply rfl;(constructor<;>omega);apply rfl;intro na nc)|refine Sg.Y3 ?_|(apply S.condQ;apply rfl;all_goals intro _)|(apply T.gcase;apply rfl;apply rfl;all_goals intro _)|fail)
  refine T.call rfl rfl (Z3j rfl (by omega) hx hk) ?_
  rintro _ _ ⟨rfl,rfl⟩
  have hmap:(offs (p+1) (xs.take m)).map nV++[nV q]=(offs (p+1) (xs.take (m+1))).map nV:=by rw [hs];simp
  repeat' (first|refine Sg.Y2 ?_|fail)
  exact ih _ _ _ _ ⟨m+1,na,nc,m+1,q+xs[m].length,by rw [hs],rfl,⟨h4,rfl,by omega⟩,rfl⟩ (by omega) (by repeat' first|exact trivial|refine And.intro rfl ?_)
 ·obtain rfl:i=xs.length:=by omega
  rw [List.take_length]
  subst h2
  repeat' (first|refine Sg.Y3 ?_|(apply T.gcase;apply rfl;apply rfl;all_goals intro _)|fail)
  all_goals exact ⟨_,PSub.refl _,_,_,rfl,rfl⟩
def memP (p:Nat) (n:Nd) (xs:List (List Nd)) (key:List UInt8):Int:=if n.kind=7 then Z5p (p+1) xs key else -1
theorem Z7b {nn:Nd} {xs:List (List Nd)} {r:List Nd} {key:List UInt8} [Rd F M H oa (v.flatMap ndV)] (hn:v.length=n) (hl:n≤2200000) (ha:At v p nn xs r) :
  Meets Tryz.prog 16 [.slice oa n oc,.int .i64 p,sV key] F M H (fun e H'=>e=.returned (.int .i64 (memP p nn xs key))∧H'=H):=by
 subst hn
 refine Meets.enter Tryz.func16 rfl rfl ?_
 obtain ⟨g1,g2⟩:=Z0j ha.drop
 have g3:(v.getD p default).kids=(xs.length:Int):=by rw [g1,ha.kids]
 have g4:xs.length < v.length:=by
  have h1:=(Fo.of ha.fo).le
  have h2:=congrArg List.length ha.drop
  simp only [List.length_drop,List.length_cons,List.length_append] at h2
  omega
 unfold memP
 rw [←g1]
 by_cases hk7:(v.getD p default).kind=7
 ·rw [if_pos hk7]
  repeat' (first|refine Sg.Y3 ?_|(apply S.condQ;apply rfl;all_goals intro _)|(apply T.gcase;apply rfl;apply rfl;all_goals intro _)|fail)
  generalize hQ:Z5p (p+1) xs key=Q
  refine S.loopE 0 [0,1,2] (fun R b' μ H' e=>∃ (i q:Nat),H'=R∧e=(7,.int .i64 q)::(8,.int .i64 i)::b'∧(i≤xs.length∧q=p+1+(xs.take i).flatten.length∧Z5p q (xs.drop i) key=Q)∧μ=xs.length - i) rfl rfl ?_ _ _ ⟨0,p+1,rfl,rfl,⟨Nat.zero_le _,rfl,hQ⟩,rfl⟩ (by repeat' first|exact trivial|refine And.intro rfl ?_)
  rintro _ _ _ ⟨i,q,rfl,rfl,⟨h1,h3,h5⟩,rfl⟩ ih
  by_cases h4:i < xs.length
  ·have hk:=ha.kid h4
   rw [←h3] at hk
   have hx:=ha.fo _ (List.getElem_mem h4)
   have hq:=Z3a hk hx.pos
   have hxp:=hx.pos
   have ht:=Z0p h4
   rw [List.drop_eq_getElem_cons h4,Z4Z] at h5
   have hhd:v.getD q default=Z3 xs[i]:=by
    obtain ⟨n2,xs2,e2,-⟩:=At.of_fo hk hx
    rw [e2] at hk ⊢
    exact (Z0j hk).1
   rw [←hhd] at h5
   by_cases h6:(v.getD q default).key=key
   ·rw [if_pos h6] at h5
    repeat' (first|refine Sg.Y3 ?_|(apply S.condQ;apply rfl;all_goals intro _)|(apply T.gcase;apply rfl;apply rfl;all_goals intro _)|fail)
    exact ⟨_,PSub.refl _,by rw [h5],rfl⟩
   ·rw [if_neg h6] at h5
    repeat' (first|refine Sg.Y3 ?_|(apply S.condQ;apply rfl;all_goals intro _)|(apply T.gcase;apply rfl;apply rfl;all_goals intro _)|fail)
    refine T.call rfl rfl (Z3j rfl (by omega) hx hk) ?_
    rintro _ _ ⟨rfl,rfl⟩
    repeat' (first|refine Sg.Y2 ?_|fail)
    exact ih _ _ _ _ ⟨i+1,q+xs[i].length,rfl,rfl,⟨h4,by omega,h5⟩,rfl⟩ (by omega) (by repeat' first|exact trivial|refine And.intro rfl ?_)
  ·obtain rfl:i=xs.length:=by omega
   rw [List.drop_length] at h5
   rw [←h5]
   repeat' (first|refine Sg.Y3 ?_|(apply T.gcase;apply rfl;apply rfl;all_goals intro _)|fail)
   all_goals exact ⟨_,PSub.refl _,rfl,rfl⟩
 ·rw [if_neg hk7]
  repeat' (first|refine Sg.Y3 ?_|(apply S.condQ;apply rfl;all_goals intro _)|(apply T.gcase;apply rfl;apply rfl;all_goals intro _)|fail)
  exact ⟨_,PSub.refl _,rfl,rfl⟩
end
end Go.Proofs.YtophlopiigpbgaaGreatDoor
/- The walks of the document's looks at nodes. -/
namespace Go.Proofs.YtophlopiigpbgaaGreatDoor
open Sg Go.IntWalk
set_option maxRecDepth 100000
set_option maxHeartbeats 4000000
section
variable {F:World} {M:List Nat} {H:List Res} {v:List Nd} {p:Nat} {oa:Option Addr} {oc n:Nat}
end
end Go.Proofs.YtophlopiigpbgaaGreatDoor
/- Looks at nodes by place alone, the program's and the document's. -/
namespace Go.Proofs.YtophlopiigpbgaaGreatDoor
open Sg Go.IntWalk
section
variable {F:World} {M:List Nat} {H:List Res} {v:List Nd} {p:Nat} {oa:Option Addr} {oc n:Nat}
theorem Z0W {key:List UInt8} [Rd F M H oa (v.flatMap ndV)] (hn:v.length=n) (hl:n≤2200000) (ha:IsAt v p) :
  Meets Tryz.prog 16 [.slice oa n oc,.int .i64 p,sV key] F M H (fun e H'=>e=.returned (.int .i64 (memI v p key))∧H'=H):=by
 obtain ⟨r,ha⟩:=ha
 exact Z7b hn hl ha
theorem Z0G [Rd F M H oa (v.flatMap ndV)] (hn:v.length=n) (hl:n≤2200000) (ha:IsAt v p) :
  Meets Tryz.prog 37 [.slice oa n oc,.int .i64 p] F M H (fun e H'=>∃ ka kc,e=.returned (.slice ka (kidsOf v p).length kc)∧H'=.row ka kc 3 1 (kidsOf v p).length ((offs (p+1) (kidsOf v p)).map nV)::H):=by
 obtain ⟨r,ha⟩:=ha
 exact Zah hn hl ha
end
end Go.Proofs.YtophlopiigpbgaaGreatDoor
/- The walks of the revealing: its memory; giving up; a digest met. -/
namespace Sg
open Go
structure Dc where
 b:Nat
 s:Said
 va:Option Addr
 vc:Nat
def dupB (met:List Dg):Bool:=!decide met.Nodup
theorem Z6A (met:List Dg) (d:Dg):dupB (met++[d])=(dupB met || decide (d∈met)):=by
 unfold dupB
 by_cases h1:met.Nodup
 ·by_cases h2:d∈met
  ·have:¬(met++[d]).Nodup:=fun h=>by
    rw [List.nodup_append] at h
    exact h.2.2 d h2 d (List.mem_singleton.2 rfl) rfl
   simp [h1,h2,this]
  ·have:(met++[d]).Nodup:=by
    rw [List.nodup_append]
    refine ⟨h1,by simp,fun a ha b hb e=>?_⟩
    obtain rfl:=List.mem_singleton.1 hb
    subst e
    exact h2 ha
   simp [h1,h2,this]
 ·have:¬(met++[d]).Nodup:=fun h=>h1 (List.nodup_append.1 h).1
  simp [h1,this]
def Z1T (ds:List Dc) (d:Dg):Option Dc:=ds.find? fun x=>x.s.dig==d
theorem Z1i {ds:List Dc} {d:Dg} {x:Dc} (h:Z1T ds d=some x):x∈ds∧x.s.dig=d:=by
 refine ⟨List.mem_of_find?_eq_some h,?_⟩
 have:=List.find?_some h
 simpa using this
theorem Z6w (ds:List Dc) (d:Dg):Z0y (ds.map (·.s)) d=(Z1T ds d).map (·.s):=by
 unfold Z0y Z1T
 rw [List.find?_map]
 rfl
structure Bk2 (B E:Ents) (ds:List Dc) (met:List Dg):Prop where
 by_:∀ d,(eget B d).getD (-1)=match Z1T ds d with
  | some x=>(x.b:Int)
  | none => -1
 seen:∀ d,(eget E d).getD 0=(met.count d:Int)
 len:E.length≤met.length
 one:(ds.map (·.s.dig)).Nodup
end Sg
namespace Go.Proofs.YtophlopiigpbgaaGreatDoor
open Sg Go.IntWalk
set_option maxRecDepth 100000
set_option maxHeartbeats 4000000
abbrev Z3M:PanicEntry:=⟨.iface 60 (.agg ⟨[.int .i64 200]⟩),false,false⟩
abbrev dcV (met:List Dg) (x:Dc):List Value:=[sV x.s.name,.bool x.s.member,.slice x.va x.s.value.length x.vc,.bool (decide (x.s.dig∈met))]
def dcR (met:List Dg):List Dc→List Res→List Res
 | [],H=>H
 | x::r,H=>.blk x.b (dcV met x) 64::dcR met r H
abbrev wkV (bb sb:Nat) (tw:Bool) (oa:Option Addr) (n oc:Nat):List Value:=[.map (some bb),.map (some sb),.bool tw,.slice oa n oc]
abbrev wkR (p bb sb:Nat) (B E:Ents) (met:List Dg) (oa:Option Addr) (oc:Nat) (o:List Nd) (ds:List Dc) (H:List Res):List Res :=
 .blk p (wkV bb sb (dupB met) oa o.length oc) 54::.ex bb (ptrQ Tryz.prog 9 B.length (mapD B))::.ex sb (mapQ Tryz.prog 9 3 E.length (mapD E))::.row oa oc 34 6 o.length (o.flatMap ndV)::dcR met ds H
section
variable {F:World} {M:List Nat} {H:List Res} {p bb sb:Nat} {B E:Ents} {met:List Dg} {oa:Option Addr} {oc:Nat} {o:List Nd} {ds:List Dc} {d:Dg}
theorem Z9d {z:Int} (h : -9223372036854775808≤z∧z≤9223372036854775807):(Lit.int .i64 z).wf=true:=by
 simp only [Lit.wf,IntKind.min,IntKind.max,IntKind.bits,IntKind.signed]
 simp
 omega
theorem Z0t:Meets Tryz.prog 77 [.bool true] F M H (fun e H'=>e=.returned (.tuple ⟨[]⟩)∧H'=H):=by
 refine Meets.enter Tryz.func77 rfl rfl ?_
 repeat' (first|refine Sg.Y1 ?_|fail)
 exact ⟨_,PSub.refl _,rfl,rfl⟩
theorem Z0a:Meets Tryz.prog 77 [.bool false] F M H (fun e H'=>e=.panicked [Z3M]∧H'=H):=by
 refine Meets.enter Tryz.func77 rfl rfl ?_
 repeat' (first|refine Sg.Y1 ?_|fail)
 refine T.panic rfl ?_
 repeat' (first|(with_reducible apply T.diesW)|fail)
 exact ⟨_,PSub.refl _,rfl,rfl⟩
theorem Z5E (l r:List Dc) (x:Dc) (H:List Res):(dcR met (l++x::r) H).Perm (.blk x.b (dcV met x) 64::dcR met (l++r) H):=by
 induction l with
 | nil=>exact List.Perm.refl _
 | cons y l ih=>exact (ih.cons _).trans (List.Perm.swap _ _ _)
theorem Z8h {ds:List Dc} (h:∀ x∈ds,x.s.dig≠d) (H:List Res):dcR (met++[d]) ds H=dcR met ds H:=by
 induction ds with
 | nil=>rfl
 | cons y r ih =>
  have h1:decide (y.s.dig∈met++[d])=decide (y.s.dig∈met):=by
   rw [decide_eq_decide,List.mem_append,List.mem_singleton]
   exact ⟨fun h2=>h2.elim id (fun e=>absurd e (h y (List.mem_cons_self ..))),.inl⟩
  rw [dcR,dcR,ih fun x hx=>h x (List.mem_cons_of_mem _ hx),dcV,dcV,h1]
theorem Z69 {x:Dc}:∀ {ds:List Dc} {H:List Res},x∈ds→.blk x.b (dcV met x) 64∈dcR met ds H
 | _::_,_,.head _=>List.mem_cons_self ..
 | _::_,_,.tail _ h=>List.mem_cons_of_mem _ (Z69 h)
theorem Z0k (met:List Dg):∀ (ds:List Dc) (H:List Res),PSub H (dcR met ds H)
 | [],_=>PSub.refl _
 | _::r,H=>PSub.drop (Z0k met r H)
abbrev dcP:Option Dc→Value
 | some x=>.pointer (some ⟨x.b,0,none⟩)
 | none=>.pointer none
theorem Ze3 (hB:Bk2 B E ds met) (d:Dg):pV ((eget B d).getD (-1))=dcP (Z1T ds d):=by
 rw [hB.by_]
 cases Z1T ds d with
 | none=>rfl
 | some x=>exact Z4V _
theorem Zdm (hB:Bk2 B E ds met) (d:Dg):Bk2 B (eput E d ((met.count d:Int)+1)) ds (met++[d]):=by
 refine ⟨hB.by_,fun n=>?_,?_,hB.one⟩
 ·rw [Z1u]
  by_cases h:d=n
  ·subst h
   rw [if_pos rfl,Option.getD_some,List.count_append]
   simp
  ·rw [if_neg h,hB.seen,List.count_append]
   have:List.count n [d]=0:=by simp [List.count_singleton,h]
   omega
 ·have:=Z0O E d ((met.count d:Int)+1)
  have:=hB.len
  rw [List.length_append,List.length_singleton]
  omega
theorem Z6a (hB:Bk2 B E ds met) (hd:d.length≤maxLen) (hm:met.length≤1000000000):Meets Tryz.prog 79 [.pointer (some ⟨p,0,none⟩),sV d] F M (wkR p bb sb B E met oa oc o ds H)
  (fun e H'=>∃ E',Bk2 B E' ds (met++[d])∧e=.returned (.tuple ⟨[dcP (Z1T ds d),.bool (decide (d∉met))]⟩)∧H'=wkR p bb sb B E' (met++[d]) oa oc o ds H):=by
 refine Meets.enter Tryz.func79 rfl rfl ?_
 have hs:=hB.seen d
 have hcl:met.count d≤met.length:=List.count_le_length
 have hp:=Zdm hB d
 have hps:=hp.seen d
 have hbp:=Ze3 hB d
 have hel:=hB.len
 have hdup:=Z6A met d
 have hcc:met.count d+1=(met++[d]).count d:=by rw [List.count_append];simp
 obtain ⟨tw,htw⟩:∃ tw,dupB met=tw:=⟨_,rfl⟩
 obtain ⟨fr,hfr⟩:∃ fr,decide (d∉met)=fr:=⟨_,rfl⟩
 have hfr2:decide (d∈met)=!fr:=by rw [←hfr];by_cases h:d∈met<;>simp [h]
 unfold wkR
 rw [hdup,htw,hfr,hfr2]
 repeat' (first|refine Sg.Y1 ?_|fail)
 rw [hs]
 refine Sr.front sb ?_
 refine T.mapPutT (z:=(met.count d:Int)+1) rfl rfl rfl hd (by simp only [maxLen];omega) (Z9d (by constructor<;>omega)) ?_
 dsimp only
 generalize eput E d ((met.count d:Int)+1)=E' at hp hps ⊢
 have hz:decide ((eget E' d).getD 0=1)=fr:=by
  rw [hps,←hcc,←hfr,decide_eq_decide,←List.count_eq_zero]
  omega
 have hz2:decide (¬(eget E' d).getD 0=1)=!fr:=by
  rw [←hz]
  by_cases h:(eget E' d).getD 0=1<;>simp [h]
 have hnd:=hB.one
 cases hf:Z1T ds d with
 | none =>
  rw [hf] at hbp
  have hsame:dcR (met++[d]) ds H=dcR met ds H:=Z8h (fun x hx e=>by
   have:=List.find?_eq_none.1 hf x hx
   exact this (by simpa using e)) H
  rw [hsame]
  cases tw<;>cases fr
  all_goals
   repeat' (first|refine Sg.Y1 ?_|fail)
   try rw [hz]
   skip
   rw [hbp]
   repeat' (first|refine Sg.Y1 ?_|fail)
   try rw [hz2]
   exact ⟨_,PSub.take (Z1 Z0) (PSub.take (Z1 Z0) (PSub.take Z0 (PSub.refl _))),E',hp,rfl,rfl⟩
 | some x =>
  rw [hf] at hbp
  obtain ⟨hx1,hx2⟩:=Z1i hf
  obtain ⟨l,r,hlr⟩:=List.append_of_mem hx1
  subst hlr
  have hoth:∀ y∈l++r,y.s.dig≠d:=fun y hy e=>by
   rw [List.map_append,List.map_cons,List.nodup_append,List.nodup_cons] at hnd
   obtain ⟨n1,⟨n2,n3⟩,n4⟩:=hnd
   rcases List.mem_append.1 hy with hy|hy
   ·exact n4 _ (List.mem_map_of_mem hy) _ (List.mem_cons_self ..) (by rw [e,hx2])
   ·exact n2 (by rw [hx2,←e];exact List.mem_map_of_mem hy)
  have hsame:dcR (met++[d]) (l++r) H=dcR met (l++r) H:=Z8h hoth H
  have p1:=Z5E (met:=met) l r x H
  have p2:=Z5E (met:=met++[d]) l r x H
  rw [hsame] at p2
  have hu:decide (x.s.dig∈met++[d])=true:=by simp [hx2]
  unfold dcV at p2
  rw [hu] at p2
  cases tw<;>cases fr
  all_goals
   repeat' (first|refine Sg.Y1 ?_|fail)
   try rw [hz]
   skip
   rw [hbp]
   repeat' (first|refine Sg.Y2 ?_|fail)
   try rw [hz2]
   refine Sr.perm ?_ ((((p1.cons _).cons _).cons _).cons _)
   repeat' (first|refine Sg.Y1 ?_|fail)
   exact ⟨_,PSub.take (Z1 Z0) (PSub.take (Z1 Z0) (PSub.take Z0 (PSub.take Z0 ⟨[],by rw [List.append_nil];exact p2.symm⟩))),E',hp,rfl,rfl⟩
end
end Go.Proofs.YtophlopiigpbgaaGreatDoor
/- The library's contract of utf8.ValidString, laid at this program (printed by the kit's tools). -/
namespace Go.Proofs
open Go.Shelf
def Tryz.lays196_ren:Go.Shelf.Ren:=⟨fun|196=>47|259=>73|n=>n,fun|9=>9|4=>4|3=>3|5=>5|12=>12|119=>123|0=>0|46=>118|139=>126|138=>125|53=>159|n=>n,fun|3=>0|4=>1|n=>n⟩
theorem Tryz.lays196:Go.Proofs.Lays.n196 Tryz.prog Tryz.lays196_ren:={
 mixed:=by kernel_rfl
 f196:=Tryz.func47.trans (congrArg some (by kernel_rfl))
 f259:=Tryz.func73.trans (congrArg some (by kernel_rfl))
 t0:=Tryz.underlying0
 a0:=Tryz.isAgg0
 z0:=Tryz.sizeOf0
 v0:=Tryz.zeroValue0
 t3:=Tryz.underlying3
 a3:=Tryz.isAgg3
 z3:=Tryz.sizeOf3
 v3:=Tryz.zeroValue3
 t4:=Tryz.underlying4
 a4:=Tryz.isAgg4
 z4:=Tryz.sizeOf4
 v4:=Tryz.zeroValue4
 t5:=Tryz.underlying5
 a5:=Tryz.isAgg5
 z5:=Tryz.sizeOf5
 v5:=Tryz.zeroValue5
 t9:=Tryz.underlying9
 a9:=Tryz.isAgg9
 z9:=Tryz.sizeOf9
 v9:=Tryz.zeroValue9
 t12:=Tryz.underlying12
 a12:=Tryz.isAgg12
 z12:=Tryz.sizeOf12
 v12:=Tryz.zeroValue12
 t46:=Tryz.underlying118
 a46:=Tryz.isAgg118
 z46:=Tryz.sizeOf118
 v46:=Tryz.zeroValue118
 t53:=Tryz.underlying159
 a53:=Tryz.isAgg159
 z53:=Tryz.sizeOf159
 v53:=Tryz.zeroValue159
 t119:=Tryz.underlying123
 a119:=Tryz.isAgg123
 z119:=Tryz.sizeOf123
 t138:=Tryz.underlying125
 a138:=Tryz.isAgg125
 z138:=Tryz.sizeOf125
 v138:=Tryz.zeroValue125
 t139:=Tryz.underlying126
 a139:=Tryz.isAgg126
 z139:=Tryz.sizeOf126
 v139:=Tryz.zeroValue126
 g3:=by kernel_rfl
 g4:=by kernel_rfl }
open Go.RowKit in
theorem Tryz.utf8_ValidString (s:ByteArray) (w:World) (hs:s.size≤9223372036854775807) (hT:Lib.Utf8Tabs 0 1 w) :
  Calls Tryz.prog 47 #[.string s] w fun e w'=>e=.returned (.bool (Lib.validD s.data.toList))∧Below w.heap.size w w':=Any.utf8_ValidString Tryz.lays196 s w hs hT
end Go.Proofs
