/- Texts put together by a program: RvlI AskP AskQ AskR AskS RvlD RvlJ. -/
import Derived.Test.YtjajcmedipjfhaaGreatDoorMn
import Derived.Test.YtjajcmedipjfhaaGreatDoorMl
import Derived.Test.YtjajcmedipjfhaaGreatDoorMm
/- The walk of what the document reaches. -/
/- guards -/
namespace Sg
open Go
def boV (b:Bool):Value:=.bool b
def remP (f:Nat) (L:List Said) (O:List Said):Nat:=(L.map fun s=>if s.dig∈O.map (·.dig) then 0 else (plc f L s).length).sum
theorem Za0 (c:Said→Nat) (O:List Said) (s t:Said):(if t.dig∈(O++[s]).map (·.dig) then 0 else c t)≤(if t.dig∈O.map (·.dig) then 0 else c t):=by
 by_cases h:t.dig∈O.map (·.dig)
 ·rw [if_pos (by rw [List.map_append];exact List.mem_append_left _ h),if_pos h]
  exact Nat.le_refl _
 ·rw [if_neg h]
  split<;>omega
theorem Z89 (c:Said→Nat) (O:List Said) (s:Said):∀ L:List Said,(L.map fun t=>if t.dig∈(O++[s]).map (·.dig) then 0 else c t).sum≤(L.map fun t=>if t.dig∈O.map (·.dig) then 0 else c t).sum
 | []=>Nat.le_refl _
 | t::L=>by
  have:=Z89 c O s L
  have:=Za0 c O s t
  simp only [List.map_cons (l:=L),List.sum_cons]
  omega
theorem Z9Z (c:Said→Nat) {O:List Said} {s:Said} (hO:s.dig∉O.map (·.dig)):∀ {L:List Said},s∈L→c s+(L.map fun t=>if t.dig∈(O++[s]).map (·.dig) then 0 else c t).sum≤(L.map fun t=>if t.dig∈O.map (·.dig) then 0 else c t).sum
 | t::L,hs=>by
  have h1:=Z89 c O s L
  have h2:=Za0 c O s t
  simp only [List.map_cons (l:=L),List.sum_cons]
  rcases List.mem_cons.1 hs with rfl|hs
  ·rw [if_pos (by simp),if_neg hO]
   omega
  ·have:=Z9Z c hO hs
   omega
theorem Zbp {f:Nat} {L O:List Said} {s:Said} (hs:s∈L) (hO:s.dig∉O.map (·.dig)):(plc f L s).length+remP f L (O++[s])≤remP f L O:=Z9Z (fun t=>(plc f L t).length) hO hs
structure Rchd (f:Nat) (xs:List SdR) (v:List Nd) (i:Nat) (P:List Plc) (O:List Said) (bad:Bool) (got:List Bool):Prop where
 eq:P=(Zn f (xs.map (·.s)) false v).2++O.flatMap (plc f (xs.map (·.s)))
 one:O.Nodup
 reach:∀ s∈O,Zi (xs.map (·.s)) s.dig=some s∧Rc f (xs.map (·.s)) (Zn f (xs.map (·.s)) false v).2 s
 closed:∀ j,j < i→∀ s,Zi (xs.map (·.s)) (P.getD j default).1=some s→s∈O
 bad_:bad=false↔((Zn f (xs.map (·.s)) false v).1=false∧(∀ s∈O,(Zn f (xs.map (·.s)) false s.value).1=false)∧∀ j,j < i→∀ s,Zi (xs.map (·.s)) (P.getD j default).1=some s→s.member=(P.getD j default).2)
 len:got.length=xs.length
 got_:∀ j,j < xs.length→(got.getD j false=true↔(xs.getD j default).s∈O)
theorem Rchd.ended {f:Nat} {xs:List SdR} {v:List Nd} {P:List Plc} {O:List Said} {bad:Bool} {got:List Bool} (h:Rchd f xs v P.length P O bad got):Ended f (xs.map (·.s)) v P O bad:=by
 have hg:∀ p∈P,∃ j,j < P.length∧P.getD j default=p:=fun p hp=>by
  obtain ⟨j,hj,rfl⟩:=List.mem_iff_getElem.1 hp
  exact ⟨j,hj,by simp [List.getD,hj]⟩
 refine ⟨h.eq,h.one,h.reach,fun p hp s hs=>?_,?_⟩
 ·obtain ⟨j,hj,rfl⟩:=hg p hp
  exact h.closed j hj s hs
 ·rw [h.bad_]
  refine ⟨fun ⟨a,b,c⟩=>⟨a,b,fun p hp s hs=>?_⟩,fun ⟨a,b,c⟩=>⟨a,b,fun j hj s hs=>c _ ?_ s hs⟩⟩
  ·obtain ⟨j,hj,rfl⟩:=hg p hp
   exact c j hj s hs
  ·rw [List.getD_eq_getElem?_getD,List.getElem?_eq_getElem hj]
   exact List.getElem_mem hj
theorem ZN {α:Type} [Inhabited α] {a b:List α} {j:Nat} (h:j < a.length):(a++b).getD j default=a.getD j default:=by
 simp [List.getD,List.getElem?_append_left h]
theorem Rchd.skip {f i:Nat} {xs:List SdR} {v:List Nd} {P:List Plc} {O:List Said} {bad:Bool} {got:List Bool} (h:Rchd f xs v i P O bad got) (hn:∀ s,Zi (xs.map (·.s)) (P.getD i default).1=some s→s∈O∧s.member=(P.getD i default).2):Rchd f xs v (i+1) P O bad got:=by
 refine ⟨h.eq,h.one,h.reach,fun j hj s hs=>?_,?_,h.len,h.got_⟩
 ·rcases Nat.lt_succ_iff_lt_or_eq.1 hj with hj|rfl
  ·exact h.closed j hj s hs
  ·exact (hn s hs).1
 ·rw [h.bad_]
  refine ⟨fun ⟨a,b,c⟩=>⟨a,b,fun j hj s hs=>?_⟩,fun ⟨a,b,c⟩=>⟨a,b,fun j hj=>c j (by omega)⟩⟩
  rcases Nat.lt_succ_iff_lt_or_eq.1 hj with hj|rfl
  ·exact c j hj s hs
  ·exact (hn s hs).2
theorem Rchd.mism {f i:Nat} {xs:List SdR} {v:List Nd} {P:List Plc} {O:List Said} {bad:Bool} {got:List Bool} {s:Said} (h:Rchd f xs v i P O bad got) (hs:Zi (xs.map (·.s)) (P.getD i default).1=some s) (hO:s∈O) (hm:s.member≠(P.getD i default).2):Rchd f xs v (i+1) P O true got:=by
 refine ⟨h.eq,h.one,h.reach,fun j hj t ht=>?_,⟨fun e=>absurd e (by simp),fun ⟨_,_,c⟩=>absurd (c i (by omega) s hs) hm⟩,h.len,h.got_⟩
 rcases Nat.lt_succ_iff_lt_or_eq.1 hj with hj|rfl
 ·exact h.closed j hj t ht
 ·rw [hs] at ht
  cases ht
  exact hO
theorem Rchd.open_ {f i k:Nat} {xs:List SdR} {v:List Nd} {P:List Plc} {O:List Said} {bad:Bool} {got:List Bool} (h:Rchd f xs v i P O bad got) (hn:(xs.map (·.s.dig)).Nodup) (hi:i < P.length) (hk:k < xs.length) (hs:Zi (xs.map (·.s)) (P.getD i default).1=some (xs.getD k default).s) (hO:(xs.getD k default).s∉O) :
  Rchd f xs v (i+1) (P++plc f (xs.map (·.s)) (xs.getD k default).s) (O++[(xs.getD k default).s]) ((bad || ((xs.getD k default).s.member != (P.getD i default).2)) || (Zn f (xs.map (·.s)) false (xs.getD k default).s.value).1) (got.set k true):=by
 have hd:=(Zl hs).2
 have hfs:Zi (xs.map (·.s)) (xs.getD k default).s.dig=some (xs.getD k default).s:=by rw [hd];exact hs
 refine ⟨by rw [h.eq];simp,?_,fun s hs'=>?_,fun j hj s hs'=>?_,?_,by rw [List.length_set];exact h.len,fun j hj=>?_⟩
 ·rw [List.nodup_append]
  refine ⟨h.one,by simp,fun a ha b hb e=>?_⟩
  rw [List.mem_singleton] at hb
  exact hO (by rw [←hb,←e];exact ha)
 ·rcases List.mem_append.1 hs' with hs' | hs'
  ·exact h.reach s hs'
  ·obtain rfl:=List.mem_singleton.1 hs'
   refine ⟨hfs,?_⟩
   have hm:P.getD i default∈P:=by
    rw [List.getD_eq_getElem?_getD,List.getElem?_eq_getElem hi]
    exact List.getElem_mem hi
   generalize P.getD i default=p at *
   rw [h.eq] at hm
   rcases List.mem_append.1 hm with hm|hm
   ·exact .base hm hs
   ·obtain ⟨t,ht,hp⟩:=List.mem_flatMap.1 hm
    exact .step (h.reach t ht).2 hp hs
 ·rw [ZN (by omega)] at hs'
  rcases Nat.lt_succ_iff_lt_or_eq.1 hj with hj|rfl
  ·exact List.mem_append_left _ (h.closed j hj s hs')
  ·rw [hs] at hs'
   cases hs'
   exact List.mem_append_right _ (List.mem_singleton.2 rfl)
 ·rw [Bool.or_eq_false_iff,Bool.or_eq_false_iff,h.bad_]
  constructor
  ·rintro ⟨⟨⟨a,b,c⟩,d⟩,g⟩
   refine ⟨a,fun s hs'=>?_,fun j hj s hs'=>?_⟩
   ·rcases List.mem_append.1 hs' with hs' | hs'
    ·exact b s hs'
    ·obtain rfl:=List.mem_singleton.1 hs'
     exact g
   ·rw [ZN (by omega)] at hs' ⊢
    rcases Nat.lt_succ_iff_lt_or_eq.1 hj with hj|rfl
    ·exact c j hj s hs'
    ·rw [hs] at hs'
     cases hs'
     simpa using d
  ·rintro ⟨a,b,c⟩
   refine ⟨⟨⟨a,fun s hs'=>b s (List.mem_append_left _ hs'),fun j hj s hs'=>?_⟩,?_⟩,b _ (List.mem_append_right _ (List.mem_singleton.2 rfl))⟩
   ·have:=c j (by omega) s (by rw [ZN (by omega)];exact hs')
    rwa [ZN (by omega)] at this
   ·have:=c i (by omega) _ (by rw [ZN hi];exact hs)
    rw [ZN hi] at this
    rw [this,bne_self_eq_false]
 ·have hlen:=h.len
  by_cases e:k=j
  ·subst e
   have:(got.set k true).getD k false=true:=by simp [List.getD,hlen,hk]
   rw [this]
   simp
  ·have:(got.set k true).getD j false=got.getD j false:=by simp [List.getD,List.getElem?_set,e]
   rw [this,h.got_ j hj,List.mem_append,List.mem_singleton]
   refine ⟨.inl,fun h'=>h'.elim id fun e2=>?_⟩
   exfalso
   have h1 : (xs.map (·.s.dig))[j]'(by simpa using hj) = (xs.map (·.s.dig))[k]'(by simpa using hk) := by
    have:=congrArg Said.dig e2
    simpa [List.getD,hj,hk] using this
   exact e ((List.getElem_inj hn).1 h1).symm
end Sg
namespace Go.Proofs.YtjajcmedipjfhaaGreatDoor
open Sg Go.IntWalk
set_option maxRecDepth 100000
set_option maxHeartbeats 4000000
section
variable {F:World} {M:List Nat} {H:List Res} {xs:List SdR}
def RchP (f:Nat) (xs:List SdR) (v:List Nd) (H:List Res) (e:Ending) (H':List Res):Prop:=∃ O P bad got ga gc pa pc,Rchd f xs v P.length P O bad got∧e=.returned (.tuple ⟨[.slice ga xs.length gc,.agg ⟨[.slice pa P.length pc,.bool bad]⟩]⟩)∧H'=.row ga gc 4 1 xs.length (got.map boV)::plR pa pc P::H∧P.length≤10000000
def Z9q (f:Nat) (xs:List SdR):Prop:=∀ x∈xs,VO x.s.value∧NGood x.s.value∧x.s.value.length < f
theorem _root_.Sg.Y19 {P R:Prop} (k:R) (h:Sg.Kp R→P:=by intro k;(first|(apply T.fieldAddrQ;apply rfl;apply rfl)|(apply T.neqB;(iterate 3 apply rfl))|(apply T.eqlP;apply rfl;apply rfl)|(apply T.eqlP0;apply rfl;apply rfl)|(apply T.neqP0;apply rfl;apply rfl)|(apply T.mv;apply rfl;apply rfl)|(apply T.asn;apply rfl;apply rfl)|(apply T.len;apply rfl;apply rfl)|(apply T.nilCheck;apply rfl;apply rfl)|(apply T.fieldAddrZ;apply rfl;apply rfl)|(apply T.load;apply rfl;apply rfl;infer_instance;apply rfl;apply rfl)|(apply T.lss;(iterate 3 apply rfl))|(apply T.gtr;(iterate 3 apply rfl))|(apply T.geq;(iterate 3 apply rfl))|(apply T.eql;(iterate 3 apply rfl))|(apply T.neq;(iterate 3 apply rfl))|(apply T.addI;apply rfl;apply rfl;omega;apply rfl)|(apply T.extract;(iterate 3 apply rfl))|(apply T.ixN;apply rfl;apply rfl;infer_instance;omega;(first|omega|(simp only [List.length_map];omega)|(simp;omega));apply rfl)|(apply T.ixF;apply rfl;apply rfl;infer_instance;exact (fun _=>rfl);apply rfl;omega;omega;apply rfl)|(apply T.fieldAddrF;apply rfl;infer_instance;exact (fun _=>rfl);apply rfl;omega;apply rfl)|(apply T.loadF;apply rfl;apply rfl;infer_instance;exact (fun _=>rfl);apply rfl;exact Zb (by omega);apply rfl;apply rfl)|(apply T.notB;apply rfl;apply rfl)|(apply T.pickT;(iterate 3 apply rfl))|(apply T.pickF;(iterate 3 apply rfl))|(apply T.buildL;(iterate 3 apply rfl))|(apply T.storeW;apply rfl;apply rfl;infer_instance;(first|rfl|(simp only [List.length_append,List.length_map,List.length_set,List.length_replicate,List.length_cons,List.length_nil];first|done|omega));(first|rfl|(simp only [List.length_append,List.length_map,List.length_set,List.length_replicate,List.length_cons,List.length_nil];first|done|omega));(first|rfl|(repeat' first|apply all_nV|apply Z0s|apply all_iV|rfl|apply all_app)))|(apply T.store;apply rfl;apply rfl;infer_instance;(first|decide|(simp;omega)|simp);apply rfl)|(apply T.storeE;apply rfl;apply rfl;infer_instance;(first|omega|(simp only [List.length_map];omega)|(simp;omega));apply rfl)|(with_reducible refine Sr.nil ?_)|(with_reducible refine S.seq ?_)|(with_reducible refine S.block ?_)|(with_reducible refine S.reg ?_)|(with_reducible refine S.skip ?_)|(with_reducible refine S.inBlock ?_)|(apply S.exit;apply rfl)|(apply T.ungV;apply rfl;(first|with_reducible rfl|decide))|(apply T.skip;apply rfl;(first|with_reducible rfl|decide);apply rfl)|(apply S.condTV;apply rfl;(first|with_reducible rfl|decide))|(apply S.condFV;apply rfl;(first|with_reducible rfl|decide))|(apply T.retW;apply rfl)|(apply T.doneW;apply rfl)|(with_reducible apply T.ofRet)|(apply SA.en;apply rfl;apply rfl;kernel_rfl)|(apply S.condT;apply rfl)|(apply S.condF;apply rfl)|fail);exact k.h):P:=h ⟨k⟩
theorem Z6f {v:List Nd} {va la:Option Addr} {vc lc f:Nat} [hRv:Rd F M H va (v.flatMap ndV)] [hRl:Rd F M H la (xs.flatMap sdV)] [RdS F M H xs] (hxl:xs.length≤2200000) (hla:xs≠[]→∃ g,la=some ⟨g,0,none⟩) (hg:NGood v) (hv:VO v) (hvf:v.length < f) (hxs:Z9q f xs) (hn:(xs.map (·.s.dig)).Nodup) (hK:(Zn f (xs.map (·.s)) false v).2.length+remP f (xs.map (·.s)) []≤10000000) :
  Meets Tryz.prog 34 [.slice va v.length vc,.slice la xs.length lc] F M H (RchP f xs v H):=by
 refine Meets.enter Tryz.func34 rfl rfl ?_
 have hf0:=hv.fo
 have ha:=IsAt.of_fo hf0
 have hv0:=Zj hf0
 have hvl:=hg.len
 have hlook:=Z6q (F:=F) (M:=M) (xs:=xs) (lc:=lc) hxl hla f
 have n0:∀ {X:List Res} [Rd F M X va (v.flatMap ndV)] [Rd F M X la (xs.flatMap sdV)],Meets Tryz.prog 61 [.slice va v.length vc,.int .i64 0,.bool false,.slice la xs.length lc] F M X (LkP X (Zn f (xs.map (·.s)) false v)):=fun {X} _ _=>by
  have h:=hlook X v va vc 0 false inferInstance inferInstance hg ha (by rw [hv0];exact hvf)
  rwa [hv0] at h
 have hr0:Rchd f xs v 0 (Zn f (xs.map (·.s)) false v).2 [] (Zn f (xs.map (·.s)) false v).1 (List.replicate xs.length false):=by
  refine ⟨by simp,List.nodup_nil,by simp,by simp,⟨fun h=>⟨h,by simp,by simp⟩,fun h=>h.1⟩,by simp,fun j hj=>?_⟩
  simp [List.getD,hj]
 have hsd:∀ {k:Nat},k < xs.length→xs.getD k default∈xs:=fun {k} hk=>by
  rw [List.getD_eq_getElem?_getD,List.getElem?_eq_getElem hk]
  exact List.getElem_mem hk
 repeat' (first|(apply T.alloc;apply rfl;intro nb)|refine Sg.Y9 ?_|fail)
 generalize nb=b5
 refine T.call rfl rfl n0 ?_
 rintro _ _ ⟨pa,pc,rfl,rfl⟩
 generalize Zn f (xs.map (·.s)) false v=z0 at *
 obtain ⟨zb,zp⟩:=z0
 dsimp only [lkV] at hr0 hK ⊢
 repeat' (first|(apply T.makeS;(iterate 3 apply rfl);(constructor<;>omega);apply rfl;intro gb)|(apply T.alloc;apply rfl;intro nb)|refine Sg.Y9 ?_|fail)
 generalize nb=b6
 generalize hL:xs.map (·.s)=L at *
 have hrl:List.replicate xs.length (Value.bool false)=(List.replicate xs.length false).map boV:=by rw [List.map_replicate];rfl
 rw [hrl]
 obtain ⟨K,hKe⟩:∃ K,K=zp.length+remP f L []:=⟨_,rfl⟩
 refine S.loopE 3 [1,5,6,7] (fun R b' μ H' e=>∃ (i:Nat) (pa:Option Addr) (pc:Nat) (bad:Bool) (P:List Plc) (O:List Said) (got:List Bool),H'=.row (some ⟨gb,0,none⟩) xs.length 4 1 xs.length (got.map boV)::.blk b6 [.slice pa P.length pc,.bool bad] 76::plR pa pc P::R∧e=(8,.int .i64 i)::b' ∧
  (i≤P.length∧Rchd f xs v i P O bad got∧P.length+remP f L O≤K)∧μ=P.length - i+remP f L O) rfl rfl ?_ _ _ ⟨0,pa,pc,zb,zp,[],List.replicate xs.length false,rfl,rfl,⟨Nat.zero_le _,hr0,by omega⟩,rfl⟩ (by repeat' first|exact trivial|refine And.intro rfl ?_)
 clear hr0
 rintro _ _ _ ⟨i,pa,pc,bad,P,O,got,rfl,rfl,⟨g1,g2,g3⟩,rfl⟩ ih
 by_cases h1:i < P.length
 ·refine S.frontR pa ?_
  refine S.rowSome (by omega) fun pg hpg=>?_
  subst hpg
  repeat' (first|refine Sg.Y8 ?_|(apply S.condQ;apply rfl;all_goals intro _)|fail)
  refine T.call rfl rfl (Z1L (xs:=xs) rfl hxl) ?_
  rintro _ _ ⟨z,hz0,rfl,hH⟩
  have hH2:=hH.symm
  subst hH2
  unfold ZbZ at hz0
  rw [hL] at hz0
  rcases hz0 with ⟨rfl,hf⟩|⟨k,rfl,hk,hf,-⟩
  ·have g2':=g2.skip (fun s hs=>by rw [hL,hf] at hs;cases hs)
   repeat' (first|refine Sg.Y9 ?_|fail)
   refine S.perm ?_ ((List.Perm.swap _ _ _).trans ((List.Perm.swap _ _ _).cons _))
   exact ih _ _ _ _ ⟨i+1,_,pc,bad,P,O,got,rfl,rfl,⟨by omega,g2',g3⟩,rfl⟩ (by omega) (by repeat' first|exact trivial|refine And.intro rfl ?_)
  ·have hm:=hsd hk
   obtain ⟨lg,rfl⟩:=hla (fun e=>by rw [e] at hk;exact absurd hk (by simp))
   have hsL:(xs.getD k default).s∈L:=by rw [←hL];exact List.mem_map_of_mem hm
   have fs:(xs.getD k default).s∈O→∀ b2,b2=(bad || ((xs.getD k default).s.member != (P.getD i default).2))→Rchd f xs v (i+1) P O b2 got:=fun hO b2 hb2=>by
    cases hmm:((xs.getD k default).s.member != (P.getD i default).2) with
    | true =>
     rw [hb2,hmm,Bool.or_true]
     exact g2.mism (by rw [hL];exact hf) hO (by simpa using hmm)
    | false =>
     rw [hb2,hmm,Bool.or_false]
     exact g2.skip fun s hs=>by
      rw [hL,hf] at hs
      cases hs
      exact ⟨hO,by simpa using hmm⟩
   have fo:(xs.getD k default).s∉O→∀ b2,b2=(bad || ((xs.getD k default).s.member != (P.getD i default).2))→Rchd f xs v (i+1) (P++plc f L (xs.getD k default).s) (O++[(xs.getD k default).s]) (b2 || (Zn f L false (xs.getD k default).s.value).1) (got.set k true):=fun hO b2 hb2=>by
    have h:=g2.open_ hn h1 hk (by rw [hL];exact hf) hO
    rw [hL,←hb2] at h
    exact h
   have hgl:∀ b,got.getD k false=b→(got.map boV)[k]?=some (.bool b):=fun b hb=>by
    have hkl:k < got.length:=by rw [g2.len];exact hk
    rw [List.getElem?_map,List.getElem?_eq_getElem hkl,←hb]
    simp [List.getD,hkl,boV]
   have hgt:=g2.got_ k hk
   have hgln:=g2.len
   have hdg:(xs.getD k default).s∉O→(xs.getD k default).s.dig∉O.map (·.dig):=fun hO hd=>by
    obtain ⟨t,ht,he⟩:=List.mem_map.1 hd
    have h5:=(g2.reach t ht).1
    rw [hL,he,(Zl hf).2,hf] at h5
    cases h5
    exact hO ht
   obtain ⟨o1,o2,o3⟩:=hxs _ hm
   have hxr:∀ {X:List Res} [RdS F M X xs],Rd F M X (xs.getD k default).a ((xs.getD k default).s.value.flatMap ndV):=fun {X} h=>h.h _ hm
   have n1:∀ {X:List Res} [RdS F M X xs] [Rd F M X (some ⟨lg,0,none⟩) (xs.flatMap sdV)],Meets Tryz.prog 61 [.slice (xs.getD k default).a (xs.getD k default).s.value.length (xs.getD k default).c,.int .i64 0,.bool false,.slice (some ⟨lg,0,none⟩) xs.length lc] F M X (LkP X (Zn f L false (xs.getD k default).s.value)):=fun {X} _ _=>by
    have h:=hlook X (xs.getD k default).s.value (xs.getD k default).a (xs.getD k default).c 0 false hxr inferInstance o2 (IsAt.of_fo o1.fo) (by rw [Zj o1.fo];exact o3)
    rwa [Zj o1.fo,hL] at h
   cases bad
   case' true =>
    repeat' (first|refine Sg.Y8 ?_|(apply S.condQ;apply rfl;all_goals intro _)|fail)
    (apply S.drawL;(case Hs=>exact [.blk b6 [.slice (some ⟨pg,0,none⟩) P.length pc,.bool true] 76]);(case es=>exact  [17]);(case lt=>exact  [17]);(case n=>exact  18);(case hn=>rfl))
    repeat' (first|(apply SA.gxv;(iterate 5 apply rfl);kernel_rfl;apply rfl)|(apply SA.qn;(iterate 4 apply rfl);kernel_rfl)|(apply SA.done;apply rfl;kernel_rfl)|(apply SK.late;decide)|refine Sg.Y9 ?_|fail)
    have hbb:true=(true || ((xs.getD k default).s.member != (P.getD i default).2)):=rfl
   case' false =>
    repeat' (first|refine Sg.Y8 ?_|(apply S.condQ;apply rfl;all_goals intro _)|fail)
    (apply S.drawL;(case Hs=>exact .blk b6 [.slice (some ⟨pg,0,none⟩) P.length pc,.bool false] 76::plR (some ⟨pg,0,none⟩) pc P::H);(case es=>exact  [17]);(case lt=>exact  [17]);(case n=>exact  18);(case hn=>rfl))
    repeat' (first|(apply SA.gz;(iterate 4 apply rfl);(first|with_reducible rfl|decide);apply rfl;kernel_rfl)|(apply SA.gn;(iterate 4 apply rfl);(first|with_reducible rfl|decide);apply rfl;kernel_rfl)|(apply SA.qn;(iterate 4 apply rfl);kernel_rfl)|(apply SA.done;apply rfl;kernel_rfl)|(apply SK.late;decide)|refine Sg.Y19 ?_|fail)
    generalize hbb':(!((xs.getD k default).s.member==(P.getD i default).2))=b2
    have hbb:b2=(false || ((xs.getD k default).s.member != (P.getD i default).2)):=hbb'.symm
    clear hbb'
    cases b2
   all_goals
    dsimp only [List.set_cons_succ,List.set_cons_zero]
    by_cases hO:(xs.getD k default).s∈O
    ·have f1:=fs hO _ hbb
     repeat' (first|(refine T.loadE (j:=k) (v:=.bool true) rfl rfl inferInstance (hgl true (hgt.2 hO)) rfl ?_)|refine Sg.Y10 ?_|fail)
     refine S.perm ?_ ((List.Perm.swap _ _ _).trans ((List.Perm.swap _ _ _).cons _))
     exact ih _ _ _ _ ⟨i+1,_,pc,_,P,O,got,rfl,rfl,⟨by omega,f1,g3⟩,rfl⟩ (by omega) (by repeat' first|exact trivial|refine And.intro rfl ?_)
    ·have f1:=fo hO _ hbb
     have hgf:got.getD k false=false:=by simpa using fun h=>hO (hgt.1 h)
     have hro:=Zbp (f:=f) hsL (hdg hO)
     repeat' (first|(refine T.loadE (j:=k) (v:=.bool false) rfl rfl inferInstance (hgl false hgf) rfl ?_)|refine Sg.Y9 ?_|fail)
     refine T.call rfl rfl n1 ?_
     rintro _ _ ⟨pa2,pc2,rfl,rfl⟩
     obtain ⟨z,hz⟩:∃ z,Zn f L false (xs.getD k default).s.value=z:=⟨_,rfl⟩
     rw [show plc f L (xs.getD k default).s=z.2 by rw [←hz]] at f1 hro
     rw [hz] at f1 ⊢
     obtain ⟨zb,zp⟩:=z
     dsimp only [lkV,plR] at f1 hro ⊢
     have hsm:((got.map boV).set k (.bool true))=(got.set k true).map boV:=by rw [List.map_set];rfl
     rw [hsm]
     repeat' (first|(apply Sr.same;refine T.appendAllF (g:=plV) (xs:=P) (us:=zp) rfl rfl inferInstance inferInstance rfl (fun _=>rfl) (fun _=>rfl) rfl rfl (by constructor<;>omega) rfl ?_;intro pe pf)|(apply T.alloc;apply rfl;intro nb)|refine Sg.Y9 ?_|fail)
     refine S.sublist ?_ (PSub.drop (PSub.drop (PSub.refl _)))
     refine S.perm ?_ ((List.Perm.swap _ _ _).trans ((List.Perm.swap _ _ _).cons _))
     rw [←List.length_append]
     exact ih _ _ _ _ ⟨i+1,pe,pf,_,P++zp,O++[(xs.getD k default).s],got.set k true,rfl,rfl,⟨by rw [List.length_append];omega,f1,by rw [List.length_append];omega⟩,rfl⟩ (by rw [List.length_append];omega) (by repeat' first|exact trivial|refine And.intro rfl ?_)
 ·obtain rfl:i=P.length:=by omega
  clear ih
  repeat' (first|refine Sg.Y8 ?_|(apply S.condQ;apply rfl;all_goals intro _)|fail)
  (apply S.draw;(case Hs=>exact .blk b6 [.slice pa P.length pc,.bool bad] 76::H);(case es=>exact  [3]);(case n=>exact  4);(case hn=>rfl))
  repeat' (first|(apply SA.qn;(iterate 4 apply rfl);kernel_rfl)|(apply SA.done;apply rfl;kernel_rfl)|(apply SK.intro;(first|exact fun _ h=>h|exact fun _ h=>St.psub h (by ((repeat (first|dsimp only [List.set_cons_zero]|dsimp only [List.set_cons_succ]));repeat' first|exact PSub.refl _|exact PSub.nil|(apply PSub.take;(repeat' first|(with_reducible exact Z0)|(with_reducible apply Z1)))|(with_reducible apply PSub.drop)|((apply PSub.take);(repeat' first|exact Z0|(apply Z1)))))))|refine Sg.Y10 ?_|fail)
  exact ⟨_,PSub.take Z0 (PSub.drop (PSub.take Z0 (PSub.drop (PSub.refl _)))),O,P,bad,got,some ⟨gb,0,none⟩,xs.length,pa,pc,g2,rfl,rfl,by omega⟩
end
end Go.Proofs.YtjajcmedipjfhaaGreatDoor
/- What is revealed has nothing of the format left; plain. -/
namespace Sg
open Go.Lib
end Sg
/- Each digest that is met stands in the payload, or in what was opened ahead of it; plain. -/
namespace Sg
end Sg
/- With one disclosure fewer less is revealed; plain. -/
namespace Sg
structure Less (L L':List Said) (s0:Said):Prop where
 has:Zi L s0.dig=some s0
 no:Zi L' s0.dig=none
 same:∀ d,d≠s0.dig→Zi L' d=Zi L d
theorem Z1F {m a b:List Dg} (h:m=a++b) (hn:m.Nodup):a.Nodup:=by
 subst h
 exact (List.nodup_append.1 hn).1
theorem Zce {met r:List Dg} {d:Dg} (h:(met++[d]++r).Nodup):d∉met:=fun hm=>by
 have h1:=(List.nodup_append.1 h).1
 exact (List.nodup_append.1 h1).2.2 d hm d (by simp) rfl
def Z7M (val:RevV):Prop:=∀ met x key m y,Vl x→val met x key=some (m,y)→∃ r,m=met++r
end Sg
/- With one disclosure fewer less is revealed: the whole way; plain. -/
namespace Sg
theorem Z2V {L:List Said} {val:RevV} (hv:Z7M val) (hL:∀ s∈L,Vl s.value):∀ (r:List (List Nd)) (met:List Dg) (ys:List (List Nd)) (m:List Dg) (zs:List (List Nd)),(∀ y∈r,Vl y)→Zg val L met ys r=some (m,zs)→∃ q,m=met++q
 | [],met,ys,m,zs,_,h=>by
  rw [Zg] at h
  cases h
  exact ⟨[],by simp⟩
 | x::r,met,ys,m,zs,hr,h=>by
  have hr':∀ y∈r,Vl y:=fun y h=>hr y (List.mem_cons_of_mem _ h)
  have go:∀ {e} (ys':List (List Nd)),Zg val L (met++e) ys' r=some (m,zs)→∃ q,m=met++q:=fun {e} ys' h'=>by
   obtain ⟨u,rfl⟩:=Z2V hv hL r _ _ _ _ hr' h'
   exact ⟨e++u,by rw [List.append_assoc]⟩
  rw [Zg] at h
  split at h
  ·split at h
   ·cases h
   ·rename_i m1 y h1
    obtain ⟨e,rfl⟩:=hv _ _ _ _ _ (hr x (List.mem_cons_self ..)) h1
    exact go _ h
  ·split at h
   ·split at h
    ·exact go _ h
    ·rename_i s hs
     split at h
     ·cases h
     ·split at h
      ·exact go _ h
      ·split at h
       ·cases h
       ·rename_i m1 y h1
        obtain ⟨e,rfl⟩:=hv _ _ _ _ _ (hL s (Zl hs).1) h1
        rw [List.append_assoc] at h
        exact go _ h
   ·cases h
theorem Z0F {val:RevV} (hv:Z7M val) {top:Bool}:∀ (r:List (List Nd)) (met:List Dg) (ys:List (List Nd)) (m:List Dg) (zs:List (List Nd)),(∀ y∈r,Vl y)→Z8 val top met ys r=some (m,zs)→∃ q,m=met++q
 | [],met,ys,m,zs,_,h=>by
  rw [Z8] at h
  cases h
  exact ⟨[],by simp⟩
 | x::r,met,ys,m,zs,hr,h=>by
  have hr':∀ y∈r,Vl y:=fun y h=>hr y (List.mem_cons_of_mem _ h)
  rw [Z8] at h
  split at h
  ·exact Z0F hv r _ _ _ _ hr' h
  ·split at h
   ·exact Z0F hv r _ _ _ _ hr' h
   ·split at h
    ·cases h
    ·rename_i m1 y h1
     obtain ⟨e,rfl⟩:=hv _ _ _ _ _ (hr x (List.mem_cons_self ..)) h1
     obtain ⟨u,rfl⟩:=Z0F hv r _ _ _ _ hr' h
     exact ⟨e++u,by rw [List.append_assoc]⟩
theorem Z26 {L:List Said} {val:RevV} (hv:Z7M val) (hL:∀ s∈L,Vl s.value):∀ (r:List (List Nd)) (met:List Dg) (ns:List (List UInt8)) (ys:List (List Nd)) (m:List Dg) (zs:List (List Nd)),(∀ y∈r,Vl y)→Zf val L met ns ys r=some (m,zs)→∃ q,m=met++q
 | [],met,ns,ys,m,zs,_,h=>by
  rw [Zf] at h
  cases h
  exact ⟨[],by simp⟩
 | x::r,met,ns,ys,m,zs,hr,h=>by
  have hr':∀ y∈r,Vl y:=fun y h=>hr y (List.mem_cons_of_mem _ h)
  have go:∀ {e ns'} (ys':List (List Nd)),Zf val L (met++e) ns' ys' r=some (m,zs)→∃ q,m=met++q:=fun {e ns'} ys' h'=>by
   obtain ⟨u,rfl⟩:=Z26 hv hL r _ _ _ _ _ hr' h'
   exact ⟨e++u,by rw [List.append_assoc]⟩
  rw [Zf] at h
  split at h
  ·split at h
   ·exact go _ h
   ·rename_i s hs
    split at h
    ·split at h
     ·exact go _ h
     ·split at h
      ·cases h
      ·rename_i m1 y h1
       obtain ⟨e,rfl⟩:=hv _ _ _ _ _ (hL s (Zl hs).1) h1
       rw [List.append_assoc] at h
       exact go _ h
    ·cases h
  ·cases h
theorem Z84 {L:List Said} (hL:∀ s∈L,Vl s.value):∀ (f:Nat) (top:Bool),Z7M (revV f L top)
 | 0,top=>fun met x key m y _ h=>by cases h
 | f+1,top=>fun met x key m y hx h=>by
  have ih:=Z84 hL f false
  have hk:=hx.kids
  rw [revV] at h
  simp only at h
  split at h
  ·split at h
   ·cases h
   ·split at h
    ·cases h
    ·rename_i m1 ys h1
     obtain ⟨e,rfl⟩:=Z0F ih _ _ _ _ _ hk h1
     split at h
     ·cases h
      exact ⟨e,rfl⟩
     ·rename_i hh hd
      split at h
      ·split at h
       ·cases h
       ·rename_i m2 zs h5
        obtain ⟨u,rfl⟩:=Z26 ih hL _ _ _ _ _ _ (Z1s hk hd).1.kids h5
        cases h
        exact ⟨e++u,by rw [List.append_assoc]⟩
      ·cases h
  ·split at h
   ·split at h
    ·cases h
    ·rename_i m1 ys h1
     obtain ⟨e,rfl⟩:=Z2V ih hL _ _ _ _ _ hk h1
     cases h
     exact ⟨e,rfl⟩
   ·cases h
    exact ⟨[],by simp⟩
end Sg
/- What the document puts together is what the program's way down has put out; plain. -/
namespace Sg
open Go.Lib
abbrev BldV:=List Nd→Option (List Nd)
def rowH (n:Nd) (ys:List (List Nd)):List Nd:=⟨n.kind,[],n.text,n.whole,n.int,ys.length⟩::ys.flatten
def Z1A (val:BldV) (L:List Said) (top:Bool) (kind:Int):List (List Nd)→List (List Nd)→Option (List (List Nd))
 | ys,[]=>some ys
 | ys,k::r=>match (if kind=6 then memV k Z0o else none) with
  | some dk=>match Zi L (Z2 dk).text with
   | none=>Z1A val L top kind ys r
   | some s=>match val s.value with
    | none=>none
    | some y=>Z1A val L top kind (ys++[ZJ y (Z2 k).key]) r
  | none=>if kind=7∧((Z2 k).key=sdN∨(top=true∧(Z2 k).key=algN)) then Z1A val L top kind ys r else
   match val k with
   | none=>none
   | some y=>Z1A val L top kind (ys++[ZJ y (Z2 k).key]) r
def bSd (val:BldV) (L:List Said):List (List Nd)→List (List Nd)→Option (List (List Nd))
 | ys,[]=>some ys
 | ys,x::r=>match Zi L (Z2 x).text with
  | none=>bSd val L ys r
  | some s=>match val s.value with
   | none=>none
   | some y=>bSd val L (ys++[ZJ y s.name]) r
def ZZ:Nat→List Said→Bool→BldV
 | 0,_,_=>fun _=>none
 | g+1,L,top=>fun x=>if (Z2 x).kind < 6 then some [(Z2 x).key_ []] else
  match Z1A (ZZ g L false) L top (Z2 x).kind [] (kidsOf x 0) with
  | none=>none
  | some ys=>if (Z2 x).kind=6 then some (rowH (Z2 x) ys) else
   match memV x sdN with
   | none=>some (rowH (Z2 x) ys)
   | some h=>match bSd (ZZ g L false) L ys (kidsOf h 0) with
    | none=>none
    | some zs=>some (rowH (Z2 x) zs)
def Z8F (val:RevV) (bv:BldV):Prop:=∀ met x key m y,VO x→val met x key=some (m,y)→m.Nodup→∃ y0,bv x=some y0∧y=ZJ y0 key
theorem Z3W {L:List Said} {val:RevV} {bv:BldV} {top:Bool} (hv:Z8F val bv) (hg:Z7M val) (hL:∀ s∈L,VO s.value):∀ (r:List (List Nd)) (met:List Dg) (ys:List (List Nd)) (m:List Dg) (zs:List (List Nd)),(∀ y∈r,VO y∧(Z2 y).key=[])→m.Nodup→Zg val L met ys r=some (m,zs)→Z1A bv L top 6 ys r=some zs
 | [],met,ys,m,zs,_,_,h=>by
  rw [Zg] at h
  cases h
  rfl
 | x::r,met,ys,m,zs,hr,hn,h=>by
  obtain ⟨hx,hxk⟩:=hr x (List.mem_cons_self ..)
  have hr0:=fun y hy=>hr y (List.mem_cons_of_mem _ hy)
  have ih:=fun met ys=>Z3W (top:=top) hv hg hL r met ys m zs hr0 hn
  have hLv:∀ s∈L,Vl s.value:=fun s hs=>(hL s hs).vl
  have gr:=fun {met ys}=>Z2V hg hLv r met ys m zs fun y hy=>(hr0 y hy).1.vl
  rw [Zg] at h
  rw [Z1A,if_pos rfl]
  cases hd:memV x Z0o with
  | none =>
   rw [hd] at h
   simp only at h ⊢
   rw [if_neg (by simp)]
   cases h1:val met x [] with
   | none=>rw [h1] at h;cases h
   | some p =>
    obtain ⟨m1,y⟩:=p
    rw [h1] at h
    obtain ⟨u,hu⟩:=gr h
    obtain ⟨y0,e1,e2⟩:=hv _ _ _ _ _ hx h1 (Z1F hu hn)
    rw [e1]
    simp only
    rw [hxk,←e2]
    exact ih _ _ h
  | some k =>
   rw [hd] at h
   simp only at h ⊢
   by_cases hc:(Z2 x).kids=1∧(Z2 k).kind=5
   ·rw [if_pos hc] at h
    cases hf:Zi L (Z2 k).text with
    | none =>
     rw [hf] at h
     exact ih _ _ h
    | some s =>
     rw [hf] at h
     simp only at h ⊢
     by_cases hm:s.member=true
     ·rw [if_pos hm] at h
      cases h
     ·rw [if_neg hm] at h
      by_cases hin:(Z2 k).text∈met
      ·rw [if_pos hin] at h
       obtain ⟨u,hu⟩:=gr h
       rw [hu] at hn
       exact absurd hin (Zce hn)
      ·rw [if_neg hin] at h
       cases h1:val (met++[(Z2 k).text]) s.value [] with
       | none=>rw [h1] at h;cases h
       | some p =>
        obtain ⟨m1,y⟩:=p
        rw [h1] at h
        obtain ⟨u,hu⟩:=gr h
        obtain ⟨y0,e1,e2⟩:=hv _ _ _ _ _ (hL s (Zl hf).1) h1 (Z1F hu hn)
        rw [e1]
        simp only
        rw [hxk,←e2]
        exact ih _ _ h
   ·rw [if_neg hc] at h
    cases h
theorem Z1p {L:List Said} {val:RevV} {bv:BldV} {top:Bool} (hv:Z8F val bv) (hg:Z7M val):∀ (r:List (List Nd)) (met:List Dg) (ys:List (List Nd)) (m:List Dg) (zs:List (List Nd)),(∀ y∈r,VO y)→m.Nodup→Z8 val top met ys r=some (m,zs)→Z1A bv L top 7 ys r=some zs
 | [],met,ys,m,zs,_,_,h=>by
  rw [Z8] at h
  cases h
  rfl
 | x::r,met,ys,m,zs,hr,hn,h=>by
  have hx:=hr x (List.mem_cons_self ..)
  have hr0:=fun y hy=>hr y (List.mem_cons_of_mem _ hy)
  have ih:=fun met ys=>Z1p (L:=L) (top:=top) hv hg r met ys m zs hr0 hn
  rw [Z8] at h
  rw [Z1A,if_neg (by decide)]
  simp only
  by_cases k1:(Z2 x).key=sdN
  ·rw [if_pos k1] at h
   rw [if_pos ⟨trivial,.inl k1⟩]
   exact ih _ _ h
  ·rw [if_neg k1] at h
   by_cases k2:top=true∧(Z2 x).key=algN
   ·rw [if_pos k2] at h
    rw [if_pos ⟨trivial,.inr k2⟩]
    exact ih _ _ h
   ·rw [if_neg k2] at h
    rw [if_neg (fun e=>e.2.elim k1 k2)]
    cases h1:val met x (Z2 x).key with
    | none=>rw [h1] at h;cases h
    | some p =>
     obtain ⟨m1,y⟩:=p
     rw [h1] at h
     obtain ⟨u,hu⟩:=Z0F hg r _ _ m zs (fun y hy=>(hr0 y hy).vl) h
     obtain ⟨y0,e1,e2⟩:=hv _ _ _ _ _ hx h1 (Z1F hu hn)
     rw [e1]
     simp only
     rw [←e2]
     exact ih _ _ h
theorem Z48 {L:List Said} {val:RevV} {bv:BldV} (hv:Z8F val bv) (hg:Z7M val) (hL:∀ s∈L,VO s.value):∀ (r:List (List Nd)) (met:List Dg) (ns:List (List UInt8)) (ys:List (List Nd)) (m:List Dg) (zs:List (List Nd)),(∀ y∈r,VO y)→m.Nodup→Zf val L met ns ys r=some (m,zs)→bSd bv L ys r=some zs
 | [],met,ns,ys,m,zs,_,_,h=>by
  rw [Zf] at h
  cases h
  rfl
 | x::r,met,ns,ys,m,zs,hr,hn,h=>by
  have hr0:=fun y hy=>hr y (List.mem_cons_of_mem _ hy)
  have ih:=fun met ns ys=>Z48 hv hg hL r met ns ys m zs hr0 hn
  have hLv:∀ s∈L,Vl s.value:=fun s hs=>(hL s hs).vl
  have gr:=fun {met ns ys}=>Z26 hg hLv r met ns ys m zs fun y hy=>(hr0 y hy).vl
  rw [Zf] at h
  rw [bSd]
  by_cases k5:(Z2 x).kind=5
  ·rw [if_pos k5] at h
   cases hf:Zi L (Z2 x).text with
   | none =>
    rw [hf] at h
    exact ih _ _ _ h
   | some s =>
    rw [hf] at h
    simp only at h ⊢
    by_cases hc:s.member=true∧s.name∉ns
    ·rw [if_pos hc] at h
     by_cases hin:(Z2 x).text∈met
     ·rw [if_pos hin] at h
      obtain ⟨u,hu⟩:=gr h
      rw [hu] at hn
      exact absurd hin (Zce hn)
     ·rw [if_neg hin] at h
      cases h1:val (met++[(Z2 x).text]) s.value s.name with
      | none=>rw [h1] at h;cases h
      | some p =>
       obtain ⟨m1,y⟩:=p
       rw [h1] at h
       obtain ⟨u,hu⟩:=gr h
       obtain ⟨y0,e1,e2⟩:=hv _ _ _ _ _ (hL s (Zl hf).1) h1 (Z1F hu hn)
       rw [e1]
       simp only
       rw [←e2]
       exact ih _ _ _ h
    ·rw [if_neg hc] at h
     cases h
  ·rw [if_neg k5] at h
   cases h
theorem VO.rowH_eq {x:List Nd} (h:VO x) (hk:(Z2 x).kind=6∨(Z2 x).kind=7) (ys:List (List Nd)) (key:List UInt8):rowN (Z2 x).kind key ys=ZJ (rowH (Z2 x) ys) key:=by
 obtain ⟨d,nm,h⟩:=h
 obtain ⟨-,h2,-⟩:=h.open_
 obtain ⟨p1,p2,p3⟩:=Za3 h2 hk
 unfold rowN rowH ZJ
 rw [p1,p2,p3]
 rfl
theorem VO.kind {x:List Nd} (h:VO x):1≤(Z2 x).kind∧(Z2 x).kind≤7:=by
 obtain ⟨d,nm,h⟩:=h
 obtain ⟨-,h2,-⟩:=h.open_
 unfold Zk at h2
 by_cases hc:(Z2 x).kind < 1∨7 < (Z2 x).kind∨(Z2 x).kids < 0∨(0 < (Z2 x).kids∧(Z2 x).kind≠6∧(Z2 x).kind≠7)
 ·rw [if_pos hc] at h2
  cases h2
 ·omega
theorem Z69 {L:List Said} (hL:∀ s∈L,VO s.value):∀ (g:Nat) (top:Bool),Z8F (revV g L top) (ZZ g L top)
 | 0,top=>fun met x key m y _ h _=>by cases h
 | g+1,top=>fun met x key m y hx h hn=>by
  have hLv:∀ s∈L,Vl s.value:=fun s hs=>(hL s hs).vl
  have ih:=Z69 hL g false
  have hg:=Z84 hLv g false
  have hk:=hx.kind
  rw [revV] at h
  simp only at h
  rw [ZZ]
  simp only
  by_cases k7:(Z2 x).kind=7
  ·rw [if_pos k7] at h
   rw [if_neg (by omega)]
   cases hd:memV x Z0o with
   | some _=>rw [hd] at h;cases h
   | none =>
    rw [hd] at h
    simp only at h
    cases h1:Z8 (revV g L false) top met [] (kidsOf x 0) with
    | none=>rw [h1] at h;cases h
    | some p =>
     obtain ⟨m1,ys⟩:=p
     rw [h1] at h
     simp only at h
     rw [hx.hidden k7] at h
     cases hs:memV x sdN with
     | none =>
      rw [hs] at h
      cases h
      rw [k7,Z1p (L:=L) ih hg (kidsOf x 0) met [] _ _ (fun y hy=>hx.kids y hy) hn h1]
      simp only
      rw [if_neg (by decide)]
      refine ⟨_,rfl,?_⟩
      rw [←hx.rowH_eq (.inr k7),k7]
     | some hh =>
      rw [hs] at h
      simp only at h
      have hm:hh∈kidsOf x 0:=(Z3i hs).1
      by_cases k6:(Z2 hh).kind=6
      ·rw [if_pos k6] at h
       cases h2:Zf (revV g L false) L m1 (Zx (kidsOf x 0)) ys (kidsOf hh 0) with
       | none=>rw [h2] at h;cases h
       | some p2 =>
        obtain ⟨m2,zs⟩:=p2
        rw [h2] at h
        cases h
        obtain ⟨u,hu⟩:=Z26 hg hLv _ _ _ _ _ _ (fun y hy=>((hx.kids hh hm).kids y hy).vl) h2
        rw [k7,Z1p (L:=L) ih hg (kidsOf x 0) met [] _ _ (fun y hy=>hx.kids y hy) (Z1F hu hn) h1]
        simp only
        rw [if_neg (by decide),Z48 ih hg hL _ _ _ _ _ _ (fun y hy=>(hx.kids hh hm).kids y hy) hn h2]
        simp only
        refine ⟨_,rfl,?_⟩
        rw [←hx.rowH_eq (.inr k7),k7]
      ·rw [if_neg k6] at h
       cases h
  ·rw [if_neg k7] at h
   by_cases k6:(Z2 x).kind=6
   ·rw [if_pos k6] at h
    rw [if_neg (by omega)]
    cases h1:Zg (revV g L false) L met [] (kidsOf x 0) with
    | none=>rw [h1] at h;cases h
    | some p =>
     obtain ⟨m1,ys⟩:=p
     rw [h1] at h
     cases h
     rw [k6,Z3W (top:=top) ih hg hL (kidsOf x 0) met [] _ _ (fun y hy=>⟨hx.kids y hy,hx.noname k6 hy⟩) hn h1]
     simp only
     rw [if_pos trivial]
     refine ⟨_,rfl,?_⟩
     rw [←hx.rowH_eq (.inl k6),k6]
   ·rw [if_neg k6] at h
    cases h
    rw [if_pos (by omega)]
    exact ⟨_,rfl,rfl⟩
end Sg
/- The walk of what the document puts together. -/
/- guards -/
namespace Sg
open Go
theorem Z3o {val:BldV} {L:List Said} {top:Bool} {kind:Int}:∀ (r ys zs:List (List Nd)),Z1A val L top kind ys r=some zs→∃ us,zs=ys++us
 | [],ys,zs,h=>by
  rw [Z1A] at h
  cases h
  exact ⟨[],by simp⟩
 | k::r,ys,zs,h=>by
  have go:∀ y,Z1A val L top kind (ys++[y]) r=some zs→∃ us,zs=ys++us:=fun y h=>by
   obtain ⟨us,rfl⟩:=Z3o r _ _ h
   exact ⟨y::us,by simp⟩
  rw [Z1A] at h
  split at h
  ·split at h
   ·exact Z3o r _ _ h
   ·split at h
    ·cases h
    ·exact go _ h
  ·split at h
   ·exact Z3o r _ _ h
   ·split at h
    ·cases h
    ·exact go _ h
theorem ZaY {val:BldV} {L:List Said}:∀ (r ys zs:List (List Nd)),bSd val L ys r=some zs→∃ us,zs=ys++us
 | [],ys,zs,h=>by
  rw [bSd] at h
  cases h
  exact ⟨[],by simp⟩
 | k::r,ys,zs,h=>by
  rw [bSd] at h
  split at h
  ·exact ZaY r _ _ h
  ·split at h
   ·cases h
   ·obtain ⟨us,rfl⟩:=ZaY r _ _ h
    exact ⟨[_]++us,by rw [List.append_assoc]⟩
theorem Z1Q {g:Nat} {L:List Said} {top:Bool} {x y:List Nd} (h:ZZ g L top x=some y):∃ n r,y=n::r:=by
 cases g with
 | zero=>cases h
 | succ g =>
  rw [ZZ] at h
  simp only at h
  repeat' (split at h)
  all_goals (cases h;try exact ⟨_,_,rfl⟩)
theorem Z3n {val:BldV} {L:List Said} {top:Bool} {kind:Int} {r ys zs:List (List Nd)} (h:Z1A val L top kind ys r=some zs):ys.flatten.length≤zs.flatten.length:=by
 obtain ⟨us,rfl⟩:=Z3o _ _ _ h
 rw [List.flatten_append,List.length_append]
 omega
theorem ZaX {val:BldV} {L:List Said} {r ys zs:List (List Nd)} (h:bSd val L ys r=some zs):ys.flatten.length≤zs.flatten.length:=by
 obtain ⟨us,rfl⟩:=ZaY _ _ _ h
 rw [List.flatten_append,List.length_append]
 omega
theorem Z1W (n:Nd) (ys:List (List Nd)):(rowH n ys).length=ys.flatten.length+1:=rfl
theorem Z66 (n:Nd) (ys:List (List Nd)) (n0:Nd) (r0:List Nd) (k:List UInt8):(rowH n ys++(n0.named k::r0)).set 0 ⟨n.kind,[],n.text,n.whole,n.int,(ys.length:Int)+1⟩=rowH n (ys++[ZJ (n0::r0) k]):=by
 simp [rowH,ZJ]
end Sg
namespace Go.Proofs.YtjajcmedipjfhaaGreatDoor
open Sg Go.IntWalk
set_option maxRecDepth 100000
set_option maxHeartbeats 4000000
section
variable {F:World} {M:List Nat} {xs:List SdR}
def BldP (H:List Res) (y:List Nd) (e:Ending) (H':List Res):Prop:=∃ oa oc,e=.returned (.slice oa y.length oc)∧H'=noR oa oc y::H
def BldQ (H:List Res) (y:List Nd) (e:Ending) (H':List Res):Prop:=BldP H y e H'∨∃ b n,e=.returned (.slice (some ⟨b,0,none⟩) 1 1)∧y=[n]∧H'=.blk b (ndV n) 34::H
theorem BldQ.to {P:Program} {g:FuncId} {args:List Value} {F:World} {M:List Nat} {H H0:List Res} {y:List Nd} (h:Meets P g args F M H0 (BldQ H y)):Meets P g args F M H0 (BldP H y):=Z9v h fun e H' h=>by
 rcases h with h|⟨b,n,rfl,rfl,rfl⟩
 ·exact ⟨H',h,fun _ h=>h⟩
 ·exact ⟨_,⟨some ⟨b,0,none⟩,1,rfl,rfl⟩,fun w hw=>hw.blkRowN (n:=1) (sz:=6) rfl (by decide)⟩
def BldS (F:World) (M:List Nat) (xs:List SdR) (la:Option Addr) (lc g:Nat):Prop:=∀ (H:List Res) (v:List Nd) (va:Option Addr) (vc q:Nat) (top:Bool) (y:List Nd),Rd F M H va (v.flatMap ndV)→Rd F M H la (xs.flatMap sdV)→RdS F M H xs→NGood v→IsAt v q→VO (Za v q)→ZZ g (xs.map (·.s)) top (Za v q)=some y→y.length≤2200000 →
 Meets Tryz.prog 35 [.slice va v.length vc,.int .i64 q,.slice la xs.length lc,.bool top] F M H (BldP H y)
theorem Z57 {la:Option Addr} {lc f:Nat} (hxl:xs.length≤2200000) (hla:xs≠[]→∃ g,la=some ⟨g,0,none⟩) (hxs:Z9q f xs):∀ g,BldS F M xs la lc g
 | 0=>fun _ _ _ _ _ _ _ _ _ _ _ _ _ h _=>by cases h
 | g+1=>fun H v va vc q top y hRv hRl hRs hg ha hvo hy hyl=>by
  have IH:BldS F M xs la lc g:=Z57 hxl hla hxs g
  refine BldQ.to (Meets.enter Tryz.func35 rfl rfl ?_)
  have hlt:=ha.lt
  have hvl:=hg.len
  obtain ⟨hk1,hk2⟩:=ha.kids_len
  have hkk:kidsOf (Za v q) 0=kidsOf v q:=Zv ha
  have e0:Z2 (Za v q)=v.getD q default:=Z4 hlt
  have hkd:=hvo.kind
  have hsd:∀ {k:Nat},k < xs.length→xs.getD k default∈xs:=fun {k} hk=>by
   rw [List.getD_eq_getElem?_getD,List.getElem?_eq_getElem hk]
   exact List.getElem_mem hk
  have hol2:(offs (q+1) (kidsOf v q)).length=(kidsOf v q).length:=Z0g ..
  generalize hL:xs.map (·.s)=L at *
  rw [ZZ] at hy
  simp only at hy
  rw [hkk,e0] at hy
  rw [e0] at hkd
  obtain ⟨n,hn⟩:∃ n,n=v.getD q default:=⟨_,rfl⟩
  rw [←hn] at hy hkd
  by_cases c6:n.kind < 6
  ·rw [if_pos c6] at hy
   cases hy
   have c6':(v.getD q default).kind < 6:=by rw [←hn];exact c6
   repeat' (first|(apply T.alloc;apply rfl;intro nb)|(apply T.bsL;(iterate 5 apply rfl);intro nb)|refine Sg.Y3 ?_|(apply S.condQ;apply rfl;all_goals intro _)|fail)
   rw [←hn]
   exact ⟨_,PSub.take Z0 (by repeat (first|exact PSub.refl _|apply PSub.drop)),.inr ⟨nb,_,rfl,rfl,rfl⟩⟩
  ·rw [if_neg c6] at hy
   have c6':¬(v.getD q default).kind < 6:=by rw [←hn];exact c6
   repeat' (first|(apply T.alloc;apply rfl;intro nb)|(apply T.bsL;(iterate 5 apply rfl);intro nb)|refine Sg.Y3 ?_|(apply S.condQ;apply rfl;all_goals intro _)|fail)
   refine T.call rfl rfl (Z02 (v:=v) rfl hvl ha) ?_
   rintro _ _ ⟨ka,kc,rfl,rfl⟩
   rw [←hn]
   rename_i b9
   refine Sr.front nb ?_
   refine Sr.rowOfN (n:=1) (sz:=6) rfl (by decide) ?_
   refine Sr.rowEq (ys:=(rowH n []).flatMap ndV) rfl ?_
   dsimp only [ndV,List.set_cons_zero,List.set_cons_succ]
   repeat' (first|refine Sg.Y1 ?_|fail)
   cases hz:Z1A (ZZ g L false) L top n.kind [] (kidsOf v q) with
   | none=>rw [hz] at hy;cases hy
   | some zs =>
    rw [hz] at hy
    simp only at hy
    have hzl:zs.flatten.length+1≤2200000:=by
     split at hy
     ·cases hy
      rw [Z1W] at hyl
      omega
     ·split at hy
      ·cases hy
       rw [Z1W] at hyl
       omega
      ·split at hy
       ·cases hy
       ·rename_i hb
        cases hy
        rw [Z1W] at hyl
        have:=ZaX hb
        omega
    refine S.loopE 1 [0,1,2,3,9,11] (fun R b' μ H' e=>∃ (i:Nat) (oa:Option Addr) (oc:Nat) (ys:List (List Nd)),H'=.row oa oc 34 6 (rowH n ys).length ((rowH n ys).flatMap ndV)::R∧e=(10,.slice oa (rowH n ys).length oc)::(12,.int .i64 i)::b' ∧
     (i≤(kidsOf v q).length∧Z1A (ZZ g L false) L top n.kind ys ((kidsOf v q).drop i)=some zs∧ys.length≤i)∧μ=(kidsOf v q).length - i) rfl rfl ?_ _ _ ⟨0,some ⟨nb,0,none⟩,1,[],rfl,rfl,⟨Nat.zero_le _,hz,Nat.le_refl _⟩,rfl⟩ (by repeat' first|exact trivial|refine And.intro rfl ?_)
    rintro _ _ _ ⟨i,oa,oc,ys,rfl,rfl,⟨g1,g2,g3⟩,rfl⟩ ih
    have hys:=Z3n g2
    have hrl:=Z1W n ys
    by_cases h1:i < (kidsOf v q).length
    ·rw [Z1r ha h1,Z1A] at g2
     have hi2:=Z2i ha h1
     have hqlt:=hi2.lt
     have e2:Z2 (Za v ((offs (q+1) (kidsOf v q)).getD i 0))=v.getD ((offs (q+1) (kidsOf v q)).getD i 0) default:=Z4 hqlt
     have hvk:VO (Za v ((offs (q+1) (kidsOf v q)).getD i 0)):=by
      rw [Z0A ha h1]
      exact hvo.kids _ (by rw [hkk];exact List.getElem_mem h1)
     rw [e2] at g2
     repeat' (first|refine Sg.Y3 ?_|(apply S.condQ;apply rfl;all_goals intro _)|fail)
     refine T.call rfl rfl (ZU (v:=v) (key:=Z0o) rfl hvl hi2) ?_
     rintro _ _ ⟨rfl,hH⟩
     have hH2:=hH.symm
     subst hH2
     by_cases k6:n.kind=6
     case' pos =>
      rw [if_pos k6] at g2
      rcases Z0l hi2 Z0o with ⟨m1,m2⟩|⟨qd,m1,md,m2⟩
      case' inl =>
       rw [m2] at g2
       simp only at g2
       rw [if_neg (fun h=>by omega)] at g2
       rw [m1]
       obtain ⟨y0,hb⟩:∃ y0,ZZ g L false (Za v ((offs (q+1) (kidsOf v q)).getD i 0))=some y0:=by
        cases hb:ZZ g L false (Za v ((offs (q+1) (kidsOf v q)).getD i 0)) with
        | none=>rw [hb] at g2;cases g2
        | some y0=>exact ⟨y0,rfl⟩
       rw [hb] at g2
       simp only at g2
       have hyb:=Z3n g2
       rw [ZD,Z1H] at hyb
       repeat' (first|refine Sg.Y3 ?_|(apply T.gcase;apply rfl;apply rfl;all_goals intro _)|fail)
       refine T.call rfl rfl (IH _ v va vc ((offs (q+1) (kidsOf v q)).getD i 0) false y0 inferInstance inferInstance inferInstance hg hi2 hvk (by rw [hL];exact hb) (by omega)) ?_
       rintro _ _ ⟨xa,xc,rfl,rfl⟩
       obtain ⟨n0,r0,rfl⟩:=Z1Q hb
      case' inr =>
       rw [m2] at g2
       simp only at g2
       have e3:Z2 (Za v qd)=v.getD qd default:=Z4 md.lt
       have hqd:=md.lt
       rw [e3] at g2
       rw [m1]
       repeat' (first|refine Sg.Y3 ?_|(apply S.condQ;apply rfl;all_goals intro _)|(apply T.gcase;apply rfl;apply rfl;all_goals intro _)|fail)
       refine T.call rfl rfl (Z1L (xs:=xs) rfl hxl) ?_
       rintro _ _ ⟨z,hz0,rfl,hH⟩
       have hH2:=hH.symm
       subst hH2
       unfold ZbZ at hz0
       rw [hL] at hz0
       rcases hz0 with ⟨rfl,hf⟩|⟨k,rfl,hk,hf,-⟩
       case' inl =>
        rw [hf] at g2
        simp only at g2
        repeat' (first|refine Sg.Y1 ?_|fail)
        exact ih _ _ _ _ ⟨i+1,oa,oc,ys,rfl,rfl,⟨by omega,g2,by omega⟩,rfl⟩ (by omega) (by repeat' first|exact trivial|refine And.intro rfl ?_)
       case' inr =>
        rw [hf] at g2
        simp only at g2
        obtain ⟨y0,hb⟩:∃ y0,ZZ g L false (xs.getD k default).s.value=some y0:=by
         cases hb:ZZ g L false (xs.getD k default).s.value with
         | none=>rw [hb] at g2;cases g2
         | some y0=>exact ⟨y0,rfl⟩
        rw [hb] at g2
        simp only at g2
        have hyb:=Z3n g2
        rw [ZD,Z1H] at hyb
        have hm:=hsd hk
        obtain ⟨o1,o2,o3⟩:=hxs _ hm
        have hxr:∀ {X:List Res} [RdS F M X xs],Rd F M X (xs.getD k default).a ((xs.getD k default).s.value.flatMap ndV):=fun {X} h=>h.h _ hm
        have hv1:=Zj o1.fo
        repeat' (first|refine Sg.Y3 ?_|(apply S.condQ;apply rfl;all_goals intro _)|fail)
        refine T.call rfl rfl (IH _ (xs.getD k default).s.value (xs.getD k default).a (xs.getD k default).c 0 false y0 hxr inferInstance inferInstance o2 (IsAt.of_fo o1.fo) (by rw [hv1];exact o1) (by rw [hL,hv1];exact hb) (by omega)) ?_
        rintro _ _ ⟨xa,xc,rfl,rfl⟩
        obtain ⟨n0,r0,rfl⟩:=Z1Q hb
     case' neg =>
      rw [if_neg k6] at g2
      simp only at g2
      have k7:n.kind=7:=by omega
      by_cases hsk:n.kind=7∧((v.getD ((offs (q+1) (kidsOf v q)).getD i 0) default).key=sdN∨(top=true∧(v.getD ((offs (q+1) (kidsOf v q)).getD i 0) default).key=algN))
      case' pos =>
       rw [if_pos hsk] at g2
       rcases hsk with ⟨-,hsk|⟨htop,hsk⟩⟩
       ·have hsk1:(v.getD ((offs (q+1) (kidsOf v q)).getD i 0) default).key=[95,115,100]:=hsk
        repeat' (first|refine Sg.Y3 ?_|(apply T.gcase;apply rfl;apply rfl;all_goals intro _)|fail)
        exact ih _ _ _ _ ⟨i+1,oa,oc,ys,rfl,rfl,⟨by omega,g2,by omega⟩,rfl⟩ (by omega) (by repeat' first|exact trivial|refine And.intro rfl ?_)
       ·have hsk1:(v.getD ((offs (q+1) (kidsOf v q)).getD i 0) default).key=[95,115,100,95,97,108,103]:=hsk
        have hsk2:¬(v.getD ((offs (q+1) (kidsOf v q)).getD i 0) default).key=[95,115,100]:=by rw [hsk1];decide
        subst htop
        repeat' (first|refine Sg.Y3 ?_|(apply S.condQ;apply rfl;all_goals intro _)|(apply T.gcase;apply rfl;apply rfl;all_goals intro _)|fail)
        exact ih _ _ _ _ ⟨i+1,oa,oc,ys,rfl,rfl,⟨by omega,g2,by omega⟩,rfl⟩ (by omega) (by repeat' first|exact trivial|refine And.intro rfl ?_)
      case' neg =>
       rw [if_neg hsk] at g2
       obtain ⟨y0,hb⟩:∃ y0,ZZ g L false (Za v ((offs (q+1) (kidsOf v q)).getD i 0))=some y0:=by
        cases hb:ZZ g L false (Za v ((offs (q+1) (kidsOf v q)).getD i 0)) with
        | none=>rw [hb] at g2;cases g2
        | some y0=>exact ⟨y0,rfl⟩
       rw [hb] at g2
       simp only at g2
       have hyb:=Z3n g2
       rw [ZD,Z1H] at hyb
       have hsk2:¬(v.getD ((offs (q+1) (kidsOf v q)).getD i 0) default).key=[95,115,100]:=fun h=>hsk ⟨k7,.inl h⟩
       have hsk3:top=true→¬(v.getD ((offs (q+1) (kidsOf v q)).getD i 0) default).key=[95,115,100,95,97,108,103]:=fun h1 h2=>hsk ⟨k7,.inr ⟨h1,h2⟩⟩
       cases top
       case' true =>
        have hsk4:=hsk3 rfl
        repeat' (first|refine Sg.Y3 ?_|(apply S.condQ;apply rfl;all_goals intro _)|(apply T.gcase;apply rfl;apply rfl;all_goals intro _)|fail)
        refine T.call rfl rfl (IH _ v va vc ((offs (q+1) (kidsOf v q)).getD i 0) false y0 inferInstance inferInstance inferInstance hg hi2 hvk (by rw [hL];exact hb) (by omega)) ?_
        rintro _ _ ⟨xa,xc,rfl,rfl⟩
        obtain ⟨n0,r0,rfl⟩:=Z1Q hb
       case' false =>
        repeat' (first|refine Sg.Y3 ?_|(apply T.gcase;apply rfl;apply rfl;all_goals intro _)|fail)
        refine T.call rfl rfl (IH _ v va vc ((offs (q+1) (kidsOf v q)).getD i 0) false y0 inferInstance inferInstance inferInstance hg hi2 hvk (by rw [hL];exact hb) (by omega)) ?_
        rintro _ _ ⟨xa,xc,rfl,rfl⟩
        obtain ⟨n0,r0,rfl⟩:=Z1Q hb
     all_goals
      have hl0:(n0::r0).length=r0.length+1:=rfl
      have hl1:(n0.named (v.getD ((offs (q+1) (kidsOf v q)).getD i 0) default).key::r0).length=r0.length+1:=rfl
      have hl2:(rowH n ys++(n0.named (v.getD ((offs (q+1) (kidsOf v q)).getD i 0) default).key::r0)).length=ys.flatten.length+1+(r0.length+1):=by rw [List.length_append,hl1,hrl]
      have hsn:=Z66 n ys n0 r0 (v.getD ((offs (q+1) (kidsOf v q)).getD i 0) default).key
      have hsl:(rowH n (ys++[ZJ (n0::r0) (v.getD ((offs (q+1) (kidsOf v q)).getD i 0) default).key])).length=(rowH n ys).length+(n0::r0).length:=by rw [←hsn,List.length_set,hl2,hrl,hl0]
      repeat' (first|(apply Sr.same;refine T.ixF (g:=ndV) (sz:=6) (i:=0) (xs:=n0::r0) rfl rfl inferInstance (fun _=>rfl) rfl (by omega) (by omega) rfl ?_)|(apply Sr.same;refine T.storeF (g:=ndV) (xs:=n0::r0) (n0.named (v.getD ((offs (q+1) (kidsOf v q)).getD i 0) default).key) rfl rfl inferInstance (fun _=>rfl) rfl rfl rfl rfl ?_;dsimp only [List.set_cons_zero])|(apply Sr.same;refine T.appendAllF (g:=ndV) (xs:=rowH n ys) (us:=n0.named (v.getD ((offs (q+1) (kidsOf v q)).getD i 0) default).key::r0) rfl rfl inferInstance inferInstance rfl (fun _=>rfl) (fun _=>rfl) rfl rfl (by constructor<;>omega) rfl ?_;intro oa2 oc2)|(apply Sr.same;refine T.ixF (g:=ndV) (sz:=6) (i:=0) (xs:=rowH n ys++(n0.named (v.getD ((offs (q+1) (kidsOf v q)).getD i 0) default).key::r0)) rfl rfl inferInstance (fun _=>rfl) rfl (by omega) (by omega) rfl ?_)|(apply Sr.same;refine T.loadF (g:=ndV) (sz:=6) (i:=0) (f:=5) (xs:=rowH n ys++(n0.named (v.getD ((offs (q+1) (kidsOf v q)).getD i 0) default).key::r0)) (a:=⟨n.kind,[],n.text,n.whole,n.int,ys.length⟩) (v:=.int .i64 (ys.length:Int)) rfl rfl inferInstance (fun _=>rfl) rfl rfl rfl rfl ?_)|(apply Sr.same;refine T.storeF (g:=ndV) (xs:=rowH n ys++(n0.named (v.getD ((offs (q+1) (kidsOf v q)).getD i 0) default).key::r0)) ⟨n.kind,[],n.text,n.whole,n.int,(ys.length:Int)+1⟩ rfl rfl inferInstance (fun _=>rfl) rfl rfl rfl rfl ?_)|refine Sg.Y1 ?_|fail)
      refine S.sublist ?_ (PSub.drop (PSub.refl _))
      rw [hsn,←hsl]
      exact ih _ _ _ _ ⟨i+1,oa2,oc2,_,rfl,rfl,⟨by omega,g2,by rw [List.length_append,List.length_singleton];omega⟩,rfl⟩ (by omega) (by repeat' first|exact trivial|refine And.intro rfl ?_)
    ·obtain rfl:i=(kidsOf v q).length:=by omega
     rw [List.drop_length] at g2
     obtain rfl:ys=zs:=by simpa [Z1A] using g2
     clear ih
     have hyk:ys.length≤(kidsOf v q).length:=g3
     repeat' (first|refine Sg.Y3 ?_|(apply S.condQ;apply rfl;all_goals intro _)|fail)
     refine T.call rfl rfl (ZU (v:=v) (key:=sdN) rfl hvl ha) ?_
     rintro _ _ ⟨rfl,hH⟩
     have hH2:=hH.symm
     subst hH2
     by_cases k6:n.kind=6
     ·rw [if_pos k6] at hy
      cases hy
      repeat' (first|refine Sg.Y3 ?_|(apply T.gcase;apply rfl;apply rfl;all_goals intro _)|fail)
      exact ⟨_,PSub.take Z0 (by repeat (first|exact PSub.refl _|apply PSub.drop)),.inl ⟨oa,oc,rfl,rfl⟩⟩
     ·rw [if_neg k6] at hy
      rcases Z0l ha sdN with ⟨m1,m2⟩|⟨qs,m1,ms,m2⟩
      ·rw [m2] at hy
       cases hy
       rw [m1]
       repeat' (first|refine Sg.Y3 ?_|(apply T.gcase;apply rfl;apply rfl;all_goals intro _)|fail)
       exact ⟨_,PSub.take Z0 (by repeat (first|exact PSub.refl _|apply PSub.drop)),.inl ⟨oa,oc,rfl,rfl⟩⟩
      ·rw [m2] at hy
       simp only at hy
       rw [Zv ms] at hy
       obtain ⟨zs2,hz2⟩:∃ zs2,bSd (ZZ g L false) L ys (kidsOf v qs)=some zs2:=by
        cases hz2:bSd (ZZ g L false) L ys (kidsOf v qs) with
        | none=>rw [hz2] at hy;cases hy
        | some zs2=>exact ⟨zs2,rfl⟩
       rw [hz2] at hy
       cases hy
       rw [Z1W] at hyl
       rw [m1]
       obtain ⟨hk3,hk4⟩:=ms.kids_len
       have hqs:=ms.lt
       have hol3:(offs (qs+1) (kidsOf v qs)).length=(kidsOf v qs).length:=Z0g ..
       repeat' (first|refine Sg.Y3 ?_|(apply S.condQ;apply rfl;all_goals intro _)|(apply T.gcase;apply rfl;apply rfl;all_goals intro _)|fail)
       refine T.call rfl rfl (Z02 (v:=v) rfl hvl ms) ?_
       rintro _ _ ⟨ia,ic,rfl,rfl⟩
       refine Sr.frontR oa ?_
       repeat' (first|refine Sg.Y1 ?_|fail)
       refine S.loopE 1 [0,2,19] (fun R b' μ H' e=>∃ (i:Nat) (oa:Option Addr) (oc:Nat) (ys:List (List Nd)),H'=.row oa oc 34 6 (rowH n ys).length ((rowH n ys).flatMap ndV)::R∧e=(10,.slice oa (rowH n ys).length oc)::(20,.int .i64 i)::b' ∧
        (i≤(kidsOf v qs).length∧bSd (ZZ g L false) L ys ((kidsOf v qs).drop i)=some zs2∧ys.length≤(kidsOf v q).length+i)∧μ=(kidsOf v qs).length - i) rfl rfl ?_ _ _ ⟨0,oa,oc,ys,rfl,rfl,⟨Nat.zero_le _,hz2,hyk⟩,rfl⟩ (by repeat' first|exact trivial|refine And.intro rfl ?_)
       clear hz2 hyk hys hrl hzl g1 g2 g3 h1 hz
       rintro _ _ _ ⟨i,oa,oc,ys,rfl,rfl,⟨g1,g2,g3⟩,rfl⟩ ih
       have hys:=ZaX g2
       have hrl:=Z1W n ys
       by_cases h1:i < (kidsOf v qs).length
       ·rw [Z1r ms h1,bSd] at g2
        have hi2:=Z2i ms h1
        have hqlt:=hi2.lt
        have e2:Z2 (Za v ((offs (qs+1) (kidsOf v qs)).getD i 0))=v.getD ((offs (qs+1) (kidsOf v qs)).getD i 0) default:=Z4 hqlt
        rw [e2] at g2
        repeat' (first|refine Sg.Y3 ?_|(apply S.condQ;apply rfl;all_goals intro _)|fail)
        refine T.call rfl rfl (Z1L (xs:=xs) rfl hxl) ?_
        rintro _ _ ⟨z,hz0,rfl,hH⟩
        have hH2:=hH.symm
        subst hH2
        unfold ZbZ at hz0
        rw [hL] at hz0
        rcases hz0 with ⟨rfl,hf⟩|⟨k,rfl,hk,hf,-⟩
        ·rw [hf] at g2
         simp only at g2
         repeat' (first|refine Sg.Y1 ?_|fail)
         exact ih _ _ _ _ ⟨i+1,oa,oc,ys,rfl,rfl,⟨by omega,g2,by omega⟩,rfl⟩ (by omega) (by repeat' first|exact trivial|refine And.intro rfl ?_)
        rw [hf] at g2
        simp only at g2
        obtain ⟨y0,hb⟩:∃ y0,ZZ g L false (xs.getD k default).s.value=some y0:=by
         cases hb:ZZ g L false (xs.getD k default).s.value with
         | none=>rw [hb] at g2;cases g2
         | some y0=>exact ⟨y0,rfl⟩
        rw [hb] at g2
        simp only at g2
        have hyb:=ZaX g2
        rw [ZD,Z1H] at hyb
        have hm:=hsd hk
        obtain ⟨o1,o2,o3⟩:=hxs _ hm
        have hxr:∀ {X:List Res} [RdS F M X xs],Rd F M X (xs.getD k default).a ((xs.getD k default).s.value.flatMap ndV):=fun {X} h=>h.h _ hm
        have hv1:=Zj o1.fo
        repeat' (first|refine Sg.Y3 ?_|(apply S.condQ;apply rfl;all_goals intro _)|fail)
        refine T.call rfl rfl (IH _ (xs.getD k default).s.value (xs.getD k default).a (xs.getD k default).c 0 false y0 hxr inferInstance inferInstance o2 (IsAt.of_fo o1.fo) (by rw [hv1];exact o1) (by rw [hL,hv1];exact hb) (by omega)) ?_
        rintro _ _ ⟨xa,xc,rfl,rfl⟩
        obtain ⟨n0,r0,rfl⟩:=Z1Q hb
        have hl0:(n0::r0).length=r0.length+1:=rfl
        have hl1:(n0.named (xs.getD k default).s.name::r0).length=r0.length+1:=rfl
        have hl2:(rowH n ys++(n0.named (xs.getD k default).s.name::r0)).length=ys.flatten.length+1+(r0.length+1):=by rw [List.length_append,hl1,hrl]
        have hsn:=Z66 n ys n0 r0 (xs.getD k default).s.name
        have hsl:(rowH n (ys++[ZJ (n0::r0) (xs.getD k default).s.name])).length=(rowH n ys).length+(n0::r0).length:=by rw [←hsn,List.length_set,hl2,hrl,hl0]
        repeat' (first|(apply Sr.same;refine T.ixF (g:=ndV) (sz:=6) (i:=0) (xs:=n0::r0) rfl rfl inferInstance (fun _=>rfl) rfl (by omega) (by omega) rfl ?_)|(apply Sr.same;refine T.storeF (g:=ndV) (xs:=n0::r0) (n0.named (xs.getD k default).s.name) rfl rfl inferInstance (fun _=>rfl) rfl rfl rfl rfl ?_;dsimp only [List.set_cons_zero])|(apply Sr.same;refine T.appendAllF (g:=ndV) (xs:=rowH n ys) (us:=n0.named (xs.getD k default).s.name::r0) rfl rfl inferInstance inferInstance rfl (fun _=>rfl) (fun _=>rfl) rfl rfl (by constructor<;>omega) rfl ?_;intro oa2 oc2)|(apply Sr.same;refine T.ixF (g:=ndV) (sz:=6) (i:=0) (xs:=rowH n ys++(n0.named (xs.getD k default).s.name::r0)) rfl rfl inferInstance (fun _=>rfl) rfl (by omega) (by omega) rfl ?_)|(apply Sr.same;refine T.loadF (g:=ndV) (sz:=6) (i:=0) (f:=5) (xs:=rowH n ys++(n0.named (xs.getD k default).s.name::r0)) (a:=⟨n.kind,[],n.text,n.whole,n.int,ys.length⟩) (v:=.int .i64 (ys.length:Int)) rfl rfl inferInstance (fun _=>rfl) rfl rfl rfl rfl ?_)|(apply Sr.same;refine T.storeF (g:=ndV) (xs:=rowH n ys++(n0.named (xs.getD k default).s.name::r0)) ⟨n.kind,[],n.text,n.whole,n.int,(ys.length:Int)+1⟩ rfl rfl inferInstance (fun _=>rfl) rfl rfl rfl rfl ?_)|refine Sg.Y1 ?_|fail)
        refine S.sublist ?_ (PSub.drop (PSub.refl _))
        rw [hsn,←hsl]
        exact ih _ _ _ _ ⟨i+1,oa2,oc2,_,rfl,rfl,⟨by omega,g2,by rw [List.length_append,List.length_singleton];omega⟩,rfl⟩ (by omega) (by repeat' first|exact trivial|refine And.intro rfl ?_)
       ·obtain rfl:i=(kidsOf v qs).length:=by omega
        rw [List.drop_length] at g2
        obtain rfl:ys=zs2:=by simpa [bSd] using g2
        clear ih
        repeat' (first|refine Sg.Y3 ?_|(apply S.condQ;apply rfl;all_goals intro _)|fail)
        exact ⟨_,PSub.take Z0 (by repeat (first|exact PSub.refl _|apply PSub.drop)),.inl ⟨oa,oc,rfl,rfl⟩⟩
end
end Go.Proofs.YtjajcmedipjfhaaGreatDoor
