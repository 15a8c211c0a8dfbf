/- Texts put together by a program: RdA JrfA JrfB JrfC JrfD. -/
import Derived.Test.YtjajcmedipjfhaaGreatDoorMi
import Derived.Test.YtjajcmedipjfhaaGreatDoorMg
import Derived.Test.YtjajcmedipjfhaaGreatDoorMo
/- The document's reading of 64 signs, bit by bit, is the program's. -/
namespace Sg
def bitS (s:List UInt8) (i:Nat):Nat:=sgn s (i / 6) / 2 ^ (5 - i % 6) % 2
def Z3L (s:List UInt8) (k i:Nat):Nat:=dgrp s (k / 3) / 256 ^ (2 - k % 3) % 256 / 2 ^ (8 - min 8 (i - 8*k))*2 ^ (8 - min 8 (i - 8*k))
def outB (s:List UInt8) (i:Nat):List UInt8:=(List.range (s.length*6 / 8)).map fun k=>UInt8.ofNat (Z3L s k i)
theorem Z3m {s:List UInt8} (h:∀ c∈s,c∈urlS) (i:Nat):bitS s i=dgrp s (i / 24) / 2 ^ (23 - i % 24) % 2:=by
 have e1:i / 6=4*(i / 24)+i % 24 / 6:=by omega
 have e2:i % 6=i % 24 % 6:=by omega
 have h0:=Z5Z h (4*(i / 24))
 have h1:=Z5Z h (4*(i / 24)+1)
 have h2:=Z5Z h (4*(i / 24)+2)
 have h3:=Z5Z h (4*(i / 24)+3)
 unfold bitS dgrp
 rw [e1,e2]
 have ht:i % 24 < 24:=Nat.mod_lt _ (by decide)
 generalize i / 24=q at *
 generalize i % 24=t at *
 clear e1 e2
 have:t=0∨t=1∨t=2∨t=3∨t=4∨t=5∨t=6∨t=7∨t=8∨t=9∨t=10∨t=11∨t=12∨t=13∨t=14∨t=15∨t=16∨t=17∨t=18∨t=19∨t=20∨t=21∨t=22∨t=23:=by omega
 rcases this with rfl|rfl|rfl|rfl|rfl|rfl|rfl|rfl|rfl|rfl|rfl|rfl|rfl|rfl|rfl|rfl|rfl|rfl|rfl|rfl|rfl|rfl|rfl|rfl<;>simp only [Nat.reduceDiv,Nat.reduceMod,Nat.reduceSub,Nat.reducePow,Nat.add_zero]<;>omega
theorem ZdH (s:List UInt8) (i:Nat):bitS s i < 2:=Nat.mod_lt _ (by decide)
theorem ZbV {s:List UInt8} (h:∀ c∈s,c∈urlS) (i:Nat):bitS s i=dgrp s (i / 8 / 3) / 256 ^ (2 - i / 8 % 3) % 256 / 2 ^ (7 - i % 8) % 2:=by
 rw [Z3m h,show i / 8 / 3=i / 24 by omega]
 have e1:i / 8 % 3=i % 24 / 8:=by omega
 have e2:i % 8=i % 24 % 8:=by omega
 rw [e1,e2]
 have ht:i % 24 < 24:=Nat.mod_lt _ (by decide)
 generalize dgrp s (i / 24)=D
 generalize i % 24=t at *
 clear e1 e2
 have:t=0∨t=1∨t=2∨t=3∨t=4∨t=5∨t=6∨t=7∨t=8∨t=9∨t=10∨t=11∨t=12∨t=13∨t=14∨t=15∨t=16∨t=17∨t=18∨t=19∨t=20∨t=21∨t=22∨t=23:=by omega
 rcases this with rfl|rfl|rfl|rfl|rfl|rfl|rfl|rfl|rfl|rfl|rfl|rfl|rfl|rfl|rfl|rfl|rfl|rfl|rfl|rfl|rfl|rfl|rfl|rfl<;>simp only [Nat.reduceDiv,Nat.reduceMod,Nat.reduceSub,Nat.reducePow,Nat.pow_zero,Nat.div_one]<;>omega
theorem Za5 (s:List UInt8) (k:Nat):Z3L s k 0=0:=by
 unfold Z3L
 rw [show min 8 (0 - 8*k)=0 by omega]
 simp only [Nat.reduceSub,Nat.reducePow]
 omega
theorem Zbv (s:List UInt8):outB s 0=List.replicate (s.length*6 / 8) 0:=by
 unfold outB
 rw [List.eq_replicate_iff]
 refine ⟨by simp,fun b hb=>?_⟩
 obtain ⟨k,-,rfl⟩:=List.mem_map.1 hb
 rw [Za5]
 rfl
theorem Z7g (s:List UInt8) (i:Nat):(outB s i).length=s.length*6 / 8:=by simp [outB]
theorem Z7h (s:List UInt8) {i:Nat} (hi:8*(s.length*6 / 8)≤i):outB s i=decB s:=by
 unfold outB decB
 refine List.map_congr_left fun k hk=>?_
 have hk:=List.mem_range.1 hk
 unfold Z3L
 rw [show min 8 (i - 8*k)=8 by omega]
 simp only [Nat.sub_self,Nat.pow_zero,Nat.div_one,Nat.mul_one]
 rw [←UInt8.toNat_inj,UInt8.toNat_ofNat',UInt8.toNat_ofNat',Nat.mod_mod]
theorem Z8U {s:List UInt8} {k i:Nat} (h:i / 8≠k):Z3L s k (i+1)=Z3L s k i:=by
 unfold Z3L
 have:min 8 (i+1 - 8*k)=min 8 (i - 8*k):=by omega
 rw [this]
theorem Zbu {s:List UInt8} (h:∀ c∈s,c∈urlS) {i:Nat}:Z3L s (i / 8) (i+1)=Z3L s (i / 8) i|||bitS s i*2 ^ (7 - i % 8):=by
 rw [ZbV h]
 unfold Z3L
 rw [show min 8 (i+1 - 8*(i / 8))=i % 8+1 by omega,show min 8 (i - 8*(i / 8))=i % 8 by omega]
 have ht:i % 8 < 8:=Nat.mod_lt _ (by decide)
 have hB:dgrp s (i / 8 / 3) / 256 ^ (2 - i / 8 % 3) % 256 < 256:=Nat.mod_lt _ (by decide)
 generalize dgrp s (i / 8 / 3) / 256 ^ (2 - i / 8 % 3) % 256=B at *
 generalize i % 8=t at *
 have e1:2 ^ (8 - t)=2*2 ^ (7 - t):=by rw [show 8 - t=(7 - t)+1 by omega,Nat.pow_succ];omega
 have e3:8 - (t+1)=7 - t:=by omega
 have hlt:B / 2 ^ (7 - t) % 2*2 ^ (7 - t) < 2 ^ (8 - t):=by
  rw [e1]
  exact Nat.mul_lt_mul_of_pos_right (Nat.mod_lt _ (by decide)) (Nat.two_pow_pos _)
 rw [e3,Nat.mul_comm (B / 2 ^ (8 - t)),←Nat.two_pow_add_eq_or_of_lt hlt,e1,Nat.mul_comm 2 (2 ^ (7 - t)),←Nat.div_div_eq_div_mul]
 have h2:=Nat.div_add_mod (B / 2 ^ (7 - t)) 2
 generalize B / 2 ^ (7 - t)=A at *
 generalize 2 ^ (7 - t)=Z at *
 calc A*Z=(2*(A / 2)+A % 2)*Z:=by rw [h2]
  _=Z*2*(A / 2)+A % 2*Z:=by rw [Nat.add_mul,Nat.mul_comm Z 2,Nat.mul_assoc,Nat.mul_assoc,Nat.mul_comm (A / 2) Z]
theorem Zby (a b:Nat):UInt8.ofNat (a|||b)=UInt8.ofNat a|||UInt8.ofNat b:=by
 rw [←UInt8.toNat_inj,UInt8.toNat_or,UInt8.toNat_ofNat',UInt8.toNat_ofNat',UInt8.toNat_ofNat',Nat.or_mod_two_pow]
theorem Zbw {s:List UInt8} (h:∀ c∈s,c∈urlS) {i:Nat} (hi:i / 8 < s.length*6 / 8):outB s (i+1)=(outB s i).set (i / 8) ((outB s i).getD (i / 8) 0|||UInt8.ofNat (bitS s i*2 ^ (7 - i % 8))):=by
 refine List.ext_getElem (by simp [outB]) fun k h1 h2=>?_
 have hk:k < s.length*6 / 8:=by rwa [Z7g] at h1
 rw [List.getElem_set]
 by_cases e:i / 8=k
 ·rw [if_pos e]
  subst e
  have:(outB s i).getD (i / 8) 0=UInt8.ofNat (Z3L s (i / 8) i):=by
   rw [List.getD_eq_getElem?_getD,List.getElem?_eq_getElem (by rw [Z7g];exact hi)]
   simp [outB]
  rw [this,←Zby,←Zbu h]
  simp [outB]
 ·rw [if_neg e]
  simp [outB,Z8U e]
theorem Z5A {s:List UInt8} {i:Nat} (hi:¬i / 8 < s.length*6 / 8):outB s (i+1)=outB s i:=by
 rw [Z7h s (by omega),Z7h s (by omega)]
theorem Z4y {s:List UInt8} (h:∀ c∈s,c∈urlS) (h4:s.length % 4≠1):Z0B s=true↔∀ i,8*(s.length*6 / 8)≤i→i < 6*s.length→bitS s i=0:=by
 unfold Z0B
 by_cases h3:s.length % 4=3
 ·rw [if_pos h3]
  have hn:s.length*6 / 8*8=s.length / 4*24+16:=by omega
  have h6:6*s.length=s.length / 4*24+18:=by omega
  have b0:=Z3m h (s.length / 4*24+16)
  have b1:=Z3m h (s.length / 4*24+17)
  rw [show (s.length / 4*24+16) / 24=s.length / 4 by omega,show (s.length / 4*24+16) % 24=16 by omega] at b0
  rw [show (s.length / 4*24+17) / 24=s.length / 4 by omega,show (s.length / 4*24+17) % 24=17 by omega] at b1
  have hs3:sgn s (4*(s.length / 4)+3)=0:=Z3B (by omega)
  have e:dgrp s (s.length / 4) % 256=dgrp s (s.length / 4) / 2 ^ 7 % 2*128+dgrp s (s.length / 4) / 2 ^ 6 % 2*64:=by
   unfold dgrp
   rw [hs3]
   simp only [Nat.reducePow]
   omega
  simp only [Nat.reduceSub] at b0 b1
  rw [decide_eq_true_iff,e,←b0,←b1]
  constructor
  ·intro h0 i hi1 hi2
   have:i=s.length / 4*24+16∨i=s.length / 4*24+17:=by omega
   rcases this with rfl|rfl<;>omega
  ·intro h0
   rw [h0 _ (by omega) (by omega),h0 _ (by omega) (by omega)]
 ·rw [if_neg h3]
  by_cases h2:s.length % 4=2
  ·rw [if_pos h2]
   have hn:s.length*6 / 8*8=s.length / 4*24+8:=by omega
   have h6:6*s.length=s.length / 4*24+12:=by omega
   have b:∀ t,t < 24→bitS s (s.length / 4*24+t)=dgrp s (s.length / 4) / 2 ^ (23 - t) % 2:=fun t ht=>by
    have:=Z3m h (s.length / 4*24+t)
    rwa [show (s.length / 4*24+t) / 24=s.length / 4 by omega,show (s.length / 4*24+t) % 24=t by omega] at this
   have b0:=b 8 (by omega)
   have b1:=b 9 (by omega)
   have b2:=b 10 (by omega)
   have b3:=b 11 (by omega)
   have hs2:sgn s (4*(s.length / 4)+2)=0:=Z3B (by omega)
   have hs3:sgn s (4*(s.length / 4)+3)=0:=Z3B (by omega)
   have e:dgrp s (s.length / 4) % 65536=dgrp s (s.length / 4) / 2 ^ 15 % 2*32768+dgrp s (s.length / 4) / 2 ^ 14 % 2*16384+dgrp s (s.length / 4) / 2 ^ 13 % 2*8192+dgrp s (s.length / 4) / 2 ^ 12 % 2*4096:=by
    unfold dgrp
    rw [hs2,hs3]
    simp only [Nat.reducePow]
    omega
   simp only [Nat.reduceSub] at b0 b1 b2 b3
   rw [decide_eq_true_iff,e,←b0,←b1,←b2,←b3]
   constructor
   ·intro h0 i hi1 hi2
    have:i=s.length / 4*24+8∨i=s.length / 4*24+9∨i=s.length / 4*24+10∨i=s.length / 4*24+11:=by omega
    rcases this with rfl|rfl|rfl|rfl<;>omega
   ·intro h0
    rw [h0 _ (by omega) (by omega),h0 _ (by omega) (by omega),h0 _ (by omega) (by omega),h0 _ (by omega) (by omega)]
  ·rw [if_neg h2]
   exact ⟨fun _ i hi1 hi2=>by omega,fun _=>rfl⟩
end Sg
namespace Go.Proofs.YtjajcmedipjfhaaGreatDoor
open Sg Go Go.RowKit Go.IntWalk
set_option maxRecDepth 100000
set_option maxHeartbeats 4000000
section
variable {c:Ctx} {ds:List Deferred} {H:List Res} {ops:Array Oper} {l:List Oper} {κ:List Res→Env→Prop} {dr:Bool} {e:Env} {ty:TypeId} {pos:String} {aft:Array Edge}
theorem T.convNB {q:Sg.Mode} {x:Operand} {d:Tmp} {s t:TypeId} {m:Nat} {dd:TypeDesc} [HU c.P s dd] [HU c.P t (.int .u8)] (hx:ev e x=some (.int .i64 (m:Int))) (hlt:Nat.blt d c.fn.ntmps=true) (hk:Sr q c ds H ops l κ ((d,.int .u8 ((UInt8.ofNat m).toNat:Int))::e)) :
  Sr q c ds H ops (⟨some d,.convert s t x,ty,pos,aft,none⟩::l) κ e:=Sr.p (Pu.conv (d:=dd) hx (by rw [Z5d,UInt8.toNat_ofNat'];omega)) rfl hlt rfl hk
end
section
variable {F:World} {M:List Nat} {H:List Res}
theorem Z2B {ch:UInt8}:Meets Tryz.prog 88 [.int .u8 (ch.toNat:Int),.bool false] F M H (fun e H'=>e=.returned (.int .i64 (if ch∈urlS then (urlS.idxOf ch:Int) else -1))∧H'=H):=by
 refine Meets.enter Tryz.func88 rfl rfl ?_
 generalize hQ:(if ch∈urlS then (urlS.idxOf ch:Int) else -1)=Q
 repeat' (first|(apply T.pcall;apply rfl;infer_instance;apply rfl;with_reducible exact Z4z)|refine Sg.Y1 ?_|fail)
 have hul:urlS.length=64:=rfl
 refine S.loopE 0 [0,5] (fun R b' μ H' e=>∃ i:Nat,H'=R∧e=(6,.int .i64 i)::b'∧(i≤urlS.length∧∀ j,j < i→urlS.getD j 0≠ch)∧μ=urlS.length - i) rfl rfl ?_ _ _ ⟨0,rfl,rfl,⟨by omega,fun j hj=>by omega⟩,rfl⟩ (by repeat' first|exact trivial|refine And.intro rfl ?_)
 rintro _ _ _ ⟨i,rfl,rfl,⟨h1,h2⟩,rfl⟩ ih
 by_cases h3:i < urlS.length
 ·by_cases h4:urlS.getD i 0=ch
  ·have e4:((urlS.getD i 0).toNat:Int)=(ch.toNat:Int):=by rw [h4]
   have hm:ch∈urlS:=by
    rw [←h4,List.getD_eq_getElem?_getD,List.getElem?_eq_getElem h3]
    exact List.getElem_mem h3
   have hq:Q=(i:Int):=by
    rw [←hQ,if_pos hm]
    have h5:urlS.idxOf ch < urlS.length:=List.idxOf_lt_length_iff.2 hm
    have h6:urlS.getD (urlS.idxOf ch) 0=ch:=by
     rw [List.getD_eq_getElem?_getD,List.getElem?_eq_getElem h5]
     exact List.getElem_idxOf h5
    have h7:¬urlS.idxOf ch < i:=fun hlt=>h2 _ hlt h6
    have h8:¬i < urlS.idxOf ch:=fun hlt=>by
     have h9:=List.not_of_lt_findIdx (p:=(·==ch)) (xs:=urlS) hlt
     rw [List.getD_eq_getElem?_getD,List.getElem?_eq_getElem h3] at h4
     simp at h9
     exact h9 h4
    omega
   subst hq
   repeat' (first|refine Sg.Y3 ?_|(apply S.condQ;apply rfl;all_goals intro _)|fail)
   exact ⟨_,PSub.refl _,rfl,rfl⟩
  ·have e4:¬((urlS.getD i 0).toNat:Int)=(ch.toNat:Int):=fun e=>h4 (by rw [←UInt8.toNat_inj];omega)
   repeat' (first|refine Sg.Y3 ?_|(apply S.condQ;apply rfl;all_goals intro _)|fail)
   exact ih _ _ _ _ ⟨i+1,rfl,rfl,⟨by omega,fun j hj=>by
    rcases Nat.lt_succ_iff_lt_or_eq.1 hj with hj|rfl
    ·exact h2 j hj
    ·exact h4⟩,rfl⟩ (by omega) (by repeat' first|exact trivial|refine And.intro rfl ?_)
 ·obtain rfl:i=urlS.length:=by omega
  have hq:Q = -1:=by
   rw [←hQ,if_neg]
   intro hm
   have h5:urlS.idxOf ch < urlS.length:=List.idxOf_lt_length_iff.2 hm
   refine h2 _ h5 ?_
   rw [List.getD_eq_getElem?_getD,List.getElem?_eq_getElem h5]
   exact List.getElem_idxOf h5
  subst hq
  repeat' (first|refine Sg.Y1 ?_|fail)
  exact ⟨_,PSub.refl _,rfl,rfl⟩
theorem _root_.Sg.Y20 {P R:Prop} (k:R) (h:Sg.Kp R→P:=by intro k;(first|(apply T.shrI64;apply rfl;apply rfl;omega;apply rfl)|(apply T.convNB;apply rfl;apply rfl)|(apply T.bor;(iterate 3 apply rfl))|((with_reducible apply T.mulKN 6);apply rfl;apply rfl;omega;apply rfl)|(apply T.convBU64;apply rfl;apply rfl)|((with_reducible apply T.mulKN 2);apply rfl;apply rfl;omega;apply rfl)|(apply T.addNN;apply rfl;apply rfl;omega;apply rfl)|((with_reducible apply T.mulKN 8);apply rfl;apply rfl;omega;apply rfl)|(apply T.shrGU8;apply rfl;apply rfl;omega;apply rfl)|(apply T.sadd;apply rfl;apply rfl;omega;apply rfl)|(apply T.sslice;(iterate 3 apply rfl);omega;apply rfl)|(apply T.loadE;apply rfl;apply rfl;infer_instance;apply rfl;apply rfl)|(apply T.convM;apply rfl;apply rfl)|(apply T.convI32;apply rfl;omega;apply rfl)|(apply T.mapLook;apply rfl;apply rfl;infer_instance;(first|assumption|(simp only [maxLen];omega)|omega);apply rfl)|(apply T.seql;(iterate 3 apply rfl))|(apply T.sneq;(iterate 3 apply rfl))|(apply T.slen;apply rfl;apply rfl)|(apply T.sidx;apply rfl;apply rfl;omega;apply rfl)|(apply T.loadS;apply rfl;infer_instance;(first|omega|(simp only [List.length_map];omega));apply rfl)|(apply T.convS;apply rfl;infer_instance;(first|rfl|assumption|exact beN_len _ _|(simp;done)|(simp;omega));apply rfl)|(apply T.mv;apply rfl;apply rfl)|(apply T.asn;apply rfl;apply rfl)|(apply T.len;apply rfl;apply rfl)|(apply T.nilCheck;apply rfl;apply rfl)|(apply T.fieldAddrZ;apply rfl;apply rfl)|(apply T.load;apply rfl;apply rfl;infer_instance;apply rfl;apply rfl)|(apply T.lss;(iterate 3 apply rfl))|(apply T.leq;(iterate 3 apply rfl))|(apply T.gtr;(iterate 3 apply rfl))|(apply T.geq;(iterate 3 apply rfl))|(apply T.eql;(iterate 3 apply rfl))|(apply T.neq;(iterate 3 apply rfl))|(apply T.addI;apply rfl;apply rfl;omega;apply rfl)|(apply T.subI;apply rfl;apply rfl;omega;apply rfl)|(apply T.mulI;apply rfl;apply rfl;omega;apply rfl)|(apply T.extract;(iterate 3 apply rfl))|(apply T.ixC;apply rfl;infer_instance;omega;(first|omega|(simp only [List.length_map];omega)|(simp;omega));apply rfl)|(apply T.ixN;apply rfl;apply rfl;infer_instance;omega;(first|omega|(simp only [List.length_map];omega)|(simp;omega));apply rfl)|(apply T.ixK;apply rfl;apply rfl;infer_instance;decide;decide;apply rfl)|(apply T.ixF;apply rfl;apply rfl;infer_instance;exact (fun _=>rfl);apply rfl;omega;omega;apply rfl)|(apply T.fieldAddrF;apply rfl;infer_instance;exact (fun _=>rfl);apply rfl;omega;apply rfl)|(apply T.ixAZ;apply rfl;apply rfl;omega;apply rfl)|(apply T.ixA;apply rfl;apply rfl;omega;apply rfl)|(apply T.loadF;apply rfl;apply rfl;infer_instance;exact (fun _=>rfl);apply rfl;exact Zb (by omega);apply rfl;apply rfl)|(apply T.loadFN;apply rfl;apply rfl;infer_instance;exact (fun _=>rfl);apply rfl;exact Zb (by omega);apply rfl)|(apply T.loadB;apply rfl;infer_instance;omega;apply rfl)|(apply T.loadNat;apply rfl;infer_instance;(first|omega|(simp only [List.length_map];omega)|(simp;omega));apply rfl)|(apply T.notB;apply rfl;apply rfl)|(apply T.pickT;(iterate 3 apply rfl))|(apply T.pickF;(iterate 3 apply rfl))|(apply T.convI64;apply rfl;omega;apply rfl)|(apply T.convU32;apply rfl;omega;apply rfl)|(apply T.convU64;apply rfl;(constructor<;>omega);apply rfl)|(apply T.convU64;apply rfl;omega;apply rfl)|(apply T.buildL;(iterate 3 apply rfl))|(apply T.buildAL;(iterate 3 apply rfl))|(apply T.loadW;apply rfl;apply rfl;infer_instance;(first|rfl|(simp only [List.length_append,List.length_map,List.length_set,List.length_replicate,List.length_cons,List.length_nil];first|done|omega));apply rfl)|(apply T.sliceLK;apply rfl;apply rfl;omega;apply rfl)|(apply T.sliceHK;apply rfl;apply rfl;omega;apply rfl)|(apply T.sliceLHK;(iterate 3 apply rfl);omega;apply rfl)|(apply T.storeW;apply rfl;apply rfl;infer_instance;(first|rfl|(simp only [List.length_append,List.length_map,List.length_set,List.length_replicate,List.length_cons,List.length_nil];first|done|omega));(first|rfl|(simp only [List.length_append,List.length_map,List.length_set,List.length_replicate,List.length_cons,List.length_nil];first|done|omega));(first|rfl|(repeat' first|apply all_nV|apply Z0s|apply all_iV|rfl|apply all_app)))|(apply T.store;apply rfl;apply rfl;infer_instance;(first|decide|(simp;omega)|simp);apply rfl)|(apply T.storeE;apply rfl;apply rfl;infer_instance;(first|omega|(simp only [List.length_map];omega)|(simp;omega));apply rfl)|(apply S.deferM;apply rfl;apply rfl)|(with_reducible refine Sr.nil ?_)|(with_reducible refine S.seq ?_)|(with_reducible refine S.block ?_)|(with_reducible refine S.reg ?_)|(with_reducible refine S.skip ?_)|(with_reducible refine S.inBlock ?_)|(apply S.exit;apply rfl)|(apply S.quiet;apply rfl;kernel_rfl)|(apply T.ungV;apply rfl;(first|with_reducible rfl|decide))|(apply T.skip;apply rfl;(first|with_reducible rfl|decide);apply rfl)|(apply T.skipU;apply rfl;apply rfl)|(apply S.condTV;apply rfl;(first|with_reducible rfl|decide))|(apply S.condFV;apply rfl;(first|with_reducible rfl|decide))|(apply T.retW;apply rfl)|(apply T.doneW;apply rfl)|(with_reducible apply T.ofRet)|(apply T.retC;apply rfl;((repeat' first|apply RV.nil|(apply RV.tmp;apply rfl)|(apply RV.cellW;apply rfl;apply rfl;infer_instance;(first|rfl|(simp only [List.length_append,List.length_map,List.length_set,List.length_replicate,List.length_cons,List.length_nil];first|done|omega)))|(apply RV.cellP;apply rfl;apply rfl;infer_instance;apply rfl)));apply rfl)|(apply SA.en;apply rfl;apply rfl;kernel_rfl)|(apply S.condQ;apply rfl;intro _;rotate_left;intro _;exfalso;(first|omega|with_reducible contradiction))|(apply S.condQ;apply rfl;intro _;exfalso;(first|omega|with_reducible contradiction);intro _)|(apply T.gcase;apply rfl;apply rfl;intro _;rotate_left;intro _;exfalso;(first|omega|with_reducible contradiction))|(apply T.gcase;apply rfl;apply rfl;intro _;exfalso;(first|omega|with_reducible contradiction);intro _)|fail);exact k.h):P:=h ⟨k⟩
theorem Z4f {s:List UInt8} (hs:∀ c∈s,c∈urlS) (h4:s.length % 4≠1) (hn:s.length≤1100000000) :
  Meets Tryz.prog 89 [sV s,.bool false] F M H (fun e H'=>if Z0B s=true then ∃ ad cp,e=.returned (.tuple ⟨[.slice ad (decB s).length cp,.bool true]⟩)∧H'=.row ad cp 5 1 (decB s).length ((decB s).map bV)::H else e=.returned (.tuple ⟨[.slice none 0 0,.bool false]⟩)∧H'=H):=by
 refine Meets.enter Tryz.func89 rfl rfl ?_
 repeat' (first|((with_reducible apply T.quoI64 (n:=8));apply rfl;apply rfl;omega;omega;apply rfl)|(apply T.makeS;(iterate 3 apply rfl);(constructor<;>omega);apply rfl;intro nb)|refine Sg.Y1 ?_|fail)
 rw [show List.replicate (s.length*6 / 8) (.int .u8 0:Value)=(outB s 0).map bV by rw [Zbv,List.map_replicate];rfl]
 refine S.loopE 1 [0,1,6] (fun R b' μ H' e=>∃ i:Nat,H'=.row (some ⟨nb,0,none⟩) (s.length*6 / 8) 5 1 (s.length*6 / 8) ((outB s i).map bV)::R∧e=(7,.int .i64 i)::b'∧(i≤6*s.length∧∀ j,8*(s.length*6 / 8)≤j→j < i→bitS s j=0)∧μ=6*s.length - i) rfl rfl ?_ _ _ ⟨0,rfl,rfl,⟨by omega,fun j hj hj2=>by omega⟩,rfl⟩ (by repeat' first|exact trivial|refine And.intro rfl ?_)
 rintro _ _ _ ⟨i,rfl,rfl,⟨hi,hz⟩,rfl⟩ ih
 have hol:=Z7g s i
 by_cases h1:i < 6*s.length
 ·have hmem:s.getD (i / 6) 0∈urlS:=hs _ (by
   have hlt:i / 6 < s.length:=by omega
   rw [List.getD_eq_getElem?_getD,List.getElem?_eq_getElem hlt]
   exact List.getElem_mem hlt)
  have hsg:sgn s (i / 6)=urlS.idxOf (s.getD (i / 6) 0):=Z9Q (by omega)
  have hb2:=ZdH s i
  have hshl:bitS s i*2 ^ (7 - i % 8) < 256:=by
   have h5:2 ^ (7 - i % 8)≤2 ^ 7:=Nat.pow_le_pow_right (by decide) (by omega)
   have h6:bitS s i*2 ^ (7 - i % 8)≤1*2 ^ 7:=Nat.mul_le_mul (by omega) h5
   omega
  have hsl:sgn s (i / 6) < 64:=Z5Z hs _
  have hand:sgn s (i / 6) / 2 ^ (5 - i % 6)&&&1=bitS s i:=Nat.and_one_is_mod _
  have hdl:sgn s (i / 6) / 2 ^ (5 - i % 6) < 64:=Nat.lt_of_le_of_lt (Nat.div_le_self _ _) hsl
  repeat' (first|((with_reducible apply T.quoI64 (n:=6));apply rfl;apply rfl;omega;omega;apply rfl)|refine Sg.Y3 ?_|(apply S.condQ;apply rfl;all_goals intro _)|fail)
  refine T.call rfl rfl Z2B ?_
  rintro _ _ ⟨rfl,hH⟩
  have hH2:=hH.symm
  subst hH2
  rw [if_pos hmem,←hsg]
  by_cases h2:i / 8 < s.length*6 / 8
  ·repeat' (first|((with_reducible apply T.remI64 (n:=6));apply rfl;apply rfl;omega;apply rfl)|(apply Sr.same;refine T.subKN (m:=5) (i % 6) rfl rfl ⟨by omega,by omega⟩ rfl ?_)|((with_reducible apply T.andI64 (n:=1));apply rfl;apply rfl;omega;omega;apply rfl;rw [hand])|((with_reducible apply T.quoI64 (n:=8));apply rfl;apply rfl;omega;omega;apply rfl)|(apply Sr.same;refine T.ixN (i:=i / 8) (vs:=(outB s i).map bV) rfl rfl inferInstance h2 (by rw [List.length_map,hol];exact h2) rfl ?_)|(apply T.loadB;apply rfl;infer_instance;rw [hol];exact h2;apply rfl)|((with_reducible apply T.remI64 (n:=8));apply rfl;apply rfl;omega;apply rfl)|(apply Sr.same;refine T.subKN (m:=7) (i % 8) rfl rfl ⟨by omega,by omega⟩ rfl ?_)|(apply T.shlI64;apply rfl;apply rfl;exact Nat.lt_trans hshl (by decide);omega;apply rfl)|(apply T.storeB;apply rfl;apply rfl;infer_instance;rw [hol];exact h2)|refine Sg.Y20 ?_|(apply S.condQ;apply rfl;all_goals intro _)|fail)
   rw [←Zbw hs h2]
   exact ih _ _ _ _ ⟨i+1,rfl,rfl,⟨by omega,fun j hj hj2=>by omega⟩,rfl⟩ (by omega) (by repeat' first|exact trivial|refine And.intro rfl ?_)
  ·by_cases h3:bitS s i=0
   ·repeat' (first|((with_reducible apply T.remI64 (n:=6));apply rfl;apply rfl;omega;apply rfl)|(apply Sr.same;refine T.subKN (m:=5) (i % 6) rfl rfl ⟨by omega,by omega⟩ rfl ?_)|((with_reducible apply T.andI64 (n:=1));apply rfl;apply rfl;omega;omega;apply rfl;rw [hand,h3])|((with_reducible apply T.quoI64 (n:=8));apply rfl;apply rfl;omega;omega;apply rfl)|refine Sg.Y3 ?_|(apply S.condQ;apply rfl;all_goals intro _)|fail)
    rw [←Z5A h2]
    refine ih _ _ _ _ ⟨i+1,rfl,rfl,⟨by omega,fun j hj hj2=>?_⟩,rfl⟩ (by omega) (by repeat' first|exact trivial|refine And.intro rfl ?_)
    by_cases hji:j=i
    ·subst hji
     exact h3
    ·exact hz j hj (by omega)
   ·have h3:bitS s i=1:=by omega
    have hsp:¬Z0B s=true:=by
     rw [Z4y hs h4]
     intro h5
     have:=h5 i (by omega) h1
     omega
    simp only [if_neg hsp]
    repeat' (first|((with_reducible apply T.remI64 (n:=6));apply rfl;apply rfl;omega;apply rfl)|(apply Sr.same;refine T.subKN (m:=5) (i % 6) rfl rfl ⟨by omega,by omega⟩ rfl ?_)|((with_reducible apply T.andI64 (n:=1));apply rfl;apply rfl;omega;omega;apply rfl;rw [hand,h3])|((with_reducible apply T.quoI64 (n:=8));apply rfl;apply rfl;omega;omega;apply rfl)|refine Sg.Y3 ?_|(apply S.condQ;apply rfl;all_goals intro _)|fail)
    exact ⟨_,PSub.drop (PSub.refl _),rfl,rfl⟩
 ·obtain rfl:i=6*s.length:=by omega
  have hsp:Z0B s=true:=by
   rw [Z4y hs h4]
   exact hz
  have hdl:=Z5N s
  simp only [if_pos hsp]
  rw [Z7h s (by omega),←hdl]
  repeat' (first|refine Sg.Y3 ?_|(apply S.condQ;apply rfl;all_goals intro _)|fail)
  exact ⟨_,PSub.refl _,_,_,rfl,rfl⟩
theorem Z4l {s:List UInt8} (hn:s.length≤1100000000):Meets Tryz.prog 57 [sV s] F M H (DecP H s):=by
 refine Meets.enter Tryz.func57 rfl rfl ?_
 unfold DecP
 repeat' (first|refine Sg.Y1 ?_|fail)
 refine S.loopE 0 [0] (fun R b' μ H' e=>∃ i:Nat,H'=R∧e=(5,.int .i64 i)::b'∧(i≤s.length∧∀ j,j < i→s.getD j 0∈urlS)∧μ=s.length - i) rfl rfl ?_ _ _ ⟨0,rfl,rfl,⟨by omega,fun j hj=>by omega⟩,rfl⟩ (by repeat' first|exact trivial|refine And.intro rfl ?_)
 rintro _ _ _ ⟨i,rfl,rfl,⟨hi,hb⟩,rfl⟩ ih
 by_cases h1:i < s.length
 ·repeat' (first|refine Sg.Y3 ?_|(apply S.condQ;apply rfl;all_goals intro _)|fail)
  refine T.call rfl rfl Z2B ?_
  rintro _ _ ⟨rfl,hH⟩
  have hH2:=hH.symm
  subst hH2
  by_cases h2:s.getD i 0∈urlS
  ·rw [if_pos h2]
   repeat' (first|refine Sg.Y7 ?_|(apply S.condQ;apply rfl;all_goals intro _)|fail)
   exact ih _ _ _ _ ⟨i+1,rfl,rfl,⟨h1,fun j hj=>by
    rcases Nat.lt_succ_iff_lt_or_eq.1 hj with hj|rfl
    ·exact hb j hj
    ·exact h2⟩,rfl⟩ (by omega) (by repeat' first|exact trivial|refine And.intro rfl ?_)
  ·rw [if_neg h2]
   have h4:=ZaW h1 h2 hb
   have h5:decX s=([],20,i):=by rw [decX,h4,if_pos h1]
   rw [h5]
   refine Sr.nilrow 5 1 ?_
   repeat' (first|refine Sg.Y1 ?_|fail)
   exact ⟨_,PSub.refl _,_,_,rfl,rfl⟩
 ·obtain rfl:i=s.length:=by omega
  clear ih
  have hall:∀ c∈s,c∈urlS:=fun c hc=>by
   obtain ⟨j,hj,rfl⟩:=List.getElem_of_mem hc
   have:=hb j hj
   simpa [List.getD,hj] using this
  have hbad:¬badB s < s.length:=fun h=>by
   have h2:=List.findIdx_getElem (p:=fun c=>!(urlS.contains c)) (w:=h)
   exact absurd (hall _ (List.getElem_mem h)) (by unfold badB;simpa using h2)
  by_cases h2:s.length % 4=1
  ·have h5:decX s=([],21,s.length):=by rw [decX,if_neg hbad,if_pos h2]
   rw [h5]
   refine S.nilrow 5 1 ?_
   repeat' (first|((with_reducible apply T.remI64 (n:=4));apply rfl;apply rfl;omega;apply rfl)|refine Sg.Y3 ?_|(apply S.condQ;apply rfl;all_goals intro _)|fail)
   exact ⟨_,PSub.refl _,_,_,rfl,rfl⟩
  ·repeat' (first|((with_reducible apply T.remI64 (n:=4));apply rfl;apply rfl;omega;apply rfl)|refine Sg.Y3 ?_|(apply S.condQ;apply rfl;all_goals intro _)|fail)
   refine T.call rfl rfl (Z4f hall h2 hn) ?_
   cases h3:Z0B s with
   | true =>
    have h5:decX s=(decB s,0,0):=by rw [decX,if_neg hbad,if_neg h2,if_pos h3]
    rw [h5]
    simp only [if_true]
    rintro _ _ ⟨ad,cp,rfl,rfl⟩
    repeat' (first|refine Sg.Y1 ?_|fail)
    exact ⟨_,PSub.refl _,_,_,rfl,rfl⟩
   | false =>
    have h4:0 < s.length:=by
     rcases Nat.eq_zero_or_pos s.length with h0|h0
     ·rw [Z0B,h0] at h3
      cases h3
     ·exact h0
    have h5:decX s=([],22,s.length - 1):=by rw [decX,if_neg hbad,if_neg h2,if_neg (by rw [h3];simp)]
    have e1:(s.length:Int) - 1=((s.length - 1:Nat):Int):=by omega
    rw [h5]
    simp only [Bool.false_eq_true,if_false]
    rintro _ _ ⟨rfl,hH⟩
    have hH2:=hH.symm
    subst hH2
    refine Sr.nilrow 5 1 ?_
    repeat' (first|refine Sg.Y1 ?_|fail)
    rw [e1]
    exact ⟨_,PSub.refl _,_,_,rfl,rfl⟩
end
end Go.Proofs.YtjajcmedipjfhaaGreatDoor
/- The walks of the document's reader of JSON: bytes, blanks, digits. -/
namespace Sg
def Z2Z (t:List UInt8) (p:Nat):Int:=if p < t.length then (bAt t p:Nat) else -1
theorem Z04 {t:List UInt8} {p:Nat} (h:p < t.length):Z2Z t p=(bAt t p:Nat):=if_pos h
theorem Z0I {t:List UInt8} {p:Nat} (h:¬p < t.length):Z2Z t p = -1:=if_neg h
end Sg
namespace Go.Proofs.YtjajcmedipjfhaaGreatDoor
open Sg Go.IntWalk
set_option maxRecDepth 100000
set_option maxHeartbeats 4000000
abbrev goV (a:Nat) (l:Value) (s:List UInt8) (c b:Int):List Value:=[.int .i64 a,l,sV s,.int .i64 c,.int .i64 b]
abbrev noL:Value:=.slice none 0 0
section
variable {F:World} {M:List Nat} {H:List Res} {t:List UInt8} {p:Nat}
theorem Zc {c b:Int}:Meets Tryz.prog 117 [.int .i64 c,.int .i64 b] F M H (fun e H'=>e=.returned (.agg ⟨goV 0 noL [] c b⟩)∧H'=H):=by
 refine Meets.enter Tryz.func117 rfl rfl ?_
 repeat' (first|(apply T.alloc;apply rfl;intro nb)|refine Sg.Y1 ?_|fail)
 exact ⟨_,PSub.drop (PSub.refl _),rfl,rfl⟩
theorem Z9:Meets Tryz.prog 116 [sV t,.int .i64 p] F M H (fun e H'=>e=.returned (.int .i64 (Z2Z t p))∧H'=H):=by
 refine Meets.enter Tryz.func116 rfl rfl ?_
 by_cases h:p < t.length
 ·rw [Z04 h]
  have hu:=(t.getD p 0).toNat_lt
  repeat' (first|refine Sg.Y3 ?_|(apply S.condQ;apply rfl;all_goals intro _)|fail)
  exact ⟨_,PSub.refl _,rfl,rfl⟩
 ·rw [Z0I h]
  repeat' (first|refine Sg.Y3 ?_|(apply S.condQ;apply rfl;all_goals intro _)|fail)
  exact ⟨_,PSub.refl _,rfl,rfl⟩
theorem ZT (hp:p≤t.length) (hl:t.length≤1000000000):Meets Tryz.prog 91 [sV t,.int .i64 p] F M H (fun e H'=>e=.returned (.int .i64 (Z3 t p:Nat))∧H'=H):=by
 refine Meets.enter Tryz.func91 rfl rfl ?_
 repeat' (first|refine Sg.Y1 ?_|fail)
 refine S.loopE 0 [0] (fun R b' μ H' e=>∃ q:Nat,H'=R∧e=(1,.int .i64 q)::b'∧(q≤t.length∧Z3 t p=Z3 t q)∧μ=t.length - q) rfl rfl ?_ _ _ ⟨p,rfl,rfl,⟨hp,rfl⟩,rfl⟩ (by repeat' first|exact trivial|refine And.intro rfl ?_)
 rintro _ _ _ ⟨q,rfl,rfl,⟨h1,h2⟩,rfl⟩ ih
 have hb:bAt t q=(t.getD q 0).toNat:=rfl
 by_cases h3:q < t.length
 ·repeat' (first|refine Sg.Y3 ?_|(apply S.condQ;apply rfl;all_goals intro _)|(apply T.gcase;apply rfl;apply rfl;all_goals intro _)|fail)
  all_goals first
   | (rw [h2,Z5l (t:=t) (p:=q) (by omega)];exact ⟨_,PSub.refl _,rfl,rfl⟩)
   | (have h5:=Z7U (t:=t) (p:=q) (by omega);exact ih _ _ _ _ ⟨q+1,rfl,rfl,⟨by omega,h2.trans h5⟩,rfl⟩ (by omega) (by repeat' first|exact trivial|refine And.intro rfl ?_))
 ·have h4:=Z14 (t:=t) (p:=q) (by omega)
  repeat' (first|refine Sg.Y3 ?_|(apply T.gcase;apply rfl;apply rfl;all_goals intro _)|fail)
  rw [h2,Z5l (t:=t) (p:=q) (by omega)]
  exact ⟨_,PSub.refl _,rfl,rfl⟩
theorem Z11 (hp:p≤t.length) (hl:t.length≤1000000000):Meets Tryz.prog 144 [sV t,.int .i64 p] F M H (fun e H'=>e=.returned (.agg ⟨match Z07 t p with
  | .ok a _=>goV a noL [] 0 0
  | .bad c b=>goV 0 noL [] c b⟩)∧H'=H):=by
 refine Meets.enter Tryz.func144 rfl rfl ?_
 repeat' (first|(apply T.alloc;apply rfl;intro nb)|refine Sg.Y1 ?_|fail)
 refine S.loopE 0 [0,1,4] (fun R b' μ H' e=>∃ q:Nat,H'=R∧e=(5,.int .i64 q)::b'∧(p≤q∧q≤t.length∧Zt t p=Zt t q)∧μ=t.length - q) rfl rfl ?_ _ _ ⟨p,rfl,rfl,⟨Nat.le_refl _,hp,rfl⟩,rfl⟩ (by repeat' first|exact trivial|refine And.intro rfl ?_)
 rintro _ _ _ ⟨q,rfl,rfl,⟨h0,h1,h2⟩,rfl⟩ ih
 have hb:bAt t q=(t.getD q 0).toNat:=rfl
 have hu:=(t.getD q 0).toNat_lt
 by_cases hd:48≤bAt t q∧bAt t q≤57
 ·have h3:=Zd (t:=t) (p:=q) (by omega)
  have h4:48≤(t.getD q 0).toNat:=by omega
  have h5:(t.getD q 0).toNat≤57:=by omega
  have h6:=Z1N hd
  repeat' (first|refine Sg.Y3 ?_|(apply S.condQ;apply rfl;all_goals intro _)|(apply T.gcase;apply rfl;apply rfl;all_goals intro _)|fail)
  exact ih _ _ _ _ ⟨q+1,rfl,rfl,⟨by omega,by omega,h2.trans h6⟩,rfl⟩ (by omega) (by repeat' first|exact trivial|refine And.intro rfl ?_)
 ·have h6:=Z28 hd
  rw [h6] at h2
  by_cases hq:q=p
  ·have hX:Z07 t p=.bad 31 p:=by
    unfold Z07
    rw [if_pos (by omega)]
   rw [hX]
   by_cases h3:q < t.length
   ·by_cases h4:48≤(t.getD q 0).toNat
    ·have h5:¬(t.getD q 0).toNat≤57:=by omega
     repeat' (first|refine Sg.Y3 ?_|(apply S.condQ;apply rfl;all_goals intro _)|(apply T.gcase;apply rfl;apply rfl;all_goals intro _)|fail)
     refine T.call rfl rfl Zc ?_
     rintro _ _ ⟨rfl,rfl⟩
     repeat' (first|refine Sg.Y2 ?_|fail)
     exact ⟨_,PSub.drop (PSub.refl _),rfl,rfl⟩
    ·repeat' (first|refine Sg.Y3 ?_|(apply S.condQ;apply rfl;all_goals intro _)|(apply T.gcase;apply rfl;apply rfl;all_goals intro _)|fail)
     refine T.call rfl rfl Zc ?_
     rintro _ _ ⟨rfl,rfl⟩
     repeat' (first|refine Sg.Y2 ?_|fail)
     exact ⟨_,PSub.drop (PSub.refl _),rfl,rfl⟩
   ·repeat' (first|refine Sg.Y3 ?_|(apply S.condQ;apply rfl;all_goals intro _)|(apply T.gcase;apply rfl;apply rfl;all_goals intro _)|fail)
    refine T.call rfl rfl Zc ?_
    rintro _ _ ⟨rfl,rfl⟩
    repeat' (first|refine Sg.Y2 ?_|fail)
    exact ⟨_,PSub.drop (PSub.refl _),rfl,rfl⟩
  ·have hX:Z07 t p=.ok q ():=by
    unfold Z07
    rw [if_neg (by omega),h2]
   rw [hX]
   by_cases h3:q < t.length
   ·by_cases h4:48≤(t.getD q 0).toNat
    ·have h5:¬(t.getD q 0).toNat≤57:=by omega
     repeat' (first|refine Sg.Y3 ?_|(apply S.condQ;apply rfl;all_goals intro _)|(apply T.gcase;apply rfl;apply rfl;all_goals intro _)|fail)
     exact ⟨_,PSub.drop (PSub.refl _),rfl,rfl⟩
    ·repeat' (first|refine Sg.Y3 ?_|(apply S.condQ;apply rfl;all_goals intro _)|(apply T.gcase;apply rfl;apply rfl;all_goals intro _)|fail)
     exact ⟨_,PSub.drop (PSub.refl _),rfl,rfl⟩
   ·repeat' (first|refine Sg.Y3 ?_|(apply S.condQ;apply rfl;all_goals intro _)|(apply T.gcase;apply rfl;apply rfl;all_goals intro _)|fail)
    exact ⟨_,PSub.drop (PSub.refl _),rfl,rfl⟩
def hexI (n:Int):Int:=if 48≤n∧n≤57 then n - 48 else if 97≤n∧n≤102 then n - 97+10 else if 65≤n∧n≤70 then n - 65+10 else -1
theorem Z99 {n:Nat} (h:n < 256):Meets Tryz.prog 181 [.int .i64 n] F M H (fun e H'=>e=.returned (.int .i64 (hexI n))∧H'=H):=by
 refine Meets.enter Tryz.func181 rfl rfl ?_
 unfold hexI
 by_cases h1:48≤n∧n≤57
 ·obtain ⟨h2,h3⟩:=h1
  rw [if_pos (by omega)]
  repeat' (first|refine Sg.Y3 ?_|(apply S.condQ;apply rfl;all_goals intro _)|(apply T.gcase;apply rfl;apply rfl;all_goals intro _)|fail)
  exact ⟨_,PSub.refl _,rfl,rfl⟩
 rw [if_neg (by omega)]
 by_cases h2:97≤n∧n≤102
 ·obtain ⟨h3,h4⟩:=h2
  rw [if_pos (by omega)]
  repeat' (first|refine Sg.Y3 ?_|(apply S.condQ;apply rfl;all_goals intro _)|(apply T.gcase;apply rfl;apply rfl;all_goals intro _)|fail)
  exact ⟨_,PSub.refl _,rfl,rfl⟩
 rw [if_neg (by omega)]
 by_cases h3:65≤n∧n≤70
 ·obtain ⟨h3,h4⟩:=h3
  rw [if_pos (by omega)]
  repeat' (first|refine Sg.Y3 ?_|(apply S.condQ;apply rfl;all_goals intro _)|(apply T.gcase;apply rfl;apply rfl;all_goals intro _)|fail)
  exact ⟨_,PSub.refl _,rfl,rfl⟩
 rw [if_neg (by omega)]
 repeat' (first|refine Sg.Y3 ?_|(apply S.condQ;apply rfl;all_goals intro _)|(apply T.gcase;apply rfl;apply rfl;all_goals intro _)|fail)
 all_goals exact ⟨_,PSub.refl _,rfl,rfl⟩
theorem Z7I {n:Nat} (h:n < 256):Meets Tryz.prog 141 [.int .i64 n] F M H (fun e H'=>e=.returned (.tuple ⟨match seqB n with
  | none=>[.int .i64 (-1),.int .i64 0,.int .i64 0]
  | some (k,lo,hi)=>[.int .i64 k,.int .i64 lo,.int .i64 hi]⟩)∧H'=H):=by
 refine Meets.enter Tryz.func141 rfl rfl ?_
 unfold seqB
 by_cases h1:n < 194∨244 < n
 ·rw [if_pos h1]
  by_cases h2:n < 194
  ·repeat' (first|refine Sg.Y3 ?_|(apply T.gcase;apply rfl;apply rfl;all_goals intro _)|fail)
   exact ⟨_,PSub.refl _,rfl,rfl⟩
  ·have h3:244 < n:=by omega
   repeat' (first|refine Sg.Y3 ?_|(apply S.condQ;apply rfl;all_goals intro _)|(apply T.gcase;apply rfl;apply rfl;all_goals intro _)|fail)
   exact ⟨_,PSub.refl _,rfl,rfl⟩
 rw [if_neg h1]
 have h2:¬n < 194:=by omega
 have h3:¬244 < n:=by omega
 clear h1
 by_cases h4:n < 224
 ·rw [if_pos h4]
  repeat' (first|refine Sg.Y3 ?_|(apply S.condQ;apply rfl;all_goals intro _)|(apply T.gcase;apply rfl;apply rfl;all_goals intro _)|fail)
  exact ⟨_,PSub.refl _,rfl,rfl⟩
 rw [if_neg h4]
 by_cases h5:n=224
 ·rw [if_pos h5]
  repeat' (first|refine Sg.Y3 ?_|(apply S.condQ;apply rfl;all_goals intro _)|(apply T.gcase;apply rfl;apply rfl;all_goals intro _)|fail)
  exact ⟨_,PSub.refl _,rfl,rfl⟩
 rw [if_neg h5]
 by_cases h6:n=237
 ·rw [if_pos h6]
  repeat' (first|refine Sg.Y3 ?_|(apply S.condQ;apply rfl;all_goals intro _)|(apply T.gcase;apply rfl;apply rfl;all_goals intro _)|fail)
  exact ⟨_,PSub.refl _,rfl,rfl⟩
 rw [if_neg h6]
 by_cases h7:n < 240
 ·rw [if_pos h7]
  repeat' (first|refine Sg.Y3 ?_|(apply S.condQ;apply rfl;all_goals intro _)|(apply T.gcase;apply rfl;apply rfl;all_goals intro _)|fail)
  exact ⟨_,PSub.refl _,rfl,rfl⟩
 rw [if_neg h7]
 by_cases h8:n=240
 ·rw [if_pos h8]
  repeat' (first|refine Sg.Y3 ?_|(apply S.condQ;apply rfl;all_goals intro _)|(apply T.gcase;apply rfl;apply rfl;all_goals intro _)|fail)
  exact ⟨_,PSub.refl _,rfl,rfl⟩
 rw [if_neg h8]
 by_cases h9:n=244
 ·rw [if_pos h9]
  repeat' (first|refine Sg.Y3 ?_|(apply S.condQ;apply rfl;all_goals intro _)|(apply T.gcase;apply rfl;apply rfl;all_goals intro _)|fail)
  exact ⟨_,PSub.refl _,rfl,rfl⟩
 rw [if_neg h9]
 repeat' (first|refine Sg.Y3 ?_|(apply S.condQ;apply rfl;all_goals intro _)|(apply T.gcase;apply rfl;apply rfl;all_goals intro _)|fail)
 exact ⟨_,PSub.refl _,rfl,rfl⟩
end
end Go.Proofs.YtjajcmedipjfhaaGreatDoor
/- The walks of the document's reader of JSON: bytes that belong together. -/
namespace Go.Proofs.YtjajcmedipjfhaaGreatDoor
open Sg Go.IntWalk
set_option maxRecDepth 100000
set_option maxHeartbeats 4000000
section
variable {F:World} {M:List Nat} {H:List Res} {t:List UInt8} {p:Nat}
theorem ZcI {c n lo hi:Nat} (h:seqB c=some (n,lo,hi)):1≤n∧n≤3∧lo≤255∧hi≤255:=by
 unfold seqB at h
 repeat' split at h
 all_goals (cases h;try omega)
theorem Z1y (hp:p < t.length) (hl:t.length≤1000000000):Meets Tryz.prog 114 [sV t,.int .i64 p] F M H (fun e H'=>e=.returned (.agg ⟨match Z0G t p (t.getD p 0) with
  | .ok a _=>goV a noL ((t.drop p).take (a - p)) 0 0
  | .bad c b=>goV 0 noL [] c b⟩)∧H'=H):=by
 refine Meets.enter Tryz.func114 rfl rfl ?_
 have hu:=(t.getD p 0).toNat_lt
 have hu':(t.getD p 0).toNat < 256:=hu
 repeat' (first|(apply T.alloc;apply rfl;intro nb)|refine Sg.Y1 ?_|fail)
 refine T.call rfl rfl (Z7I hu') ?_
 cases hs:seqB (t.getD p 0).toNat with
 | none =>
  have hX:Z0G t p (t.getD p 0)=.bad 32 p:=by unfold Z0G;rw [hs]
  rw [hX]
  rintro _ _ ⟨rfl,rfl⟩
  repeat' (first|refine Sg.Y1 ?_|fail)
  refine T.call rfl rfl Zc ?_
  rintro _ _ ⟨rfl,rfl⟩
  repeat' (first|refine Sg.Y2 ?_|fail)
  exact ⟨_,PSub.drop (PSub.refl _),rfl,rfl⟩
 | some y =>
  obtain ⟨n,lo0,hi0⟩:=y
  have hX:Z0G t p (t.getD p 0)=seqX t p n (p+1) lo0 hi0:=by unfold Z0G;rw [hs]
  obtain ⟨n1,n2,n3,n4⟩:=ZcI hs
  rw [hX]
  generalize hQ:seqX t p n (p+1) lo0 hi0=Q
  rintro _ _ ⟨rfl,rfl⟩
  repeat' (first|refine Sg.Y3 ?_|(apply S.condQ;apply rfl;all_goals intro _)|fail)
  refine S.loopE 0 [0,1,4,5] (fun R b' μ H' e=>∃ i lo hi:Nat,H'=R∧e=(6,.int .i64 lo)::(7,.int .i64 hi)::(8,.int .i64 i)::b'∧(1≤i∧i≤n+1∧p+i≤t.length∧seqX t p (n+1 - i) (p+i) lo hi=Q)∧μ=n+1 - i) rfl rfl ?_ _ _ ⟨1,lo0,hi0,rfl,rfl,⟨Nat.le_refl _,by omega,by omega,hQ⟩,rfl⟩ (by repeat' first|exact trivial|refine And.intro rfl ?_)
  rintro _ _ _ ⟨i,lo,hi,rfl,rfl,⟨h1,h2,h3,h4⟩,rfl⟩ ih
  by_cases h5:i≤n
  ·obtain ⟨k,hk⟩:∃ k,n+1 - i=k+1:=⟨n - i,by omega⟩
   rw [hk,seqX] at h4
   have e1:(p:Int)+(i:Int)=((p+i:Nat):Int):=by omega
   repeat' (first|(apply T.addI;apply rfl;apply rfl;omega;apply rfl;rw [e1])|refine Sg.Y3 ?_|(apply S.condQ;apply rfl;all_goals intro _)|fail)
   refine T.call rfl rfl Z9 ?_
   rintro _ _ ⟨rfl,rfl⟩
   by_cases h6:p+i < t.length
   ·have hc:t[p+i]?=some (t.getD (p+i) 0):=by simp [List.getD,h6]
    have hb:bAt t (p+i)=(t.getD (p+i) 0).toNat:=rfl
    rw [Z04 h6]
    rw [hc] at h4
    by_cases h7:bAt t (p+i) < lo∨hi < bAt t (p+i)
    ·have h8:Q=.bad 32 p:=by rw [←h4];exact if_pos h7
     rw [h8]
     by_cases h9:bAt t (p+i) < lo
     ·repeat' (first|refine Sg.Y3 ?_|(apply S.condQ;apply rfl;all_goals intro _)|(apply T.gcase;apply rfl;apply rfl;all_goals intro _)|fail)
      refine T.call rfl rfl Zc ?_
      rintro _ _ ⟨rfl,rfl⟩
      repeat' (first|refine Sg.Y2 ?_|fail)
      exact ⟨_,PSub.drop (PSub.refl _),rfl,rfl⟩
     ·have h10:=h7.resolve_left h9
      repeat' (first|refine Sg.Y3 ?_|(apply S.condQ;apply rfl;all_goals intro _)|(apply T.gcase;apply rfl;apply rfl;all_goals intro _)|fail)
      refine T.call rfl rfl Zc ?_
      rintro _ _ ⟨rfl,rfl⟩
      repeat' (first|refine Sg.Y2 ?_|fail)
      exact ⟨_,PSub.drop (PSub.refl _),rfl,rfl⟩
    ·have h8:seqX t p k (p+i+1) 128 191=Q:=by rw [←h4];exact (if_neg h7).symm
     have h9:¬bAt t (p+i) < lo:=fun h=>h7 (.inl h)
     have h10:¬hi < bAt t (p+i):=fun h=>h7 (.inr h)
     repeat' (first|refine Sg.Y3 ?_|(apply S.condQ;apply rfl;all_goals intro _)|(apply T.gcase;apply rfl;apply rfl;all_goals intro _)|fail)
     exact ih _ _ _ _ ⟨i+1,128,191,rfl,rfl,⟨by omega,by omega,by omega,by rw [show n+1 - (i+1)=k by omega];exact h8⟩,rfl⟩ (by omega) (by repeat' first|exact trivial|refine And.intro rfl ?_)
   ·have hc:t[p+i]?=none:=List.getElem?_eq_none (by omega)
    rw [Z0I h6]
    rw [hc] at h4
    have h8:Q=.bad 31 t.length:=by rw [←h4,show t.length=p+i by omega]
    rw [h8]
    repeat' (first|refine Sg.Y1 ?_|fail)
    refine T.call rfl rfl Zc ?_
    rintro _ _ ⟨rfl,rfl⟩
    repeat' (first|refine Sg.Y2 ?_|fail)
    exact ⟨_,PSub.drop (PSub.refl _),rfl,rfl⟩
  ·have hi1:i=n+1:=by omega
   subst hi1
   have h8:Q=.ok (p+n+1) ():=by
    rw [←h4,show n+1 - (n+1)=0 by omega,seqX]
    rfl
   rw [h8]
   have e0:(p:Int)+(n:Int)=((p+n:Nat):Int):=by omega
   have e1:((p+n:Nat):Int)+1=((p+n+1:Nat):Int):=by omega
   have hlen:((t.drop p).take (p+n+1 - p)).length=n+1:=by rw [List.length_take,List.length_drop];omega
   repeat' (first|(apply T.addI;apply rfl;apply rfl;omega;apply rfl;first|rw [e0]|rw [e1])|refine Sg.Y3 ?_|(apply S.condQ;apply rfl;all_goals intro _)|fail)
   exact ⟨_,PSub.drop (PSub.refl _),rfl,rfl⟩
end
end Go.Proofs.YtjajcmedipjfhaaGreatDoor
/- The walks of the document's reader of JSON: code points. -/
namespace Go.Proofs.YtjajcmedipjfhaaGreatDoor
open Sg Go.IntWalk
set_option maxRecDepth 100000
set_option maxHeartbeats 4000000
section
variable {F:World} {M:List Nat} {H:List Res} {t:List UInt8} {p:Nat}
theorem Z2M {n:Nat} (h:n < 256):(n:Int)=(((UInt8.ofNat n).toNat:Nat):Int):=by
 rw [UInt8.toNat_ofNat_of_lt' h]
theorem Z2r {u:Nat} (hu:u < 1114112):Meets Tryz.prog 171 [.int .i64 u] F M H (fun e H'=>e=.returned (sV (utfL u))∧H'=H):=by
 refine Meets.enter Tryz.func171 rfl rfl ?_
 unfold utfL
 by_cases h1:u < 128
 ·rw [if_pos h1]
  have c1:=Z2M (n:=u) (by omega)
  repeat' (first|(apply T.convU8;apply rfl;omega;apply rfl;rw [c1])|(refine T.convS (xs:=[UInt8.ofNat u]) rfl inferInstance rfl rfl ?_)|(apply T.bs;(iterate 6 apply rfl);intro nb)|refine Sg.Y8 ?_|(apply S.condQ;apply rfl;all_goals intro _)|fail)
  exact ⟨_,PSub.drop (PSub.refl _),rfl,rfl⟩
 rw [if_neg h1]
 by_cases h2:u < 2048
 ·rw [if_pos h2]
  have c1:192+((u / 64:Nat):Int)=(((UInt8.ofNat (192+u / 64)).toNat:Nat):Int):=by rw [←Z2M (by omega)];omega
  have c2:128+((u % 64:Nat):Int)=(((UInt8.ofNat (128+u % 64)).toNat:Nat):Int):=by rw [←Z2M (by omega)];omega
  repeat' (first|((with_reducible apply T.quoI64 (n:=64));apply rfl;apply rfl;omega;omega;apply rfl)|((with_reducible apply T.remI64 (n:=64));apply rfl;apply rfl;omega;apply rfl)|(apply T.convU8;apply rfl;omega;apply rfl;first|rw [c1]|rw [c2])|(refine T.convS (xs:=[UInt8.ofNat (192+u / 64),UInt8.ofNat (128+u % 64)]) rfl inferInstance rfl rfl ?_)|(apply T.bs;(iterate 6 apply rfl);intro nb)|refine Sg.Y8 ?_|(apply S.condQ;apply rfl;all_goals intro _)|fail)
  exact ⟨_,PSub.drop (PSub.refl _),rfl,rfl⟩
 rw [if_neg h2]
 by_cases h3:u < 65536
 ·rw [if_pos h3]
  have c1:224+((u / 4096:Nat):Int)=(((UInt8.ofNat (224+u / 4096)).toNat:Nat):Int):=by rw [←Z2M (by omega)];omega
  have c2:128+((u / 64 % 64:Nat):Int)=(((UInt8.ofNat (128+u / 64 % 64)).toNat:Nat):Int):=by rw [←Z2M (by omega)];omega
  have c3:128+((u % 64:Nat):Int)=(((UInt8.ofNat (128+u % 64)).toNat:Nat):Int):=by rw [←Z2M (by omega)];omega
  repeat' (first|((with_reducible apply T.quoI64 (n:=64));apply rfl;apply rfl;omega;omega;apply rfl)|((with_reducible apply T.quoI64 (n:=4096));apply rfl;apply rfl;omega;omega;apply rfl)|((with_reducible apply T.remI64 (n:=64));apply rfl;apply rfl;omega;apply rfl)|(apply T.convU8;apply rfl;omega;apply rfl;first|rw [c1]|rw [c2]|rw [c3])|(refine T.convS (xs:=[UInt8.ofNat (224+u / 4096),UInt8.ofNat (128+u / 64 % 64),UInt8.ofNat (128+u % 64)]) rfl inferInstance rfl rfl ?_)|(apply T.bs;(iterate 6 apply rfl);intro nb)|refine Sg.Y8 ?_|(apply S.condQ;apply rfl;all_goals intro _)|fail)
  exact ⟨_,PSub.drop (PSub.refl _),rfl,rfl⟩
 rw [if_neg h3]
 have c1:240+((u / 262144:Nat):Int)=(((UInt8.ofNat (240+u / 262144)).toNat:Nat):Int):=by rw [←Z2M (by omega)];omega
 have c2:128+((u / 4096 % 64:Nat):Int)=(((UInt8.ofNat (128+u / 4096 % 64)).toNat:Nat):Int):=by rw [←Z2M (by omega)];omega
 have c3:128+((u / 64 % 64:Nat):Int)=(((UInt8.ofNat (128+u / 64 % 64)).toNat:Nat):Int):=by rw [←Z2M (by omega)];omega
 have c4:128+((u % 64:Nat):Int)=(((UInt8.ofNat (128+u % 64)).toNat:Nat):Int):=by rw [←Z2M (by omega)];omega
 repeat' (first|((with_reducible apply T.quoI64 (n:=64));apply rfl;apply rfl;omega;omega;apply rfl)|((with_reducible apply T.quoI64 (n:=4096));apply rfl;apply rfl;omega;omega;apply rfl)|((with_reducible apply T.quoI64 (n:=262144));apply rfl;apply rfl;omega;omega;apply rfl)|((with_reducible apply T.remI64 (n:=64));apply rfl;apply rfl;omega;apply rfl)|(apply T.convU8;apply rfl;omega;apply rfl;first|rw [c1]|rw [c2]|rw [c3]|rw [c4])|(refine T.convS (xs:=[UInt8.ofNat (240+u / 262144),UInt8.ofNat (128+u / 4096 % 64),UInt8.ofNat (128+u / 64 % 64),UInt8.ofNat (128+u % 64)]) rfl inferInstance rfl rfl ?_)|(apply T.bs;(iterate 6 apply rfl);intro nb)|refine Sg.Y8 ?_|(apply S.condQ;apply rfl;all_goals intro _)|fail)
 exact ⟨_,PSub.drop (PSub.refl _),rfl,rfl⟩
theorem Zcl {c:UInt8}:hexI (c.toNat:Nat)=match hexN c with
  | none => -1
  | some d=>(d:Nat):=by
 have e1:∀ a b:UInt8,(a≤b)=(a.toNat≤b.toNat):=fun a b=>propext UInt8.le_iff_toNat_le
 unfold hexI hexN
 have k1:(48:UInt8).toNat=48:=rfl
 have k2:(57:UInt8).toNat=57:=rfl
 have k3:(97:UInt8).toNat=97:=rfl
 have k4:(102:UInt8).toNat=102:=rfl
 have k5:(65:UInt8).toNat=65:=rfl
 have k6:(70:UInt8).toNat=70:=rfl
 by_cases h1:48≤c.toNat∧c.toNat≤57
 ·have n1:48≤((c.toNat:Nat):Int)∧((c.toNat:Nat):Int)≤57:=by omega
  have m1:48≤c∧c≤57:=by rw [e1,e1];exact h1
  rw [if_pos n1,if_pos m1]
  simp only
  omega
 have n1:¬(48≤((c.toNat:Nat):Int)∧((c.toNat:Nat):Int)≤57):=by omega
 have m1:¬(48≤c∧c≤57):=by rw [e1,e1];exact h1
 rw [if_neg n1,if_neg m1]
 by_cases h2:97≤c.toNat∧c.toNat≤102
 ·have n2:97≤((c.toNat:Nat):Int)∧((c.toNat:Nat):Int)≤102:=by omega
  have m2:97≤c∧c≤102:=by rw [e1,e1];exact h2
  rw [if_pos n2,if_pos m2]
  simp only
  omega
 have n2:¬(97≤((c.toNat:Nat):Int)∧((c.toNat:Nat):Int)≤102):=by omega
 have m2:¬(97≤c∧c≤102):=by rw [e1,e1];exact h2
 rw [if_neg n2,if_neg m2]
 by_cases h3:65≤c.toNat∧c.toNat≤70
 ·have n3:65≤((c.toNat:Nat):Int)∧((c.toNat:Nat):Int)≤70:=by omega
  have m3:65≤c∧c≤70:=by rw [e1,e1];exact h3
  rw [if_pos n3,if_pos m3]
  simp only
  omega
 have n3:¬(65≤((c.toNat:Nat):Int)∧((c.toNat:Nat):Int)≤70):=by omega
 have m3:¬(65≤c∧c≤70):=by rw [e1,e1];exact h3
 rw [if_neg n3,if_neg m3]
end
end Go.Proofs.YtjajcmedipjfhaaGreatDoor
/- The walks of the document's reader of JSON: four digits. -/
namespace Go.Proofs.YtjajcmedipjfhaaGreatDoor
open Sg Go.IntWalk
set_option maxRecDepth 100000
set_option maxHeartbeats 4000000
section
variable {F:World} {M:List Nat} {H:List Res} {t:List UInt8} {p:Nat}
theorem ZaV {low:Bool} {L i u d:Nat} (hL:L=if low=true then 2 else 0):Z0W low i u d=true↔(L=2∧(i=0∧d≠13∨i=1∧d < 12)∨L=0∧i=1∧u=13∧12≤d):=by
 subst hL
 cases low<;>simp [Z0W]<;>omega
theorem Z9a {c:UInt8} {d:Nat} (h:hexN c=some d):d < 16:=by
 have hh:=Zcl (c:=c)
 rw [h] at hh
 simp only at hh
 unfold hexI at hh
 split at hh
 ·omega
 ·split at hh
  ·omega
  ·split at hh<;>omega
theorem ZaD {low:Bool} {L fr i k u q:Nat} {c:UInt8} {Q:Gt Nat} (hL:L=if low=true then 2 else 0) (hk:i+k=3) (hc:t[q]?=some c) (h:ZK t low fr (k+1) q u=Q) :
  ((hexI (c.toNat:Nat) < 0∨L=2∧(i=0∧hexI (c.toNat:Nat)≠13∨i=1∧hexI (c.toNat:Nat) < 12)∨L=0∧i=1∧u=13∧12≤hexI (c.toNat:Nat))∧Q=.bad 33 fr) ∨
  (¬(hexI (c.toNat:Nat) < 0∨L=2∧(i=0∧hexI (c.toNat:Nat)≠13∨i=1∧hexI (c.toNat:Nat) < 12)∨L=0∧i=1∧u=13∧12≤hexI (c.toNat:Nat))∧∃ d:Nat,hexI (c.toNat:Nat)=(d:Nat)∧d < 16∧ZK t low fr k (q+1) (16*u+d)=Q):=by
 have hh:=Zcl (c:=c)
 rw [ZK,hc] at h
 cases hx:hexN c with
 | none =>
  rw [hx] at hh
  simp only [hx] at h hh
  exact .inl ⟨.inl (by omega),h.symm⟩
 | some d =>
  have hd:=Z9a hx
  rw [hx] at hh
  simp only [hx] at h hh
  have hi:3 - k=i:=by omega
  rw [hi] at h
  by_cases hb:Z0W low i u d=true
  ·rw [if_pos hb] at h
   have:=(ZaV hL).1 hb
   exact .inl ⟨by omega,h.symm⟩
  ·rw [if_neg hb] at h
   have:=mt (ZaV hL).2 hb
   exact .inr ⟨by omega,d,hh,hd,h⟩
theorem Z6B {low:Bool} {L fr:Nat} (hL:L=if low=true then 2 else 0) (hp:p≤t.length) (hl:t.length≤1000000000):Meets Tryz.prog 170 [sV t,.int .i64 p,.int .i64 L,.int .i64 fr] F M H (fun e H'=>e=.returned (.tuple ⟨match ZK t low fr 4 p 0 with
  | .ok a v=>[.int .i64 v,.agg ⟨goV a noL [] 0 0⟩]
  | .bad c b=>[.int .i64 0,.agg ⟨goV 0 noL [] c b⟩]⟩)∧H'=H):=by
 refine Meets.enter Tryz.func170 rfl rfl ?_
 generalize hQ:ZK t low fr 4 p 0=Q
 have hL2:L=0∨L=2:=by subst hL;cases low<;>simp
 repeat' (first|(apply T.alloc;apply rfl;intro nb)|refine Sg.Y1 ?_|fail)
 refine S.loopE 0 [0,1,2,3,9] (fun R b' μ H' e=>∃ u i:Nat,H'=R∧e=(10,.int .i64 u)::(11,.int .i64 i)::b'∧(i≤4∧p+i≤t.length∧u < 16 ^ i∧ZK t low fr (4 - i) (p+i) u=Q)∧μ=4 - i) rfl rfl ?_ _ _ ⟨0,0,rfl,rfl,⟨by omega,hp,by decide,hQ⟩,rfl⟩ (by repeat' first|exact trivial|refine And.intro rfl ?_)
 rintro _ _ _ ⟨u,i,rfl,rfl,⟨h1,h2,h3,h4⟩,rfl⟩ ih
 have h16:(16:Nat) ^ i≤16 ^ 4:=Nat.pow_le_pow_right (by decide) h1
 have hu:u < 65536:=Nat.lt_of_lt_of_le h3 h16
 by_cases h5:i < 4
 ·obtain ⟨k,hk⟩:∃ k,i+k=3:=⟨3 - i,by omega⟩
  rw [show 4 - i=k+1 by omega] at h4
  have e1:(p:Int)+(i:Int)=((p+i:Nat):Int):=by omega
  repeat' (first|(apply T.addI;apply rfl;apply rfl;omega;apply rfl;rw [e1])|refine Sg.Y3 ?_|(apply S.condQ;apply rfl;all_goals intro _)|fail)
  refine T.call rfl rfl Z9 ?_
  rintro _ _ ⟨rfl,rfl⟩
  by_cases h6:p+i < t.length
  ·have hc:t[p+i]?=some (t.getD (p+i) 0):=by simp [List.getD,h6]
   have hb:bAt t (p+i)=(t.getD (p+i) 0).toNat:=rfl
   have hlt:=(t.getD (p+i) 0).toNat_lt
   have hlt':bAt t (p+i) < 256:=hlt
   have hstep:=ZaD (Q:=Q) hL hk hc h4
   rw [Z04 h6]
   rw [←hb] at hstep
   repeat' (first|refine Sg.Y3 ?_|(apply S.condQ;apply rfl;all_goals intro _)|fail)
   refine T.call rfl rfl (Z99 hlt') ?_
   rintro _ _ ⟨rfl,rfl⟩
   generalize hexI ((bAt t (p+i):Nat):Int)=h at hstep ⊢
   rcases hstep with ⟨hbad,h8⟩|⟨hgood,d,rfl,hd,h8⟩
   ·rw [h8]
    repeat' (first|refine Sg.Y3 ?_|(apply S.condQ;apply rfl;all_goals intro _)|(apply T.gcase;apply rfl;apply rfl;all_goals intro _)|fail)
    all_goals
     refine T.call rfl rfl Zc ?_
     rintro _ _ ⟨rfl,rfl⟩
     repeat' (first|refine Sg.Y2 ?_|fail)
     exact ⟨_,PSub.drop (PSub.refl _),rfl,rfl⟩
   ·have h9:16*u+d < 16 ^ (i+1):=by
     rw [Nat.pow_succ]
     omega
    have h10:ZK t low fr (4 - (i+1)) (p+(i+1)) (16*u+d)=Q:=by
     rw [show 4 - (i+1)=k by omega]
     exact h8
    have e2:16*(u:Int)+(d:Int)=((16*u+d:Nat):Int):=by omega
    repeat' (first|(apply T.addI;apply rfl;apply rfl;omega;apply rfl;rw [e2])|refine Sg.Y3 ?_|(apply S.condQ;apply rfl;all_goals intro _)|(apply T.gcase;apply rfl;apply rfl;all_goals intro _)|fail)
    all_goals exact ih _ _ _ _ ⟨16*u+d,i+1,rfl,rfl,⟨by omega,by omega,h9,h10⟩,rfl⟩ (by omega) (by repeat' first|exact trivial|refine And.intro rfl ?_)
  ·have hc:t[p+i]?=none:=List.getElem?_eq_none (by omega)
   rw [Z0I h6]
   have h8:Q=.bad 31 t.length:=by rw [←h4,ZK,hc,show t.length=p+i by omega]
   rw [h8]
   repeat' (first|refine Sg.Y1 ?_|fail)
   refine T.call rfl rfl Zc ?_
   rintro _ _ ⟨rfl,rfl⟩
   repeat' (first|refine Sg.Y2 ?_|fail)
   exact ⟨_,PSub.drop (PSub.refl _),rfl,rfl⟩
 ·obtain rfl:i=4:=by omega
  have h8:Q=.ok (p+4) u:=by rw [←h4];rfl
  rw [h8]
  repeat' (first|refine Sg.Y1 ?_|fail)
  exact ⟨_,PSub.drop (PSub.refl _),rfl,rfl⟩
end
end Go.Proofs.YtjajcmedipjfhaaGreatDoor
