/- Texts put together by a program: JrfA JrfB JrfC JrfD JrfE. -/
import Derived.Test.YthomgjihagigcaaGreatDoorMf
import Derived.Test.YthomgjihagigcaaGreatDoorMh
/- The walks of the document's reader of JSON: bytes, blanks, digits. -/
namespace Sg
def Z1E (t:List UInt8) (p:Nat):Int:=if p < t.length then (bAt t p:Nat) else -1
theorem ZB {t:List UInt8} {p:Nat} (h:p < t.length):Z1E t p=(bAt t p:Nat):=if_pos h
theorem ZX {t:List UInt8} {p:Nat} (h:¬p < t.length):Z1E t p = -1:=if_neg h
end Sg
namespace Go.Proofs.YthomgjihagigcaaGreatDoor
open Sg Go.IntWalk
set_option maxRecDepth 100000
set_option maxHeartbeats 4000000
abbrev goV (a:Nat) (l:Value) (s:List UInt8) (c b:Int):List Value:=[.int .i64 a,l,sV s,.int .i64 c,.int .i64 b]
abbrev noL:Value:=.slice none 0 0
section
variable {F:World} {M:List Nat} {H:List Res} {t:List UInt8} {p:Nat}
theorem Z5 {c b:Int}:Meets Tryz.prog 130 [.int .i64 c,.int .i64 b] F M H (fun e H'=>e=.returned (.agg ⟨goV 0 noL [] c b⟩)∧H'=H):=by
 refine Meets.enter Tryz.func130 rfl rfl ?_
 repeat' (first|(apply T.mv;apply rfl;apply rfl)|(apply T.buildL;(iterate 3 apply rfl))|(apply T.storeW;apply rfl;apply rfl;infer_instance;(first|rfl|(simp only [List.length_append,List.length_map,List.length_set,List.length_replicate,List.length_cons,List.length_nil];first|done|omega));(first|rfl|(simp only [List.length_append,List.length_map,List.length_set,List.length_replicate,List.length_cons,List.length_nil];first|done|omega));(first|rfl|(repeat' first|apply all_nV|apply all_bV|apply all_iV|rfl|apply all_app)))|(apply T.alloc;apply rfl;intro nb)|(with_reducible first|refine Sr.nil ?_|refine S.seq ?_|refine S.reg ?_)|(apply T.retC;apply rfl;((repeat' first|apply RV.nil|(apply RV.tmp;apply rfl)|(apply RV.cellW;apply rfl;apply rfl;infer_instance;(first|rfl|(simp only [List.length_append,List.length_map,List.length_set,List.length_replicate,List.length_cons,List.length_nil];first|done|omega)))|(apply RV.cellP;apply rfl;apply rfl;infer_instance;apply rfl)));apply rfl)|fail)
 exact ⟨_,PSub.drop (PSub.refl _),rfl,rfl⟩
theorem Z4:Meets Tryz.prog 129 [sV t,.int .i64 p] F M H (fun e H'=>e=.returned (.int .i64 (Z1E t p))∧H'=H):=by
 refine Meets.enter Tryz.func129 rfl rfl ?_
 by_cases h:p < t.length
 ·rw [ZB h]
  have hu:=(t.getD p 0).toNat_lt
  repeat' (first|((first|apply T.slen|apply T.mv|apply T.asn);apply rfl;apply rfl)|(apply T.sidx;apply rfl;apply rfl;omega;apply rfl)|(apply T.geq;(iterate 3 apply rfl))|(apply T.convI64;apply rfl;omega;apply rfl)|(with_reducible first|refine Sr.nil ?_|refine S.seq ?_|refine S.reg ?_|refine S.skip ?_)|(apply S.condQ;apply rfl;all_goals (intro _;try (exfalso;first|omega|with_reducible contradiction)))|(apply T.retW;apply rfl)|fail)
  exact ⟨_,PSub.refl _,rfl,rfl⟩
 ·rw [ZX h]
  repeat' (first|((first|apply T.slen|apply T.mv|apply T.asn);apply rfl;apply rfl)|(apply T.geq;(iterate 3 apply rfl))|(with_reducible first|refine Sr.nil ?_|refine S.seq ?_|refine S.reg ?_)|(apply S.condQ;apply rfl;all_goals (intro _;try (exfalso;first|omega|with_reducible contradiction)))|(apply T.retW;apply rfl)|fail)
  exact ⟨_,PSub.refl _,rfl,rfl⟩
theorem Zv (hp:p≤t.length) (hl:t.length≤1000000000):Meets Tryz.prog 116 [sV t,.int .i64 p] F M H (fun e H'=>e=.returned (.int .i64 (Z2 t p:Nat))∧H'=H):=by
 refine Meets.enter Tryz.func116 rfl rfl ?_
 repeat' (first|(apply T.asn;apply rfl;apply rfl)|(with_reducible first|refine Sr.nil ?_|refine S.seq ?_|refine S.block ?_|refine S.reg ?_)|fail)
 refine S.loopE 0 [0] (fun R b' μ H' e=>∃ q:Nat,H'=R∧e=(1,.int .i64 q)::b'∧(q≤t.length∧Z2 t p=Z2 t q)∧μ=t.length - q) rfl rfl ?_ _ _ ⟨p,rfl,rfl,⟨hp,rfl⟩,rfl⟩ (by repeat' first|exact trivial|refine And.intro rfl ?_)
 rintro _ _ _ ⟨q,rfl,rfl,⟨h1,h2⟩,rfl⟩ ih
 have hb:bAt t q=(t.getD q 0).toNat:=rfl
 by_cases h3:q < t.length
 ·repeat' (first|((first|apply T.slen|apply T.mv|apply T.asn);apply rfl;apply rfl)|(apply T.sidx;apply rfl;apply rfl;omega;apply rfl)|((first|apply T.lss|apply T.eql);(iterate 3 apply rfl))|(apply T.addI;apply rfl;apply rfl;omega;apply rfl)|(apply T.pickT;(iterate 3 apply rfl))|(apply T.pickF;(iterate 3 apply rfl))|(with_reducible first|refine Sr.nil ?_|refine S.seq ?_|refine S.block ?_|refine S.reg ?_|refine S.skip ?_|refine S.inBlock ?_)|(apply S.exit;apply rfl)|(apply T.ungV;apply rfl;(first|with_reducible rfl|decide))|(apply T.skip;apply rfl;(first|with_reducible rfl|decide);apply rfl)|(apply S.condTV;apply rfl;(first|with_reducible rfl|decide))|(apply S.condQ;apply rfl;all_goals (intro _;try (exfalso;first|omega|with_reducible contradiction)))|(apply T.gcase;apply rfl;apply rfl;all_goals (intro _;try (exfalso;first|omega|with_reducible contradiction)))|(apply T.retW;apply rfl)|fail)
  all_goals first
   | (rw [h2,Z1X (t:=t) (p:=q) (by omega)];exact ⟨_,PSub.refl _,rfl,rfl⟩)
   | (have h5:=Z37 (t:=t) (p:=q) (by omega);exact ih _ _ _ _ ⟨q+1,rfl,rfl,⟨by omega,h2.trans h5⟩,rfl⟩ (by omega) (by repeat' first|exact trivial|refine And.intro rfl ?_))
 ·have h4:=Z0e (t:=t) (p:=q) (by omega)
  repeat' (first|((first|apply T.slen|apply T.mv|apply T.asn);apply rfl;apply rfl)|(apply T.lss;(iterate 3 apply rfl))|(apply T.pickF;(iterate 3 apply rfl))|(with_reducible first|refine Sr.nil ?_|refine S.seq ?_|refine S.reg ?_)|(apply S.exit;apply rfl)|(apply T.skip;apply rfl;(first|with_reducible rfl|decide);apply rfl)|(apply T.skipU;apply rfl;apply rfl)|(apply S.condFV;apply rfl;(first|with_reducible rfl|decide))|(apply T.gcase;apply rfl;apply rfl;all_goals (intro _;try (exfalso;first|omega|with_reducible contradiction)))|(apply T.retW;apply rfl)|fail)
  rw [h2,Z1X (t:=t) (p:=q) (by omega)]
  exact ⟨_,PSub.refl _,rfl,rfl⟩
theorem Z0d (hp:p≤t.length) (hl:t.length≤1000000000):Meets Tryz.prog 147 [sV t,.int .i64 p] F M H (fun e H'=>e=.returned (.agg ⟨match ZF t p with
  | .ok a _=>goV a noL [] 0 0
  | .bad c b=>goV 0 noL [] c b⟩)∧H'=H):=by
 refine Meets.enter Tryz.func147 rfl rfl ?_
 repeat' (first|((first|apply T.mv|apply T.asn);apply rfl;apply rfl)|(apply T.alloc;apply rfl;intro nb)|(with_reducible first|refine Sr.nil ?_|refine S.seq ?_|refine S.block ?_|refine S.reg ?_)|fail)
 refine S.loopE 0 [0,1,4] (fun R b' μ H' e=>∃ q:Nat,H'=R∧e=(5,.int .i64 q)::b'∧(p≤q∧q≤t.length∧Z3 t p=Z3 t q)∧μ=t.length - q) rfl rfl ?_ _ _ ⟨p,rfl,rfl,⟨Nat.le_refl _,hp,rfl⟩,rfl⟩ (by repeat' first|exact trivial|refine And.intro rfl ?_)
 rintro _ _ _ ⟨q,rfl,rfl,⟨h0,h1,h2⟩,rfl⟩ ih
 have hb:bAt t q=(t.getD q 0).toNat:=rfl
 have hu:=(t.getD q 0).toNat_lt
 by_cases hd:48≤bAt t q∧bAt t q≤57
 ·have h3:=Z7 (t:=t) (p:=q) (by omega)
  have h4:48≤(t.getD q 0).toNat:=by omega
  have h5:(t.getD q 0).toNat≤57:=by omega
  have h6:=Z0K hd
  repeat' (first|((first|apply T.slen|apply T.mv|apply T.asn);apply rfl;apply rfl)|(apply T.sidx;apply rfl;apply rfl;omega;apply rfl)|((first|apply T.lss|apply T.leq|apply T.geq);(iterate 3 apply rfl))|(apply T.addI;apply rfl;apply rfl;omega;apply rfl)|(apply T.pickT;(iterate 3 apply rfl))|(with_reducible first|refine Sr.nil ?_|refine S.seq ?_|refine S.block ?_|refine S.reg ?_|refine S.skip ?_|refine S.inBlock ?_)|(apply T.ungV;apply rfl;(first|with_reducible rfl|decide))|(apply S.condQ;apply rfl;all_goals (intro _;try (exfalso;first|omega|with_reducible contradiction)))|(apply T.gcase;apply rfl;apply rfl;all_goals (intro _;try (exfalso;first|omega|with_reducible contradiction)))|fail)
  exact ih _ _ _ _ ⟨q+1,rfl,rfl,⟨by omega,by omega,h2.trans h6⟩,rfl⟩ (by omega) (by repeat' first|exact trivial|refine And.intro rfl ?_)
 ·have h6:=Z0W hd
  rw [h6] at h2
  by_cases hq:q=p
  ·have hX:ZF t p=.bad 31 p:=by
    unfold ZF
    rw [if_pos (by omega)]
   rw [hX]
   by_cases h3:q < t.length
   ·by_cases h4:48≤(t.getD q 0).toNat
    ·have h5:¬(t.getD q 0).toNat≤57:=by omega
     repeat' (first|((first|apply T.slen|apply T.mv);apply rfl;apply rfl)|(apply T.sidx;apply rfl;apply rfl;omega;apply rfl)|((first|apply T.lss|apply T.leq|apply T.geq|apply T.eql);(iterate 3 apply rfl))|(apply T.pickT;(iterate 3 apply rfl))|(with_reducible first|refine Sr.nil ?_|refine S.seq ?_|refine S.reg ?_)|(apply S.exit;apply rfl)|(apply T.ungV;apply rfl;(first|with_reducible rfl|decide))|(apply S.condQ;apply rfl;all_goals (intro _;try (exfalso;first|omega|with_reducible contradiction)))|(apply T.gcase;apply rfl;apply rfl;all_goals (intro _;try (exfalso;first|omega|with_reducible contradiction)))|fail)
     refine T.call rfl rfl Z5 ?_
     rintro _ _ ⟨rfl,rfl⟩
     repeat' (first|(apply T.storeW;apply rfl;apply rfl;infer_instance;(first|rfl|(simp only [List.length_append,List.length_map,List.length_set,List.length_replicate,List.length_cons,List.length_nil];first|done|omega));(first|rfl|(simp only [List.length_append,List.length_map,List.length_set,List.length_replicate,List.length_cons,List.length_nil];first|done|omega));(first|rfl|(repeat' first|apply all_nV|apply all_bV|apply all_iV|rfl|apply all_app)))|with_reducible refine Sr.nil ?_|(with_reducible apply T.ofRet)|(apply T.retC;apply rfl;((repeat' first|apply RV.nil|(apply RV.tmp;apply rfl)|(apply RV.cellW;apply rfl;apply rfl;infer_instance;(first|rfl|(simp only [List.length_append,List.length_map,List.length_set,List.length_replicate,List.length_cons,List.length_nil];first|done|omega)))|(apply RV.cellP;apply rfl;apply rfl;infer_instance;apply rfl)));apply rfl)|fail)
     exact ⟨_,PSub.drop (PSub.refl _),rfl,rfl⟩
    ·repeat' (first|((first|apply T.slen|apply T.mv);apply rfl;apply rfl)|(apply T.sidx;apply rfl;apply rfl;omega;apply rfl)|((first|apply T.lss|apply T.geq|apply T.eql);(iterate 3 apply rfl))|(apply T.pickT;(iterate 3 apply rfl))|(apply T.pickF;(iterate 3 apply rfl))|(with_reducible first|refine Sr.nil ?_|refine S.seq ?_|refine S.reg ?_)|(apply S.exit;apply rfl)|(apply T.ungV;apply rfl;(first|with_reducible rfl|decide))|(apply T.skip;apply rfl;(first|with_reducible rfl|decide);apply rfl)|(apply S.condFV;apply rfl;(first|with_reducible rfl|decide))|(apply S.condQ;apply rfl;all_goals (intro _;try (exfalso;first|omega|with_reducible contradiction)))|(apply T.gcase;apply rfl;apply rfl;all_goals (intro _;try (exfalso;first|omega|with_reducible contradiction)))|fail)
     refine T.call rfl rfl Z5 ?_
     rintro _ _ ⟨rfl,rfl⟩
     repeat' (first|(apply T.storeW;apply rfl;apply rfl;infer_instance;(first|rfl|(simp only [List.length_append,List.length_map,List.length_set,List.length_replicate,List.length_cons,List.length_nil];first|done|omega));(first|rfl|(simp only [List.length_append,List.length_map,List.length_set,List.length_replicate,List.length_cons,List.length_nil];first|done|omega));(first|rfl|(repeat' first|apply all_nV|apply all_bV|apply all_iV|rfl|apply all_app)))|with_reducible refine Sr.nil ?_|(with_reducible apply T.ofRet)|(apply T.retC;apply rfl;((repeat' first|apply RV.nil|(apply RV.tmp;apply rfl)|(apply RV.cellW;apply rfl;apply rfl;infer_instance;(first|rfl|(simp only [List.length_append,List.length_map,List.length_set,List.length_replicate,List.length_cons,List.length_nil];first|done|omega)))|(apply RV.cellP;apply rfl;apply rfl;infer_instance;apply rfl)));apply rfl)|fail)
     exact ⟨_,PSub.drop (PSub.refl _),rfl,rfl⟩
   ·repeat' (first|((first|apply T.slen|apply T.mv);apply rfl;apply rfl)|((first|apply T.lss|apply T.eql);(iterate 3 apply rfl))|(apply T.pickF;(iterate 3 apply rfl))|(with_reducible first|refine Sr.nil ?_|refine S.seq ?_|refine S.reg ?_)|(apply S.exit;apply rfl)|(apply T.skip;apply rfl;(first|with_reducible rfl|decide);apply rfl)|(apply S.condFV;apply rfl;(first|with_reducible rfl|decide))|(apply S.condQ;apply rfl;all_goals (intro _;try (exfalso;first|omega|with_reducible contradiction)))|(apply T.gcase;apply rfl;apply rfl;all_goals (intro _;try (exfalso;first|omega|with_reducible contradiction)))|fail)
    refine T.call rfl rfl Z5 ?_
    rintro _ _ ⟨rfl,rfl⟩
    repeat' (first|(apply T.storeW;apply rfl;apply rfl;infer_instance;(first|rfl|(simp only [List.length_append,List.length_map,List.length_set,List.length_replicate,List.length_cons,List.length_nil];first|done|omega));(first|rfl|(simp only [List.length_append,List.length_map,List.length_set,List.length_replicate,List.length_cons,List.length_nil];first|done|omega));(first|rfl|(repeat' first|apply all_nV|apply all_bV|apply all_iV|rfl|apply all_app)))|with_reducible refine Sr.nil ?_|(with_reducible apply T.ofRet)|(apply T.retC;apply rfl;((repeat' first|apply RV.nil|(apply RV.tmp;apply rfl)|(apply RV.cellW;apply rfl;apply rfl;infer_instance;(first|rfl|(simp only [List.length_append,List.length_map,List.length_set,List.length_replicate,List.length_cons,List.length_nil];first|done|omega)))|(apply RV.cellP;apply rfl;apply rfl;infer_instance;apply rfl)));apply rfl)|fail)
    exact ⟨_,PSub.drop (PSub.refl _),rfl,rfl⟩
  ·have hX:ZF t p=.ok q ():=by
    unfold ZF
    rw [if_neg (by omega),h2]
   rw [hX]
   by_cases h3:q < t.length
   ·by_cases h4:48≤(t.getD q 0).toNat
    ·have h5:¬(t.getD q 0).toNat≤57:=by omega
     repeat' (first|((first|apply T.slen|apply T.mv);apply rfl;apply rfl)|(apply T.sidx;apply rfl;apply rfl;omega;apply rfl)|((first|apply T.lss|apply T.leq|apply T.geq|apply T.eql);(iterate 3 apply rfl))|(apply T.pickT;(iterate 3 apply rfl))|(apply T.buildL;(iterate 3 apply rfl))|(apply T.storeW;apply rfl;apply rfl;infer_instance;(first|rfl|(simp only [List.length_append,List.length_map,List.length_set,List.length_replicate,List.length_cons,List.length_nil];first|done|omega));(first|rfl|(simp only [List.length_append,List.length_map,List.length_set,List.length_replicate,List.length_cons,List.length_nil];first|done|omega));(first|rfl|(repeat' first|apply all_nV|apply all_bV|apply all_iV|rfl|apply all_app)))|(with_reducible first|refine Sr.nil ?_|refine S.seq ?_|refine S.reg ?_|refine S.skip ?_)|(apply S.exit;apply rfl)|(apply T.ungV;apply rfl;(first|with_reducible rfl|decide))|(apply S.condQ;apply rfl;all_goals (intro _;try (exfalso;first|omega|with_reducible contradiction)))|(apply T.gcase;apply rfl;apply rfl;all_goals (intro _;try (exfalso;first|omega|with_reducible contradiction)))|(apply T.retC;apply rfl;((repeat' first|apply RV.nil|(apply RV.tmp;apply rfl)|(apply RV.cellW;apply rfl;apply rfl;infer_instance;(first|rfl|(simp only [List.length_append,List.length_map,List.length_set,List.length_replicate,List.length_cons,List.length_nil];first|done|omega)))|(apply RV.cellP;apply rfl;apply rfl;infer_instance;apply rfl)));apply rfl)|fail)
     exact ⟨_,PSub.drop (PSub.refl _),rfl,rfl⟩
    ·repeat' (first|((first|apply T.slen|apply T.mv);apply rfl;apply rfl)|(apply T.sidx;apply rfl;apply rfl;omega;apply rfl)|((first|apply T.lss|apply T.geq|apply T.eql);(iterate 3 apply rfl))|(apply T.pickT;(iterate 3 apply rfl))|(apply T.pickF;(iterate 3 apply rfl))|(apply T.buildL;(iterate 3 apply rfl))|(apply T.storeW;apply rfl;apply rfl;infer_instance;(first|rfl|(simp only [List.length_append,List.length_map,List.length_set,List.length_replicate,List.length_cons,List.length_nil];first|done|omega));(first|rfl|(simp only [List.length_append,List.length_map,List.length_set,List.length_replicate,List.length_cons,List.length_nil];first|done|omega));(first|rfl|(repeat' first|apply all_nV|apply all_bV|apply all_iV|rfl|apply all_app)))|(with_reducible first|refine Sr.nil ?_|refine S.seq ?_|refine S.reg ?_|refine S.skip ?_)|(apply S.exit;apply rfl)|(apply T.ungV;apply rfl;(first|with_reducible rfl|decide))|(apply T.skip;apply rfl;(first|with_reducible rfl|decide);apply rfl)|(apply S.condFV;apply rfl;(first|with_reducible rfl|decide))|(apply S.condQ;apply rfl;all_goals (intro _;try (exfalso;first|omega|with_reducible contradiction)))|(apply T.gcase;apply rfl;apply rfl;all_goals (intro _;try (exfalso;first|omega|with_reducible contradiction)))|(apply T.retC;apply rfl;((repeat' first|apply RV.nil|(apply RV.tmp;apply rfl)|(apply RV.cellW;apply rfl;apply rfl;infer_instance;(first|rfl|(simp only [List.length_append,List.length_map,List.length_set,List.length_replicate,List.length_cons,List.length_nil];first|done|omega)))|(apply RV.cellP;apply rfl;apply rfl;infer_instance;apply rfl)));apply rfl)|fail)
     exact ⟨_,PSub.drop (PSub.refl _),rfl,rfl⟩
   ·repeat' (first|((first|apply T.slen|apply T.mv);apply rfl;apply rfl)|((first|apply T.lss|apply T.eql);(iterate 3 apply rfl))|(apply T.pickF;(iterate 3 apply rfl))|(apply T.buildL;(iterate 3 apply rfl))|(apply T.storeW;apply rfl;apply rfl;infer_instance;(first|rfl|(simp only [List.length_append,List.length_map,List.length_set,List.length_replicate,List.length_cons,List.length_nil];first|done|omega));(first|rfl|(simp only [List.length_append,List.length_map,List.length_set,List.length_replicate,List.length_cons,List.length_nil];first|done|omega));(first|rfl|(repeat' first|apply all_nV|apply all_bV|apply all_iV|rfl|apply all_app)))|(with_reducible first|refine Sr.nil ?_|refine S.seq ?_|refine S.reg ?_|refine S.skip ?_)|(apply S.exit;apply rfl)|(apply T.skip;apply rfl;(first|with_reducible rfl|decide);apply rfl)|(apply S.condFV;apply rfl;(first|with_reducible rfl|decide))|(apply S.condQ;apply rfl;all_goals (intro _;try (exfalso;first|omega|with_reducible contradiction)))|(apply T.gcase;apply rfl;apply rfl;all_goals (intro _;try (exfalso;first|omega|with_reducible contradiction)))|(apply T.retC;apply rfl;((repeat' first|apply RV.nil|(apply RV.tmp;apply rfl)|(apply RV.cellW;apply rfl;apply rfl;infer_instance;(first|rfl|(simp only [List.length_append,List.length_map,List.length_set,List.length_replicate,List.length_cons,List.length_nil];first|done|omega)))|(apply RV.cellP;apply rfl;apply rfl;infer_instance;apply rfl)));apply rfl)|fail)
    exact ⟨_,PSub.drop (PSub.refl _),rfl,rfl⟩
def hexI (n:Int):Int:=if 48≤n∧n≤57 then n - 48 else if 97≤n∧n≤102 then n - 97+10 else if 65≤n∧n≤70 then n - 65+10 else -1
theorem Z5R {n:Nat} (h:n < 256):Meets Tryz.prog 161 [.int .i64 n] F M H (fun e H'=>e=.returned (.int .i64 (hexI n))∧H'=H):=by
 refine Meets.enter Tryz.func161 rfl rfl ?_
 unfold hexI
 by_cases h1:48≤n∧n≤57
 ·obtain ⟨h2,h3⟩:=h1
  rw [if_pos (by omega)]
  repeat' (first|((first|apply T.mv|apply T.asn);apply rfl;apply rfl)|((first|apply T.leq|apply T.geq);(iterate 3 apply rfl))|(apply T.subI;apply rfl;apply rfl;omega;apply rfl)|(apply T.pickT;(iterate 3 apply rfl))|(with_reducible first|refine Sr.nil ?_|refine S.seq ?_|refine S.block ?_|refine S.reg ?_)|(apply T.ungV;apply rfl;(first|with_reducible rfl|decide))|(apply S.condQ;apply rfl;all_goals (intro _;try (exfalso;first|omega|with_reducible contradiction)))|(apply T.gcase;apply rfl;apply rfl;all_goals (intro _;try (exfalso;first|omega|with_reducible contradiction)))|(apply T.retW;apply rfl)|fail)
  exact ⟨_,PSub.refl _,rfl,rfl⟩
 rw [if_neg (by omega)]
 by_cases h2:97≤n∧n≤102
 ·obtain ⟨h3,h4⟩:=h2
  rw [if_pos (by omega)]
  repeat' (first|((first|apply T.mv|apply T.asn);apply rfl;apply rfl)|((first|apply T.leq|apply T.geq);(iterate 3 apply rfl))|((first|apply T.addI|apply T.subI);apply rfl;apply rfl;omega;apply rfl)|(apply T.pickT;(iterate 3 apply rfl))|(with_reducible first|refine Sr.nil ?_|refine S.seq ?_|refine S.block ?_|refine S.reg ?_)|(apply T.ungV;apply rfl;(first|with_reducible rfl|decide))|(apply S.condQ;apply rfl;all_goals (intro _;try (exfalso;first|omega|with_reducible contradiction)))|(apply T.gcase;apply rfl;apply rfl;all_goals (intro _;try (exfalso;first|omega|with_reducible contradiction)))|(apply T.retW;apply rfl)|fail)
  exact ⟨_,PSub.refl _,rfl,rfl⟩
 rw [if_neg (by omega)]
 by_cases h3:65≤n∧n≤70
 ·obtain ⟨h3,h4⟩:=h3
  rw [if_pos (by omega)]
  repeat' (first|((first|apply T.mv|apply T.asn);apply rfl;apply rfl)|((first|apply T.leq|apply T.geq);(iterate 3 apply rfl))|((first|apply T.addI|apply T.subI);apply rfl;apply rfl;omega;apply rfl)|(apply T.pickT;(iterate 3 apply rfl))|(apply T.pickF;(iterate 3 apply rfl))|(with_reducible first|refine Sr.nil ?_|refine S.seq ?_|refine S.block ?_|refine S.reg ?_)|(apply T.ungV;apply rfl;(first|with_reducible rfl|decide))|(apply T.skip;apply rfl;(first|with_reducible rfl|decide);apply rfl)|(apply S.condFV;apply rfl;(first|with_reducible rfl|decide))|(apply S.condQ;apply rfl;all_goals (intro _;try (exfalso;first|omega|with_reducible contradiction)))|(apply T.gcase;apply rfl;apply rfl;all_goals (intro _;try (exfalso;first|omega|with_reducible contradiction)))|(apply T.retW;apply rfl)|fail)
  exact ⟨_,PSub.refl _,rfl,rfl⟩
 rw [if_neg (by omega)]
 repeat' (first|((first|apply T.mv|apply T.asn);apply rfl;apply rfl)|((first|apply T.leq|apply T.geq);(iterate 3 apply rfl))|(apply T.pickT;(iterate 3 apply rfl))|(apply T.pickF;(iterate 3 apply rfl))|(with_reducible first|refine Sr.nil ?_|refine S.seq ?_|refine S.block ?_|refine S.reg ?_|refine S.skip ?_|refine S.inBlock ?_)|(apply T.ungV;apply rfl;(first|with_reducible rfl|decide))|(apply T.skip;apply rfl;(first|with_reducible rfl|decide);apply rfl)|(apply S.condFV;apply rfl;(first|with_reducible rfl|decide))|(apply S.condQ;apply rfl;all_goals (intro _;try (exfalso;first|omega|with_reducible contradiction)))|(apply T.gcase;apply rfl;apply rfl;all_goals (intro _;try (exfalso;first|omega|with_reducible contradiction)))|(apply T.retW;apply rfl)|fail)
 all_goals exact ⟨_,PSub.refl _,rfl,rfl⟩
theorem Z4R {n:Nat} (h:n < 256):Meets Tryz.prog 159 [.int .i64 n] F M H (fun e H'=>e=.returned (.tuple ⟨match seqB n with
  | none=>[.int .i64 (-1),.int .i64 0,.int .i64 0]
  | some (k,lo,hi)=>[.int .i64 k,.int .i64 lo,.int .i64 hi]⟩)∧H'=H):=by
 refine Meets.enter Tryz.func159 rfl rfl ?_
 unfold seqB
 by_cases h1:n < 194∨244 < n
 ·rw [if_pos h1]
  by_cases h2:n < 194
  ·repeat' (first|((first|apply T.mv|apply T.asn);apply rfl;apply rfl)|(apply T.lss;(iterate 3 apply rfl))|(apply T.pickT;(iterate 3 apply rfl))|(with_reducible first|refine Sr.nil ?_|refine S.seq ?_|refine S.block ?_|refine S.reg ?_)|(apply T.skip;apply rfl;(first|with_reducible rfl|decide);apply rfl)|(apply S.condTV;apply rfl;(first|with_reducible rfl|decide))|(apply T.gcase;apply rfl;apply rfl;all_goals (intro _;try (exfalso;first|omega|with_reducible contradiction)))|(apply T.retW;apply rfl)|fail)
   exact ⟨_,PSub.refl _,rfl,rfl⟩
  ·have h3:244 < n:=by omega
   repeat' (first|((first|apply T.mv|apply T.asn);apply rfl;apply rfl)|((first|apply T.lss|apply T.gtr);(iterate 3 apply rfl))|(apply T.pickF;(iterate 3 apply rfl))|(with_reducible first|refine Sr.nil ?_|refine S.seq ?_|refine S.block ?_|refine S.reg ?_)|(apply T.ungV;apply rfl;(first|with_reducible rfl|decide))|(apply S.condQ;apply rfl;all_goals (intro _;try (exfalso;first|omega|with_reducible contradiction)))|(apply T.gcase;apply rfl;apply rfl;all_goals (intro _;try (exfalso;first|omega|with_reducible contradiction)))|(apply T.retW;apply rfl)|fail)
   exact ⟨_,PSub.refl _,rfl,rfl⟩
 rw [if_neg h1]
 have h2:¬n < 194:=by omega
 have h3:¬244 < n:=by omega
 clear h1
 by_cases h4:n < 224
 ·rw [if_pos h4]
  repeat' (first|((first|apply T.mv|apply T.asn);apply rfl;apply rfl)|((first|apply T.lss|apply T.gtr);(iterate 3 apply rfl))|(apply T.pickF;(iterate 3 apply rfl))|(with_reducible first|refine Sr.nil ?_|refine S.seq ?_|refine S.block ?_|refine S.reg ?_)|(apply T.ungV;apply rfl;(first|with_reducible rfl|decide))|(apply S.condQ;apply rfl;all_goals (intro _;try (exfalso;first|omega|with_reducible contradiction)))|(apply T.gcase;apply rfl;apply rfl;all_goals (intro _;try (exfalso;first|omega|with_reducible contradiction)))|(apply T.retW;apply rfl)|fail)
  exact ⟨_,PSub.refl _,rfl,rfl⟩
 rw [if_neg h4]
 by_cases h5:n=224
 ·rw [if_pos h5]
  repeat' (first|((first|apply T.mv|apply T.asn);apply rfl;apply rfl)|((first|apply T.lss|apply T.gtr|apply T.eql);(iterate 3 apply rfl))|(apply T.pickF;(iterate 3 apply rfl))|(with_reducible first|refine Sr.nil ?_|refine S.seq ?_|refine S.block ?_|refine S.reg ?_)|(apply T.ungV;apply rfl;(first|with_reducible rfl|decide))|(apply S.condQ;apply rfl;all_goals (intro _;try (exfalso;first|omega|with_reducible contradiction)))|(apply T.gcase;apply rfl;apply rfl;all_goals (intro _;try (exfalso;first|omega|with_reducible contradiction)))|(apply T.retW;apply rfl)|fail)
  exact ⟨_,PSub.refl _,rfl,rfl⟩
 rw [if_neg h5]
 by_cases h6:n=237
 ·rw [if_pos h6]
  repeat' (first|((first|apply T.mv|apply T.asn);apply rfl;apply rfl)|((first|apply T.lss|apply T.gtr|apply T.eql);(iterate 3 apply rfl))|(apply T.pickF;(iterate 3 apply rfl))|(with_reducible first|refine Sr.nil ?_|refine S.seq ?_|refine S.block ?_|refine S.reg ?_)|(apply T.ungV;apply rfl;(first|with_reducible rfl|decide))|(apply S.condQ;apply rfl;all_goals (intro _;try (exfalso;first|omega|with_reducible contradiction)))|(apply T.gcase;apply rfl;apply rfl;all_goals (intro _;try (exfalso;first|omega|with_reducible contradiction)))|(apply T.retW;apply rfl)|fail)
  exact ⟨_,PSub.refl _,rfl,rfl⟩
 rw [if_neg h6]
 by_cases h7:n < 240
 ·rw [if_pos h7]
  repeat' (first|((first|apply T.mv|apply T.asn);apply rfl;apply rfl)|((first|apply T.lss|apply T.gtr|apply T.eql);(iterate 3 apply rfl))|(apply T.pickF;(iterate 3 apply rfl))|(with_reducible first|refine Sr.nil ?_|refine S.seq ?_|refine S.block ?_|refine S.reg ?_)|(apply T.ungV;apply rfl;(first|with_reducible rfl|decide))|(apply S.condQ;apply rfl;all_goals (intro _;try (exfalso;first|omega|with_reducible contradiction)))|(apply T.gcase;apply rfl;apply rfl;all_goals (intro _;try (exfalso;first|omega|with_reducible contradiction)))|(apply T.retW;apply rfl)|fail)
  exact ⟨_,PSub.refl _,rfl,rfl⟩
 rw [if_neg h7]
 by_cases h8:n=240
 ·rw [if_pos h8]
  repeat' (first|((first|apply T.mv|apply T.asn);apply rfl;apply rfl)|((first|apply T.lss|apply T.gtr|apply T.eql);(iterate 3 apply rfl))|(apply T.pickF;(iterate 3 apply rfl))|(with_reducible first|refine Sr.nil ?_|refine S.seq ?_|refine S.block ?_|refine S.reg ?_)|(apply T.ungV;apply rfl;(first|with_reducible rfl|decide))|(apply S.condQ;apply rfl;all_goals (intro _;try (exfalso;first|omega|with_reducible contradiction)))|(apply T.gcase;apply rfl;apply rfl;all_goals (intro _;try (exfalso;first|omega|with_reducible contradiction)))|(apply T.retW;apply rfl)|fail)
  exact ⟨_,PSub.refl _,rfl,rfl⟩
 rw [if_neg h8]
 by_cases h9:n=244
 ·rw [if_pos h9]
  repeat' (first|((first|apply T.mv|apply T.asn);apply rfl;apply rfl)|((first|apply T.lss|apply T.gtr|apply T.eql);(iterate 3 apply rfl))|(apply T.pickF;(iterate 3 apply rfl))|(with_reducible first|refine Sr.nil ?_|refine S.seq ?_|refine S.block ?_|refine S.reg ?_)|(apply T.ungV;apply rfl;(first|with_reducible rfl|decide))|(apply S.condQ;apply rfl;all_goals (intro _;try (exfalso;first|omega|with_reducible contradiction)))|(apply T.gcase;apply rfl;apply rfl;all_goals (intro _;try (exfalso;first|omega|with_reducible contradiction)))|(apply T.retW;apply rfl)|fail)
  exact ⟨_,PSub.refl _,rfl,rfl⟩
 rw [if_neg h9]
 repeat' (first|((first|apply T.mv|apply T.asn);apply rfl;apply rfl)|((first|apply T.lss|apply T.gtr|apply T.eql);(iterate 3 apply rfl))|(apply T.pickF;(iterate 3 apply rfl))|(with_reducible first|refine Sr.nil ?_|refine S.seq ?_|refine S.block ?_|refine S.reg ?_|refine S.skip ?_|refine S.inBlock ?_)|(apply T.ungV;apply rfl;(first|with_reducible rfl|decide))|(apply S.condQ;apply rfl;all_goals (intro _;try (exfalso;first|omega|with_reducible contradiction)))|(apply T.gcase;apply rfl;apply rfl;all_goals (intro _;try (exfalso;first|omega|with_reducible contradiction)))|(apply T.retW;apply rfl)|fail)
 exact ⟨_,PSub.refl _,rfl,rfl⟩
end
end Go.Proofs.YthomgjihagigcaaGreatDoor
/- The walks of the document's reader of JSON: bytes that belong together. -/
namespace Go.Proofs.YthomgjihagigcaaGreatDoor
open Sg Go.IntWalk
set_option maxRecDepth 100000
set_option maxHeartbeats 4000000
section
variable {F:World} {M:List Nat} {H:List Res} {t:List UInt8} {p:Nat}
theorem Z7X {c n lo hi:Nat} (h:seqB c=some (n,lo,hi)):1≤n∧n≤3∧lo≤255∧hi≤255:=by
 unfold seqB at h
 repeat' split at h
 all_goals (cases h;try omega)
theorem Z1K (hp:p < t.length) (hl:t.length≤1000000000):Meets Tryz.prog 146 [sV t,.int .i64 p] F M H (fun e H'=>e=.returned (.agg ⟨match Z0g t p (t.getD p 0) with
  | .ok a _=>goV a noL ((t.drop p).take (a - p)) 0 0
  | .bad c b=>goV 0 noL [] c b⟩)∧H'=H):=by
 refine Meets.enter Tryz.func146 rfl rfl ?_
 have hu:=(t.getD p 0).toNat_lt
 have hu':(t.getD p 0).toNat < 256:=hu
 repeat' (first|(apply T.sidx;apply rfl;apply rfl;omega;apply rfl)|(apply T.mv;apply rfl;apply rfl)|(apply T.convI64;apply rfl;omega;apply rfl)|(apply T.alloc;apply rfl;intro nb)|(with_reducible first|refine Sr.nil ?_|refine S.seq ?_|refine S.reg ?_)|fail)
 refine T.call rfl rfl (Z4R hu') ?_
 cases hs:seqB (t.getD p 0).toNat with
 | none =>
  have hX:Z0g t p (t.getD p 0)=.bad 32 p:=by unfold Z0g;rw [hs]
  rw [hX]
  rintro _ _ ⟨rfl,rfl⟩
  repeat' (first|((first|apply T.mv|apply T.asn);apply rfl;apply rfl)|((first|apply T.lss|apply T.extract);(iterate 3 apply rfl))|(with_reducible first|refine Sr.nil ?_|refine S.seq ?_|refine S.reg ?_)|(apply S.condTV;apply rfl;(first|with_reducible rfl|decide))|(with_reducible apply T.ofRet)|fail)
  refine T.call rfl rfl Z5 ?_
  rintro _ _ ⟨rfl,rfl⟩
  repeat' (first|(apply T.storeW;apply rfl;apply rfl;infer_instance;(first|rfl|(simp only [List.length_append,List.length_map,List.length_set,List.length_replicate,List.length_cons,List.length_nil];first|done|omega));(first|rfl|(simp only [List.length_append,List.length_map,List.length_set,List.length_replicate,List.length_cons,List.length_nil];first|done|omega));(first|rfl|(repeat' first|apply all_nV|apply all_bV|apply all_iV|rfl|apply all_app)))|with_reducible refine Sr.nil ?_|(with_reducible apply T.ofRet)|(apply T.retC;apply rfl;((repeat' first|apply RV.nil|(apply RV.tmp;apply rfl)|(apply RV.cellW;apply rfl;apply rfl;infer_instance;(first|rfl|(simp only [List.length_append,List.length_map,List.length_set,List.length_replicate,List.length_cons,List.length_nil];first|done|omega)))|(apply RV.cellP;apply rfl;apply rfl;infer_instance;apply rfl)));apply rfl)|fail)
  exact ⟨_,PSub.drop (PSub.refl _),rfl,rfl⟩
 | some y =>
  obtain ⟨n,lo0,hi0⟩:=y
  have hX:Z0g t p (t.getD p 0)=seqX t p n (p+1) lo0 hi0:=by unfold Z0g;rw [hs]
  obtain ⟨n1,n2,n3,n4⟩:=Z7X hs
  rw [hX]
  generalize hQ:seqX t p n (p+1) lo0 hi0=Q
  rintro _ _ ⟨rfl,rfl⟩
  repeat' (first|((first|apply T.mv|apply T.asn);apply rfl;apply rfl)|((first|apply T.lss|apply T.extract);(iterate 3 apply rfl))|(with_reducible first|refine Sr.nil ?_|refine S.seq ?_|refine S.block ?_|refine S.reg ?_|refine S.skip ?_)|(apply S.condQ;apply rfl;all_goals (intro _;try (exfalso;first|omega|with_reducible contradiction)))|(with_reducible apply T.ofRet)|fail)
  refine S.loopE 0 [0,1,4,5] (fun R b' μ H' e=>∃ i lo hi:Nat,H'=R∧e=(6,.int .i64 lo)::(7,.int .i64 hi)::(8,.int .i64 i)::b'∧(1≤i∧i≤n+1∧p+i≤t.length∧seqX t p (n+1 - i) (p+i) lo hi=Q)∧μ=n+1 - i) rfl rfl ?_ _ _ ⟨1,lo0,hi0,rfl,rfl,⟨Nat.le_refl _,by omega,by omega,hQ⟩,rfl⟩ (by repeat' first|exact trivial|refine And.intro rfl ?_)
  rintro _ _ _ ⟨i,lo,hi,rfl,rfl,⟨h1,h2,h3,h4⟩,rfl⟩ ih
  by_cases h5:i≤n
  ·obtain ⟨k,hk⟩:∃ k,n+1 - i=k+1:=⟨n - i,by omega⟩
   rw [hk,seqX] at h4
   have e1:(p:Int)+(i:Int)=((p+i:Nat):Int):=by omega
   repeat' (first|(apply T.addI;apply rfl;apply rfl;omega;apply rfl;rw [e1])|(apply T.mv;apply rfl;apply rfl)|(apply T.leq;(iterate 3 apply rfl))|(with_reducible first|refine Sr.nil ?_|refine S.seq ?_|refine S.block ?_|refine S.reg ?_|refine S.skip ?_)|(apply S.condQ;apply rfl;all_goals (intro _;try (exfalso;first|omega|with_reducible contradiction)))|fail)
   refine T.call rfl rfl Z4 ?_
   rintro _ _ ⟨rfl,rfl⟩
   by_cases h6:p+i < t.length
   ·have hc:t[p+i]?=some (t.getD (p+i) 0):=by simp [List.getD,h6]
    have hb:bAt t (p+i)=(t.getD (p+i) 0).toNat:=rfl
    rw [ZB h6]
    rw [hc] at h4
    by_cases h7:bAt t (p+i) < lo∨hi < bAt t (p+i)
    ·have h8:Q=.bad 32 p:=by rw [←h4];exact if_pos h7
     rw [h8]
     by_cases h9:bAt t (p+i) < lo
     ·repeat' (first|((first|apply T.mv|apply T.asn);apply rfl;apply rfl)|(apply T.lss;(iterate 3 apply rfl))|(apply T.pickT;(iterate 3 apply rfl))|(with_reducible first|refine Sr.nil ?_|refine S.seq ?_|refine S.reg ?_|refine S.skip ?_)|(apply T.skip;apply rfl;(first|with_reducible rfl|decide);apply rfl)|(apply S.condTV;apply rfl;(first|with_reducible rfl|decide))|(apply S.condQ;apply rfl;all_goals (intro _;try (exfalso;first|omega|with_reducible contradiction)))|(apply T.gcase;apply rfl;apply rfl;all_goals (intro _;try (exfalso;first|omega|with_reducible contradiction)))|(with_reducible apply T.ofRet)|fail)
      refine T.call rfl rfl Z5 ?_
      rintro _ _ ⟨rfl,rfl⟩
      repeat' (first|(apply T.storeW;apply rfl;apply rfl;infer_instance;(first|rfl|(simp only [List.length_append,List.length_map,List.length_set,List.length_replicate,List.length_cons,List.length_nil];first|done|omega));(first|rfl|(simp only [List.length_append,List.length_map,List.length_set,List.length_replicate,List.length_cons,List.length_nil];first|done|omega));(first|rfl|(repeat' first|apply all_nV|apply all_bV|apply all_iV|rfl|apply all_app)))|with_reducible refine Sr.nil ?_|(with_reducible apply T.ofRet)|(apply T.retC;apply rfl;((repeat' first|apply RV.nil|(apply RV.tmp;apply rfl)|(apply RV.cellW;apply rfl;apply rfl;infer_instance;(first|rfl|(simp only [List.length_append,List.length_map,List.length_set,List.length_replicate,List.length_cons,List.length_nil];first|done|omega)))|(apply RV.cellP;apply rfl;apply rfl;infer_instance;apply rfl)));apply rfl)|fail)
      exact ⟨_,PSub.drop (PSub.refl _),rfl,rfl⟩
     ·have h10:=h7.resolve_left h9
      repeat' (first|((first|apply T.mv|apply T.asn);apply rfl;apply rfl)|((first|apply T.lss|apply T.gtr);(iterate 3 apply rfl))|(apply T.pickF;(iterate 3 apply rfl))|(with_reducible first|refine Sr.nil ?_|refine S.seq ?_|refine S.reg ?_|refine S.skip ?_)|(apply T.ungV;apply rfl;(first|with_reducible rfl|decide))|(apply S.condQ;apply rfl;all_goals (intro _;try (exfalso;first|omega|with_reducible contradiction)))|(apply T.gcase;apply rfl;apply rfl;all_goals (intro _;try (exfalso;first|omega|with_reducible contradiction)))|(with_reducible apply T.ofRet)|fail)
      refine T.call rfl rfl Z5 ?_
      rintro _ _ ⟨rfl,rfl⟩
      repeat' (first|(apply T.storeW;apply rfl;apply rfl;infer_instance;(first|rfl|(simp only [List.length_append,List.length_map,List.length_set,List.length_replicate,List.length_cons,List.length_nil];first|done|omega));(first|rfl|(simp only [List.length_append,List.length_map,List.length_set,List.length_replicate,List.length_cons,List.length_nil];first|done|omega));(first|rfl|(repeat' first|apply all_nV|apply all_bV|apply all_iV|rfl|apply all_app)))|with_reducible refine Sr.nil ?_|(with_reducible apply T.ofRet)|(apply T.retC;apply rfl;((repeat' first|apply RV.nil|(apply RV.tmp;apply rfl)|(apply RV.cellW;apply rfl;apply rfl;infer_instance;(first|rfl|(simp only [List.length_append,List.length_map,List.length_set,List.length_replicate,List.length_cons,List.length_nil];first|done|omega)))|(apply RV.cellP;apply rfl;apply rfl;infer_instance;apply rfl)));apply rfl)|fail)
      exact ⟨_,PSub.drop (PSub.refl _),rfl,rfl⟩
    ·have h8:seqX t p k (p+i+1) 128 191=Q:=by rw [←h4];exact (if_neg h7).symm
     have h9:¬bAt t (p+i) < lo:=fun h=>h7 (.inl h)
     have h10:¬hi < bAt t (p+i):=fun h=>h7 (.inr h)
     repeat' (first|((first|apply T.mv|apply T.asn);apply rfl;apply rfl)|((first|apply T.lss|apply T.gtr);(iterate 3 apply rfl))|(apply T.addI;apply rfl;apply rfl;omega;apply rfl)|(apply T.pickF;(iterate 3 apply rfl))|(with_reducible first|refine Sr.nil ?_|refine S.seq ?_|refine S.reg ?_|refine S.skip ?_|refine S.inBlock ?_)|(apply T.ungV;apply rfl;(first|with_reducible rfl|decide))|(apply S.condQ;apply rfl;all_goals (intro _;try (exfalso;first|omega|with_reducible contradiction)))|(apply T.gcase;apply rfl;apply rfl;all_goals (intro _;try (exfalso;first|omega|with_reducible contradiction)))|(with_reducible apply T.ofRet)|fail)
     exact ih _ _ _ _ ⟨i+1,128,191,rfl,rfl,⟨by omega,by omega,by omega,by rw [show n+1 - (i+1)=k by omega];exact h8⟩,rfl⟩ (by omega) (by repeat' first|exact trivial|refine And.intro rfl ?_)
   ·have hc:t[p+i]?=none:=List.getElem?_eq_none (by omega)
    rw [ZX h6]
    rw [hc] at h4
    have h8:Q=.bad 31 t.length:=by rw [←h4,show t.length=p+i by omega]
    rw [h8]
    repeat' (first|((first|apply T.slen|apply T.mv|apply T.asn);apply rfl;apply rfl)|(apply T.lss;(iterate 3 apply rfl))|(with_reducible first|refine Sr.nil ?_|refine S.seq ?_|refine S.reg ?_)|(apply S.condTV;apply rfl;(first|with_reducible rfl|decide))|(with_reducible apply T.ofRet)|fail)
    refine T.call rfl rfl Z5 ?_
    rintro _ _ ⟨rfl,rfl⟩
    repeat' (first|(apply T.storeW;apply rfl;apply rfl;infer_instance;(first|rfl|(simp only [List.length_append,List.length_map,List.length_set,List.length_replicate,List.length_cons,List.length_nil];first|done|omega));(first|rfl|(simp only [List.length_append,List.length_map,List.length_set,List.length_replicate,List.length_cons,List.length_nil];first|done|omega));(first|rfl|(repeat' first|apply all_nV|apply all_bV|apply all_iV|rfl|apply all_app)))|with_reducible refine Sr.nil ?_|(with_reducible apply T.ofRet)|(apply T.retC;apply rfl;((repeat' first|apply RV.nil|(apply RV.tmp;apply rfl)|(apply RV.cellW;apply rfl;apply rfl;infer_instance;(first|rfl|(simp only [List.length_append,List.length_map,List.length_set,List.length_replicate,List.length_cons,List.length_nil];first|done|omega)))|(apply RV.cellP;apply rfl;apply rfl;infer_instance;apply rfl)));apply rfl)|fail)
    exact ⟨_,PSub.drop (PSub.refl _),rfl,rfl⟩
  ·have hi1:i=n+1:=by omega
   subst hi1
   have h8:Q=.ok (p+n+1) ():=by
    rw [←h4,show n+1 - (n+1)=0 by omega,seqX]
    rfl
   rw [h8]
   have e0:(p:Int)+(n:Int)=((p+n:Nat):Int):=by omega
   have e1:((p+n:Nat):Int)+1=((p+n+1:Nat):Int):=by omega
   have hlen:((t.drop p).take (p+n+1 - p)).length=n+1:=by rw [List.length_take,List.length_drop];omega
   repeat' (first|(apply T.addI;apply rfl;apply rfl;omega;apply rfl;first|rw [e0]|rw [e1])|(apply T.sslice;(iterate 3 apply rfl);omega;apply rfl)|(apply T.mv;apply rfl;apply rfl)|(apply T.leq;(iterate 3 apply rfl))|(apply T.buildL;(iterate 3 apply rfl))|(apply T.storeW;apply rfl;apply rfl;infer_instance;(first|rfl|(simp only [List.length_append,List.length_map,List.length_set,List.length_replicate,List.length_cons,List.length_nil];first|done|omega));(first|rfl|(simp only [List.length_append,List.length_map,List.length_set,List.length_replicate,List.length_cons,List.length_nil];first|done|omega));(first|rfl|(repeat' first|apply all_nV|apply all_bV|apply all_iV|rfl|apply all_app)))|(with_reducible first|refine Sr.nil ?_|refine S.seq ?_|refine S.reg ?_)|(apply S.exit;apply rfl)|(apply S.condQ;apply rfl;all_goals (intro _;try (exfalso;first|omega|with_reducible contradiction)))|(apply T.retC;apply rfl;((repeat' first|apply RV.nil|(apply RV.tmp;apply rfl)|(apply RV.cellW;apply rfl;apply rfl;infer_instance;(first|rfl|(simp only [List.length_append,List.length_map,List.length_set,List.length_replicate,List.length_cons,List.length_nil];first|done|omega)))|(apply RV.cellP;apply rfl;apply rfl;infer_instance;apply rfl)));apply rfl)|fail)
   exact ⟨_,PSub.drop (PSub.refl _),rfl,rfl⟩
end
end Go.Proofs.YthomgjihagigcaaGreatDoor
/- The walks of the document's reader of JSON: code points. -/
namespace Go.Proofs.YthomgjihagigcaaGreatDoor
open Sg Go.IntWalk
set_option maxRecDepth 100000
set_option maxHeartbeats 4000000
section
variable {F:World} {M:List Nat} {H:List Res} {t:List UInt8} {p:Nat}
theorem Z1w {n:Nat} (h:n < 256):(n:Int)=(((UInt8.ofNat n).toNat:Nat):Int):=by
 rw [UInt8.toNat_ofNat_of_lt' h]
theorem Z1d {u:Nat} (hu:u < 1114112):Meets Tryz.prog 158 [.int .i64 u] F M H (fun e H'=>e=.returned (sV (utfL u))∧H'=H):=by
 refine Meets.enter Tryz.func158 rfl rfl ?_
 unfold utfL
 by_cases h1:u < 128
 ·rw [if_pos h1]
  have c1:=Z1w (n:=u) (by omega)
  repeat' (first|(apply T.convU8;apply rfl;omega;apply rfl;rw [c1])|(refine T.convS (xs:=[UInt8.ofNat u]) rfl inferInstance rfl rfl ?_)|((first|apply T.mv|apply T.asn);apply rfl;apply rfl)|(apply T.lss;(iterate 3 apply rfl))|(apply T.bs;(iterate 6 apply rfl);intro nb)|(with_reducible first|refine Sr.nil ?_|refine S.seq ?_|refine S.block ?_|refine S.reg ?_)|(apply S.condQ;apply rfl;all_goals (intro _;try (exfalso;first|omega|with_reducible contradiction)))|(apply T.retW;apply rfl)|fail)
  exact ⟨_,PSub.drop (PSub.refl _),rfl,rfl⟩
 rw [if_neg h1]
 by_cases h2:u < 2048
 ·rw [if_pos h2]
  have c1:192+((u / 64:Nat):Int)=(((UInt8.ofNat (192+u / 64)).toNat:Nat):Int):=by rw [←Z1w (by omega)];omega
  have c2:128+((u % 64:Nat):Int)=(((UInt8.ofNat (128+u % 64)).toNat:Nat):Int):=by rw [←Z1w (by omega)];omega
  repeat' (first|((with_reducible apply T.quoI64 (n:=64));apply rfl;apply rfl;omega;omega;apply rfl)|((with_reducible apply T.remI64 (n:=64));apply rfl;apply rfl;omega;apply rfl)|(apply T.convU8;apply rfl;omega;apply rfl;first|rw [c1]|rw [c2])|(refine T.convS (xs:=[UInt8.ofNat (192+u / 64),UInt8.ofNat (128+u % 64)]) rfl inferInstance rfl rfl ?_)|((first|apply T.mv|apply T.asn);apply rfl;apply rfl)|(apply T.lss;(iterate 3 apply rfl))|(apply T.addI;apply rfl;apply rfl;omega;apply rfl)|(apply T.bs;(iterate 6 apply rfl);intro nb)|(with_reducible first|refine Sr.nil ?_|refine S.seq ?_|refine S.block ?_|refine S.reg ?_)|(apply S.condQ;apply rfl;all_goals (intro _;try (exfalso;first|omega|with_reducible contradiction)))|(apply T.retW;apply rfl)|fail)
  exact ⟨_,PSub.drop (PSub.refl _),rfl,rfl⟩
 rw [if_neg h2]
 by_cases h3:u < 65536
 ·rw [if_pos h3]
  have c1:224+((u / 4096:Nat):Int)=(((UInt8.ofNat (224+u / 4096)).toNat:Nat):Int):=by rw [←Z1w (by omega)];omega
  have c2:128+((u / 64 % 64:Nat):Int)=(((UInt8.ofNat (128+u / 64 % 64)).toNat:Nat):Int):=by rw [←Z1w (by omega)];omega
  have c3:128+((u % 64:Nat):Int)=(((UInt8.ofNat (128+u % 64)).toNat:Nat):Int):=by rw [←Z1w (by omega)];omega
  repeat' (first|((with_reducible apply T.quoI64 (n:=64));apply rfl;apply rfl;omega;omega;apply rfl)|((with_reducible apply T.quoI64 (n:=4096));apply rfl;apply rfl;omega;omega;apply rfl)|((with_reducible apply T.remI64 (n:=64));apply rfl;apply rfl;omega;apply rfl)|(apply T.convU8;apply rfl;omega;apply rfl;first|rw [c1]|rw [c2]|rw [c3])|(refine T.convS (xs:=[UInt8.ofNat (224+u / 4096),UInt8.ofNat (128+u / 64 % 64),UInt8.ofNat (128+u % 64)]) rfl inferInstance rfl rfl ?_)|((first|apply T.mv|apply T.asn);apply rfl;apply rfl)|(apply T.lss;(iterate 3 apply rfl))|(apply T.addI;apply rfl;apply rfl;omega;apply rfl)|(apply T.bs;(iterate 6 apply rfl);intro nb)|(with_reducible first|refine Sr.nil ?_|refine S.seq ?_|refine S.block ?_|refine S.reg ?_)|(apply S.condQ;apply rfl;all_goals (intro _;try (exfalso;first|omega|with_reducible contradiction)))|(apply T.retW;apply rfl)|fail)
  exact ⟨_,PSub.drop (PSub.refl _),rfl,rfl⟩
 rw [if_neg h3]
 have c1:240+((u / 262144:Nat):Int)=(((UInt8.ofNat (240+u / 262144)).toNat:Nat):Int):=by rw [←Z1w (by omega)];omega
 have c2:128+((u / 4096 % 64:Nat):Int)=(((UInt8.ofNat (128+u / 4096 % 64)).toNat:Nat):Int):=by rw [←Z1w (by omega)];omega
 have c3:128+((u / 64 % 64:Nat):Int)=(((UInt8.ofNat (128+u / 64 % 64)).toNat:Nat):Int):=by rw [←Z1w (by omega)];omega
 have c4:128+((u % 64:Nat):Int)=(((UInt8.ofNat (128+u % 64)).toNat:Nat):Int):=by rw [←Z1w (by omega)];omega
 repeat' (first|((with_reducible apply T.quoI64 (n:=64));apply rfl;apply rfl;omega;omega;apply rfl)|((with_reducible apply T.quoI64 (n:=4096));apply rfl;apply rfl;omega;omega;apply rfl)|((with_reducible apply T.quoI64 (n:=262144));apply rfl;apply rfl;omega;omega;apply rfl)|((with_reducible apply T.remI64 (n:=64));apply rfl;apply rfl;omega;apply rfl)|(apply T.convU8;apply rfl;omega;apply rfl;first|rw [c1]|rw [c2]|rw [c3]|rw [c4])|(refine T.convS (xs:=[UInt8.ofNat (240+u / 262144),UInt8.ofNat (128+u / 4096 % 64),UInt8.ofNat (128+u / 64 % 64),UInt8.ofNat (128+u % 64)]) rfl inferInstance rfl rfl ?_)|((first|apply T.mv|apply T.asn);apply rfl;apply rfl)|(apply T.lss;(iterate 3 apply rfl))|(apply T.addI;apply rfl;apply rfl;omega;apply rfl)|(apply T.bs;(iterate 6 apply rfl);intro nb)|(with_reducible first|refine Sr.nil ?_|refine S.seq ?_|refine S.block ?_|refine S.reg ?_|refine S.skip ?_|refine S.inBlock ?_)|(apply S.condQ;apply rfl;all_goals (intro _;try (exfalso;first|omega|with_reducible contradiction)))|(apply T.retW;apply rfl)|fail)
 exact ⟨_,PSub.drop (PSub.refl _),rfl,rfl⟩
theorem Z7M {c:UInt8}:hexI (c.toNat:Nat)=match hexN c with
  | none => -1
  | some d=>(d:Nat):=by
 have e1:∀ a b:UInt8,(a≤b)=(a.toNat≤b.toNat):=fun a b=>propext UInt8.le_iff_toNat_le
 unfold hexI hexN
 have k1:(48:UInt8).toNat=48:=rfl
 have k2:(57:UInt8).toNat=57:=rfl
 have k3:(97:UInt8).toNat=97:=rfl
 have k4:(102:UInt8).toNat=102:=rfl
 have k5:(65:UInt8).toNat=65:=rfl
 have k6:(70:UInt8).toNat=70:=rfl
 by_cases h1:48≤c.toNat∧c.toNat≤57
 ·have n1:48≤((c.toNat:Nat):Int)∧((c.toNat:Nat):Int)≤57:=by omega
  have m1:48≤c∧c≤57:=by rw [e1,e1];exact h1
  rw [if_pos n1,if_pos m1]
  simp only
  omega
 have n1:¬(48≤((c.toNat:Nat):Int)∧((c.toNat:Nat):Int)≤57):=by omega
 have m1:¬(48≤c∧c≤57):=by rw [e1,e1];exact h1
 rw [if_neg n1,if_neg m1]
 by_cases h2:97≤c.toNat∧c.toNat≤102
 ·have n2:97≤((c.toNat:Nat):Int)∧((c.toNat:Nat):Int)≤102:=by omega
  have m2:97≤c∧c≤102:=by rw [e1,e1];exact h2
  rw [if_pos n2,if_pos m2]
  simp only
  omega
 have n2:¬(97≤((c.toNat:Nat):Int)∧((c.toNat:Nat):Int)≤102):=by omega
 have m2:¬(97≤c∧c≤102):=by rw [e1,e1];exact h2
 rw [if_neg n2,if_neg m2]
 by_cases h3:65≤c.toNat∧c.toNat≤70
 ·have n3:65≤((c.toNat:Nat):Int)∧((c.toNat:Nat):Int)≤70:=by omega
  have m3:65≤c∧c≤70:=by rw [e1,e1];exact h3
  rw [if_pos n3,if_pos m3]
  simp only
  omega
 have n3:¬(65≤((c.toNat:Nat):Int)∧((c.toNat:Nat):Int)≤70):=by omega
 have m3:¬(65≤c∧c≤70):=by rw [e1,e1];exact h3
 rw [if_neg n3,if_neg m3]
end
end Go.Proofs.YthomgjihagigcaaGreatDoor
/- The walks of the document's reader of JSON: four digits. -/
namespace Go.Proofs.YthomgjihagigcaaGreatDoor
open Sg Go.IntWalk
set_option maxRecDepth 100000
set_option maxHeartbeats 4000000
section
variable {F:World} {M:List Nat} {H:List Res} {t:List UInt8} {p:Nat}
theorem Z6Y {low:Bool} {L i u d:Nat} (hL:L=if low=true then 2 else 0):Z0b low i u d=true↔(L=2∧(i=0∧d≠13∨i=1∧d < 12)∨L=0∧i=1∧u=13∧12≤d):=by
 subst hL
 cases low<;>simp [Z0b]<;>omega
theorem Z5S {c:UInt8} {d:Nat} (h:hexN c=some d):d < 16:=by
 have hh:=Z7M (c:=c)
 rw [h] at hh
 simp only at hh
 unfold hexI at hh
 split at hh
 ·omega
 ·split at hh
  ·omega
  ·split at hh<;>omega
theorem Z6M {low:Bool} {L fr i k u q:Nat} {c:UInt8} {Q:Gt Nat} (hL:L=if low=true then 2 else 0) (hk:i+k=3) (hc:t[q]?=some c) (h:Zr t low fr (k+1) q u=Q) :
  ((hexI (c.toNat:Nat) < 0∨L=2∧(i=0∧hexI (c.toNat:Nat)≠13∨i=1∧hexI (c.toNat:Nat) < 12)∨L=0∧i=1∧u=13∧12≤hexI (c.toNat:Nat))∧Q=.bad 33 fr) ∨
  (¬(hexI (c.toNat:Nat) < 0∨L=2∧(i=0∧hexI (c.toNat:Nat)≠13∨i=1∧hexI (c.toNat:Nat) < 12)∨L=0∧i=1∧u=13∧12≤hexI (c.toNat:Nat))∧∃ d:Nat,hexI (c.toNat:Nat)=(d:Nat)∧d < 16∧Zr t low fr k (q+1) (16*u+d)=Q):=by
 have hh:=Z7M (c:=c)
 rw [Zr,hc] at h
 cases hx:hexN c with
 | none =>
  rw [hx] at hh
  simp only [hx] at h hh
  exact .inl ⟨.inl (by omega),h.symm⟩
 | some d =>
  have hd:=Z5S hx
  rw [hx] at hh
  simp only [hx] at h hh
  have hi:3 - k=i:=by omega
  rw [hi] at h
  by_cases hb:Z0b low i u d=true
  ·rw [if_pos hb] at h
   have:=(Z6Y hL).1 hb
   exact .inl ⟨by omega,h.symm⟩
  ·rw [if_neg hb] at h
   have:=mt (Z6Y hL).2 hb
   exact .inr ⟨by omega,d,hh,hd,h⟩
theorem Z3Y {low:Bool} {L fr:Nat} (hL:L=if low=true then 2 else 0) (hp:p≤t.length) (hl:t.length≤1000000000):Meets Tryz.prog 157 [sV t,.int .i64 p,.int .i64 L,.int .i64 fr] F M H (fun e H'=>e=.returned (.tuple ⟨match Zr t low fr 4 p 0 with
  | .ok a v=>[.int .i64 v,.agg ⟨goV a noL [] 0 0⟩]
  | .bad c b=>[.int .i64 0,.agg ⟨goV 0 noL [] c b⟩]⟩)∧H'=H):=by
 refine Meets.enter Tryz.func157 rfl rfl ?_
 generalize hQ:Zr t low fr 4 p 0=Q
 have hL2:L=0∨L=2:=by subst hL;cases low<;>simp
 repeat' (first|(apply T.asn;apply rfl;apply rfl)|(apply T.alloc;apply rfl;intro nb)|(with_reducible first|refine Sr.nil ?_|refine S.seq ?_|refine S.block ?_|refine S.reg ?_)|fail)
 refine S.loopE 0 [0,1,2,3,9] (fun R b' μ H' e=>∃ u i:Nat,H'=R∧e=(10,.int .i64 u)::(11,.int .i64 i)::b'∧(i≤4∧p+i≤t.length∧u < 16 ^ i∧Zr t low fr (4 - i) (p+i) u=Q)∧μ=4 - i) rfl rfl ?_ _ _ ⟨0,0,rfl,rfl,⟨by omega,hp,by decide,hQ⟩,rfl⟩ (by repeat' first|exact trivial|refine And.intro rfl ?_)
 rintro _ _ _ ⟨u,i,rfl,rfl,⟨h1,h2,h3,h4⟩,rfl⟩ ih
 have h16:(16:Nat) ^ i≤16 ^ 4:=Nat.pow_le_pow_right (by decide) h1
 have hu:u < 65536:=Nat.lt_of_lt_of_le h3 h16
 by_cases h5:i < 4
 ·obtain ⟨k,hk⟩:∃ k,i+k=3:=⟨3 - i,by omega⟩
  rw [show 4 - i=k+1 by omega] at h4
  have e1:(p:Int)+(i:Int)=((p+i:Nat):Int):=by omega
  repeat' (first|(apply T.addI;apply rfl;apply rfl;omega;apply rfl;rw [e1])|(apply T.mv;apply rfl;apply rfl)|(apply T.lss;(iterate 3 apply rfl))|(with_reducible first|refine Sr.nil ?_|refine S.seq ?_|refine S.block ?_|refine S.reg ?_|refine S.skip ?_)|(apply S.condQ;apply rfl;all_goals (intro _;try (exfalso;first|omega|with_reducible contradiction)))|fail)
  refine T.call rfl rfl Z4 ?_
  rintro _ _ ⟨rfl,rfl⟩
  by_cases h6:p+i < t.length
  ·have hc:t[p+i]?=some (t.getD (p+i) 0):=by simp [List.getD,h6]
   have hb:bAt t (p+i)=(t.getD (p+i) 0).toNat:=rfl
   have hlt:=(t.getD (p+i) 0).toNat_lt
   have hlt':bAt t (p+i) < 256:=hlt
   have hstep:=Z6M (Q:=Q) hL hk hc h4
   rw [ZB h6]
   rw [←hb] at hstep
   repeat' (first|((first|apply T.mv|apply T.asn);apply rfl;apply rfl)|(apply T.lss;(iterate 3 apply rfl))|(with_reducible first|refine Sr.nil ?_|refine S.seq ?_|refine S.reg ?_|refine S.skip ?_)|(apply S.condQ;apply rfl;all_goals (intro _;try (exfalso;first|omega|with_reducible contradiction)))|(with_reducible apply T.ofRet)|fail)
   refine T.call rfl rfl (Z5R hlt') ?_
   rintro _ _ ⟨rfl,rfl⟩
   generalize hexI ((bAt t (p+i):Nat):Int)=h at hstep ⊢
   rcases hstep with ⟨hbad,h8⟩|⟨hgood,d,rfl,hd,h8⟩
   ·rw [h8]
    repeat' (first|((first|apply T.mv|apply T.asn);apply rfl;apply rfl)|((first|apply T.lss|apply T.geq|apply T.eql|apply T.neq);(iterate 3 apply rfl))|(apply T.pickT;(iterate 3 apply rfl))|(apply T.pickF;(iterate 3 apply rfl))|(with_reducible first|refine Sr.nil ?_|refine S.seq ?_|refine S.reg ?_|refine S.skip ?_)|(apply T.ungV;apply rfl;(first|with_reducible rfl|decide))|(apply T.skip;apply rfl;(first|with_reducible rfl|decide);apply rfl)|(apply T.skipU;apply rfl;apply rfl)|(apply S.condTV;apply rfl;(first|with_reducible rfl|decide))|(apply S.condFV;apply rfl;(first|with_reducible rfl|decide))|(apply S.condQ;apply rfl;all_goals (intro _;try (exfalso;first|omega|with_reducible contradiction)))|(apply T.gcase;apply rfl;apply rfl;all_goals (intro _;try (exfalso;first|omega|with_reducible contradiction)))|(with_reducible apply T.ofRet)|fail)
    all_goals
     refine T.call rfl rfl Z5 ?_
     rintro _ _ ⟨rfl,rfl⟩
     repeat' (first|(apply T.asn;apply rfl;apply rfl)|(apply T.storeW;apply rfl;apply rfl;infer_instance;(first|rfl|(simp only [List.length_append,List.length_map,List.length_set,List.length_replicate,List.length_cons,List.length_nil];first|done|omega));(first|rfl|(simp only [List.length_append,List.length_map,List.length_set,List.length_replicate,List.length_cons,List.length_nil];first|done|omega));(first|rfl|(repeat' first|apply all_nV|apply all_bV|apply all_iV|rfl|apply all_app)))|with_reducible refine Sr.nil ?_|(with_reducible apply T.ofRet)|(apply T.retC;apply rfl;((repeat' first|apply RV.nil|(apply RV.tmp;apply rfl)|(apply RV.cellW;apply rfl;apply rfl;infer_instance;(first|rfl|(simp only [List.length_append,List.length_map,List.length_set,List.length_replicate,List.length_cons,List.length_nil];first|done|omega)))|(apply RV.cellP;apply rfl;apply rfl;infer_instance;apply rfl)));apply rfl)|fail)
     exact ⟨_,PSub.drop (PSub.refl _),rfl,rfl⟩
   ·have h9:16*u+d < 16 ^ (i+1):=by
     rw [Nat.pow_succ]
     omega
    have h10:Zr t low fr (4 - (i+1)) (p+(i+1)) (16*u+d)=Q:=by
     rw [show 4 - (i+1)=k by omega]
     exact h8
    have e2:16*(u:Int)+(d:Int)=((16*u+d:Nat):Int):=by omega
    repeat' (first|(apply T.addI;apply rfl;apply rfl;omega;apply rfl;rw [e2])|((first|apply T.mv|apply T.asn);apply rfl;apply rfl)|((first|apply T.lss|apply T.geq|apply T.eql|apply T.neq);(iterate 3 apply rfl))|(apply T.addI;apply rfl;apply rfl;omega;apply rfl)|(apply T.mulI;apply rfl;apply rfl;omega;apply rfl)|(apply T.pickT;(iterate 3 apply rfl))|(apply T.pickF;(iterate 3 apply rfl))|(with_reducible first|refine Sr.nil ?_|refine S.seq ?_|refine S.reg ?_|refine S.skip ?_|refine S.inBlock ?_)|(apply T.ungV;apply rfl;(first|with_reducible rfl|decide))|(apply T.skip;apply rfl;(first|with_reducible rfl|decide);apply rfl)|(apply T.skipU;apply rfl;apply rfl)|(apply S.condFV;apply rfl;(first|with_reducible rfl|decide))|(apply S.condQ;apply rfl;all_goals (intro _;try (exfalso;first|omega|with_reducible contradiction)))|(apply T.gcase;apply rfl;apply rfl;all_goals (intro _;try (exfalso;first|omega|with_reducible contradiction)))|(with_reducible apply T.ofRet)|fail)
    all_goals exact ih _ _ _ _ ⟨16*u+d,i+1,rfl,rfl,⟨by omega,by omega,h9,h10⟩,rfl⟩ (by omega) (by repeat' first|exact trivial|refine And.intro rfl ?_)
  ·have hc:t[p+i]?=none:=List.getElem?_eq_none (by omega)
   rw [ZX h6]
   have h8:Q=.bad 31 t.length:=by rw [←h4,Zr,hc,show t.length=p+i by omega]
   rw [h8]
   repeat' (first|((first|apply T.slen|apply T.mv|apply T.asn);apply rfl;apply rfl)|(apply T.lss;(iterate 3 apply rfl))|(with_reducible first|refine Sr.nil ?_|refine S.seq ?_|refine S.reg ?_)|(apply S.condTV;apply rfl;(first|with_reducible rfl|decide))|(with_reducible apply T.ofRet)|fail)
   refine T.call rfl rfl Z5 ?_
   rintro _ _ ⟨rfl,rfl⟩
   repeat' (first|(apply T.asn;apply rfl;apply rfl)|(apply T.storeW;apply rfl;apply rfl;infer_instance;(first|rfl|(simp only [List.length_append,List.length_map,List.length_set,List.length_replicate,List.length_cons,List.length_nil];first|done|omega));(first|rfl|(simp only [List.length_append,List.length_map,List.length_set,List.length_replicate,List.length_cons,List.length_nil];first|done|omega));(first|rfl|(repeat' first|apply all_nV|apply all_bV|apply all_iV|rfl|apply all_app)))|with_reducible refine Sr.nil ?_|(with_reducible apply T.ofRet)|(apply T.retC;apply rfl;((repeat' first|apply RV.nil|(apply RV.tmp;apply rfl)|(apply RV.cellW;apply rfl;apply rfl;infer_instance;(first|rfl|(simp only [List.length_append,List.length_map,List.length_set,List.length_replicate,List.length_cons,List.length_nil];first|done|omega)))|(apply RV.cellP;apply rfl;apply rfl;infer_instance;apply rfl)));apply rfl)|fail)
   exact ⟨_,PSub.drop (PSub.refl _),rfl,rfl⟩
 ·obtain rfl:i=4:=by omega
  have h8:Q=.ok (p+4) u:=by rw [←h4];rfl
  rw [h8]
  repeat' (first|((first|apply T.mv|apply T.asn);apply rfl;apply rfl)|(apply T.lss;(iterate 3 apply rfl))|(apply T.addI;apply rfl;apply rfl;omega;apply rfl)|(apply T.buildL;(iterate 3 apply rfl))|(apply T.storeW;apply rfl;apply rfl;infer_instance;(first|rfl|(simp only [List.length_append,List.length_map,List.length_set,List.length_replicate,List.length_cons,List.length_nil];first|done|omega));(first|rfl|(simp only [List.length_append,List.length_map,List.length_set,List.length_replicate,List.length_cons,List.length_nil];first|done|omega));(first|rfl|(repeat' first|apply all_nV|apply all_bV|apply all_iV|rfl|apply all_app)))|(with_reducible first|refine Sr.nil ?_|refine S.seq ?_|refine S.reg ?_)|(apply S.exit;apply rfl)|(apply S.condFV;apply rfl;(first|with_reducible rfl|decide))|(apply T.retC;apply rfl;((repeat' first|apply RV.nil|(apply RV.tmp;apply rfl)|(apply RV.cellW;apply rfl;apply rfl;infer_instance;(first|rfl|(simp only [List.length_append,List.length_map,List.length_set,List.length_replicate,List.length_cons,List.length_nil];first|done|omega)))|(apply RV.cellP;apply rfl;apply rfl;infer_instance;apply rfl)));apply rfl)|fail)
  exact ⟨_,PSub.drop (PSub.refl _),rfl,rfl⟩
end
end Go.Proofs.YthomgjihagigcaaGreatDoor
/- The walks of the document's reader of JSON: what stands behind a backslash. -/
namespace Go.Proofs.YthomgjihagigcaaGreatDoor
open Sg Go.IntWalk
set_option maxRecDepth 100000
set_option maxHeartbeats 4000000
def GoE:Gt (List UInt8)→Ending→Prop
 | .ok a s=>fun e=>e=.returned (.agg ⟨goV a noL s 0 0⟩)
 | .bad c b=>fun e=>∃ s,e=.returned (.agg ⟨goV 0 noL s c b⟩)
section
variable {F:World} {M:List Nat} {H:List Res} {t:List UInt8} {p:Nat}
theorem Z0U {low:Bool} {fr:Nat}:∀ {k q u:Nat} {c:Int} {b:Nat},Zr t low fr k q u=.bad c b→c≠0
 | 0,q,u,c,b,h=>by rw [Zr] at h;cases h
 | k+1,q,u,c,b,h=>by
  rw [Zr] at h
  split at h
  ·cases h;decide
  ·split at h
   ·cases h;decide
   ·split at h
    ·cases h;decide
    ·exact Z0U h
theorem Z43 (hp:p < t.length) (hl:t.length≤1000000000) (h117:¬bAt t (p+1)=117):Meets Tryz.prog 145 [sV t,.int .i64 p] F M H (fun e H'=>GoE ((escX t p).bind fun a u=>.ok a (utfL u)) e∧H'=H):=by
 refine Meets.enter Tryz.func145 rfl rfl ?_
 have e1:(p:Int)+1=((p+1:Nat):Int):=by omega
 repeat' (first|(apply T.addI;apply rfl;apply rfl;omega;apply rfl;rw [e1])|(apply T.mv;apply rfl;apply rfl)|(apply T.alloc;apply rfl;intro nb)|(with_reducible first|refine Sr.nil ?_|refine S.seq ?_|refine S.reg ?_)|fail)
 refine T.call rfl rfl Z4 ?_
 rintro _ _ ⟨rfl,rfl⟩
 by_cases h6:p+1 < t.length
 ·have hlt:=Z14 t (p+1)
  rw [ZB h6,Z4K h6,if_neg h117]
  generalize bAt t (p+1)=b at h117 hlt ⊢
  by_cases h34:b=34
  ·have hX:escN b=some b:=by subst h34;rfl
   have hU:utfL b=[UInt8.ofNat b]:=by unfold utfL;rw [if_pos (by omega)]
   simp only [hX,Gt.bind,hU]
   have c1:=Z1w (n:=b) (by omega)
   repeat' (first|(apply T.convU8;apply rfl;omega;apply rfl;rw [c1])|(refine T.convS (xs:=[UInt8.ofNat b]) rfl inferInstance rfl rfl ?_)|((first|apply T.mv|apply T.asn);apply rfl;apply rfl)|((first|apply T.lss|apply T.eql);(iterate 3 apply rfl))|(apply T.addI;apply rfl;apply rfl;omega;apply rfl)|(apply T.buildL;(iterate 3 apply rfl))|(apply T.storeW;apply rfl;apply rfl;infer_instance;(first|rfl|(simp only [List.length_append,List.length_map,List.length_set,List.length_replicate,List.length_cons,List.length_nil];first|done|omega));(first|rfl|(simp only [List.length_append,List.length_map,List.length_set,List.length_replicate,List.length_cons,List.length_nil];first|done|omega));(first|rfl|(repeat' first|apply all_nV|apply all_bV|apply all_iV|rfl|apply all_app)))|(apply T.bs;(iterate 6 apply rfl);intro nb)|(with_reducible first|refine Sr.nil ?_|refine S.seq ?_|refine S.block ?_|refine S.reg ?_|refine S.skip ?_|refine S.inBlock ?_)|(apply S.condQ;apply rfl;all_goals (intro _;try (exfalso;first|omega|with_reducible contradiction)))|(with_reducible apply T.ofRet)|(apply T.retC;apply rfl;((repeat' first|apply RV.nil|(apply RV.tmp;apply rfl)|(apply RV.cellW;apply rfl;apply rfl;infer_instance;(first|rfl|(simp only [List.length_append,List.length_map,List.length_set,List.length_replicate,List.length_cons,List.length_nil];first|done|omega)))|(apply RV.cellP;apply rfl;apply rfl;infer_instance;apply rfl)));apply rfl)|fail)
   exact ⟨_,PSub.drop (PSub.drop (PSub.refl _)),rfl,rfl⟩
  by_cases h92:b=92
  ·have hX:escN b=some b:=by subst h92;rfl
   have hU:utfL b=[UInt8.ofNat b]:=by unfold utfL;rw [if_pos (by omega)]
   simp only [hX,Gt.bind,hU]
   have c1:=Z1w (n:=b) (by omega)
   repeat' (first|(apply T.convU8;apply rfl;omega;apply rfl;rw [c1])|(refine T.convS (xs:=[UInt8.ofNat b]) rfl inferInstance rfl rfl ?_)|((first|apply T.mv|apply T.asn);apply rfl;apply rfl)|((first|apply T.lss|apply T.eql);(iterate 3 apply rfl))|(apply T.addI;apply rfl;apply rfl;omega;apply rfl)|(apply T.buildL;(iterate 3 apply rfl))|(apply T.storeW;apply rfl;apply rfl;infer_instance;(first|rfl|(simp only [List.length_append,List.length_map,List.length_set,List.length_replicate,List.length_cons,List.length_nil];first|done|omega));(first|rfl|(simp only [List.length_append,List.length_map,List.length_set,List.length_replicate,List.length_cons,List.length_nil];first|done|omega));(first|rfl|(repeat' first|apply all_nV|apply all_bV|apply all_iV|rfl|apply all_app)))|(apply T.bs;(iterate 6 apply rfl);intro nb)|(with_reducible first|refine Sr.nil ?_|refine S.seq ?_|refine S.block ?_|refine S.reg ?_|refine S.skip ?_|refine S.inBlock ?_)|(apply S.condQ;apply rfl;all_goals (intro _;try (exfalso;first|omega|with_reducible contradiction)))|(with_reducible apply T.ofRet)|(apply T.retC;apply rfl;((repeat' first|apply RV.nil|(apply RV.tmp;apply rfl)|(apply RV.cellW;apply rfl;apply rfl;infer_instance;(first|rfl|(simp only [List.length_append,List.length_map,List.length_set,List.length_replicate,List.length_cons,List.length_nil];first|done|omega)))|(apply RV.cellP;apply rfl;apply rfl;infer_instance;apply rfl)));apply rfl)|fail)
   exact ⟨_,PSub.drop (PSub.drop (PSub.refl _)),rfl,rfl⟩
  by_cases h47:b=47
  ·have hX:escN b=some b:=by subst h47;rfl
   have hU:utfL b=[UInt8.ofNat b]:=by unfold utfL;rw [if_pos (by omega)]
   simp only [hX,Gt.bind,hU]
   have c1:=Z1w (n:=b) (by omega)
   repeat' (first|(apply T.convU8;apply rfl;omega;apply rfl;rw [c1])|(refine T.convS (xs:=[UInt8.ofNat b]) rfl inferInstance rfl rfl ?_)|((first|apply T.mv|apply T.asn);apply rfl;apply rfl)|((first|apply T.lss|apply T.eql);(iterate 3 apply rfl))|(apply T.addI;apply rfl;apply rfl;omega;apply rfl)|(apply T.buildL;(iterate 3 apply rfl))|(apply T.storeW;apply rfl;apply rfl;infer_instance;(first|rfl|(simp only [List.length_append,List.length_map,List.length_set,List.length_replicate,List.length_cons,List.length_nil];first|done|omega));(first|rfl|(simp only [List.length_append,List.length_map,List.length_set,List.length_replicate,List.length_cons,List.length_nil];first|done|omega));(first|rfl|(repeat' first|apply all_nV|apply all_bV|apply all_iV|rfl|apply all_app)))|(apply T.bs;(iterate 6 apply rfl);intro nb)|(with_reducible first|refine Sr.nil ?_|refine S.seq ?_|refine S.block ?_|refine S.reg ?_|refine S.skip ?_|refine S.inBlock ?_)|(apply S.condQ;apply rfl;all_goals (intro _;try (exfalso;first|omega|with_reducible contradiction)))|(with_reducible apply T.ofRet)|(apply T.retC;apply rfl;((repeat' first|apply RV.nil|(apply RV.tmp;apply rfl)|(apply RV.cellW;apply rfl;apply rfl;infer_instance;(first|rfl|(simp only [List.length_append,List.length_map,List.length_set,List.length_replicate,List.length_cons,List.length_nil];first|done|omega)))|(apply RV.cellP;apply rfl;apply rfl;infer_instance;apply rfl)));apply rfl)|fail)
   exact ⟨_,PSub.drop (PSub.drop (PSub.refl _)),rfl,rfl⟩
  by_cases h98:b=98
  ·have hX:escN b=some 8:=by subst h98;rfl
   have hU:utfL 8=[UInt8.ofNat 8]:=rfl
   simp only [hX,Gt.bind,hU]
   have c1:(8:Int)=(((UInt8.ofNat 8).toNat:Nat):Int):=rfl
   repeat' (first|(apply T.convU8;apply rfl;omega;apply rfl;rw [c1])|(refine T.convS (xs:=[UInt8.ofNat 8]) rfl inferInstance rfl rfl ?_)|((first|apply T.mv|apply T.asn);apply rfl;apply rfl)|((first|apply T.lss|apply T.eql);(iterate 3 apply rfl))|(apply T.addI;apply rfl;apply rfl;omega;apply rfl)|(apply T.buildL;(iterate 3 apply rfl))|(apply T.storeW;apply rfl;apply rfl;infer_instance;(first|rfl|(simp only [List.length_append,List.length_map,List.length_set,List.length_replicate,List.length_cons,List.length_nil];first|done|omega));(first|rfl|(simp only [List.length_append,List.length_map,List.length_set,List.length_replicate,List.length_cons,List.length_nil];first|done|omega));(first|rfl|(repeat' first|apply all_nV|apply all_bV|apply all_iV|rfl|apply all_app)))|(apply T.bs;(iterate 6 apply rfl);intro nb)|(with_reducible first|refine Sr.nil ?_|refine S.seq ?_|refine S.block ?_|refine S.reg ?_|refine S.skip ?_|refine S.inBlock ?_)|(apply S.condFV;apply rfl;(first|with_reducible rfl|decide))|(apply S.condQ;apply rfl;all_goals (intro _;try (exfalso;first|omega|with_reducible contradiction)))|(with_reducible apply T.ofRet)|(apply T.retC;apply rfl;((repeat' first|apply RV.nil|(apply RV.tmp;apply rfl)|(apply RV.cellW;apply rfl;apply rfl;infer_instance;(first|rfl|(simp only [List.length_append,List.length_map,List.length_set,List.length_replicate,List.length_cons,List.length_nil];first|done|omega)))|(apply RV.cellP;apply rfl;apply rfl;infer_instance;apply rfl)));apply rfl)|fail)
   exact ⟨_,PSub.drop (PSub.drop (PSub.refl _)),rfl,rfl⟩
  by_cases h102:b=102
  ·have hX:escN b=some 12:=by subst h102;rfl
   have hU:utfL 12=[UInt8.ofNat 12]:=rfl
   simp only [hX,Gt.bind,hU]
   have c1:(12:Int)=(((UInt8.ofNat 12).toNat:Nat):Int):=rfl
   repeat' (first|(apply T.convU8;apply rfl;omega;apply rfl;rw [c1])|(refine T.convS (xs:=[UInt8.ofNat 12]) rfl inferInstance rfl rfl ?_)|((first|apply T.mv|apply T.asn);apply rfl;apply rfl)|((first|apply T.lss|apply T.eql);(iterate 3 apply rfl))|(apply T.addI;apply rfl;apply rfl;omega;apply rfl)|(apply T.buildL;(iterate 3 apply rfl))|(apply T.storeW;apply rfl;apply rfl;infer_instance;(first|rfl|(simp only [List.length_append,List.length_map,List.length_set,List.length_replicate,List.length_cons,List.length_nil];first|done|omega));(first|rfl|(simp only [List.length_append,List.length_map,List.length_set,List.length_replicate,List.length_cons,List.length_nil];first|done|omega));(first|rfl|(repeat' first|apply all_nV|apply all_bV|apply all_iV|rfl|apply all_app)))|(apply T.bs;(iterate 6 apply rfl);intro nb)|(with_reducible first|refine Sr.nil ?_|refine S.seq ?_|refine S.block ?_|refine S.reg ?_|refine S.skip ?_|refine S.inBlock ?_)|(apply S.condFV;apply rfl;(first|with_reducible rfl|decide))|(apply S.condQ;apply rfl;all_goals (intro _;try (exfalso;first|omega|with_reducible contradiction)))|(with_reducible apply T.ofRet)|(apply T.retC;apply rfl;((repeat' first|apply RV.nil|(apply RV.tmp;apply rfl)|(apply RV.cellW;apply rfl;apply rfl;infer_instance;(first|rfl|(simp only [List.length_append,List.length_map,List.length_set,List.length_replicate,List.length_cons,List.length_nil];first|done|omega)))|(apply RV.cellP;apply rfl;apply rfl;infer_instance;apply rfl)));apply rfl)|fail)
   exact ⟨_,PSub.drop (PSub.drop (PSub.refl _)),rfl,rfl⟩
  by_cases h110:b=110
  ·have hX:escN b=some 10:=by subst h110;rfl
   have hU:utfL 10=[UInt8.ofNat 10]:=rfl
   simp only [hX,Gt.bind,hU]
   have c1:(10:Int)=(((UInt8.ofNat 10).toNat:Nat):Int):=rfl
   repeat' (first|(apply T.convU8;apply rfl;omega;apply rfl;rw [c1])|(refine T.convS (xs:=[UInt8.ofNat 10]) rfl inferInstance rfl rfl ?_)|((first|apply T.mv|apply T.asn);apply rfl;apply rfl)|((first|apply T.lss|apply T.eql);(iterate 3 apply rfl))|(apply T.addI;apply rfl;apply rfl;omega;apply rfl)|(apply T.buildL;(iterate 3 apply rfl))|(apply T.storeW;apply rfl;apply rfl;infer_instance;(first|rfl|(simp only [List.length_append,List.length_map,List.length_set,List.length_replicate,List.length_cons,List.length_nil];first|done|omega));(first|rfl|(simp only [List.length_append,List.length_map,List.length_set,List.length_replicate,List.length_cons,List.length_nil];first|done|omega));(first|rfl|(repeat' first|apply all_nV|apply all_bV|apply all_iV|rfl|apply all_app)))|(apply T.bs;(iterate 6 apply rfl);intro nb)|(with_reducible first|refine Sr.nil ?_|refine S.seq ?_|refine S.block ?_|refine S.reg ?_|refine S.skip ?_|refine S.inBlock ?_)|(apply S.condFV;apply rfl;(first|with_reducible rfl|decide))|(apply S.condQ;apply rfl;all_goals (intro _;try (exfalso;first|omega|with_reducible contradiction)))|(with_reducible apply T.ofRet)|(apply T.retC;apply rfl;((repeat' first|apply RV.nil|(apply RV.tmp;apply rfl)|(apply RV.cellW;apply rfl;apply rfl;infer_instance;(first|rfl|(simp only [List.length_append,List.length_map,List.length_set,List.length_replicate,List.length_cons,List.length_nil];first|done|omega)))|(apply RV.cellP;apply rfl;apply rfl;infer_instance;apply rfl)));apply rfl)|fail)
   exact ⟨_,PSub.drop (PSub.drop (PSub.refl _)),rfl,rfl⟩
  by_cases h114:b=114
  ·have hX:escN b=some 13:=by subst h114;rfl
   have hU:utfL 13=[UInt8.ofNat 13]:=rfl
   simp only [hX,Gt.bind,hU]
   have c1:(13:Int)=(((UInt8.ofNat 13).toNat:Nat):Int):=rfl
   repeat' (first|(apply T.convU8;apply rfl;omega;apply rfl;rw [c1])|(refine T.convS (xs:=[UInt8.ofNat 13]) rfl inferInstance rfl rfl ?_)|((first|apply T.mv|apply T.asn);apply rfl;apply rfl)|((first|apply T.lss|apply T.eql);(iterate 3 apply rfl))|(apply T.addI;apply rfl;apply rfl;omega;apply rfl)|(apply T.buildL;(iterate 3 apply rfl))|(apply T.storeW;apply rfl;apply rfl;infer_instance;(first|rfl|(simp only [List.length_append,List.length_map,List.length_set,List.length_replicate,List.length_cons,List.length_nil];first|done|omega));(first|rfl|(simp only [List.length_append,List.length_map,List.length_set,List.length_replicate,List.length_cons,List.length_nil];first|done|omega));(first|rfl|(repeat' first|apply all_nV|apply all_bV|apply all_iV|rfl|apply all_app)))|(apply T.bs;(iterate 6 apply rfl);intro nb)|(with_reducible first|refine Sr.nil ?_|refine S.seq ?_|refine S.block ?_|refine S.reg ?_|refine S.skip ?_|refine S.inBlock ?_)|(apply S.condFV;apply rfl;(first|with_reducible rfl|decide))|(apply S.condQ;apply rfl;all_goals (intro _;try (exfalso;first|omega|with_reducible contradiction)))|(with_reducible apply T.ofRet)|(apply T.retC;apply rfl;((repeat' first|apply RV.nil|(apply RV.tmp;apply rfl)|(apply RV.cellW;apply rfl;apply rfl;infer_instance;(first|rfl|(simp only [List.length_append,List.length_map,List.length_set,List.length_replicate,List.length_cons,List.length_nil];first|done|omega)))|(apply RV.cellP;apply rfl;apply rfl;infer_instance;apply rfl)));apply rfl)|fail)
   exact ⟨_,PSub.drop (PSub.drop (PSub.refl _)),rfl,rfl⟩
  by_cases h116:b=116
  ·have hX:escN b=some 9:=by subst h116;rfl
   have hU:utfL 9=[UInt8.ofNat 9]:=rfl
   simp only [hX,Gt.bind,hU]
   have c1:(9:Int)=(((UInt8.ofNat 9).toNat:Nat):Int):=rfl
   repeat' (first|(apply T.convU8;apply rfl;omega;apply rfl;rw [c1])|(refine T.convS (xs:=[UInt8.ofNat 9]) rfl inferInstance rfl rfl ?_)|((first|apply T.mv|apply T.asn);apply rfl;apply rfl)|((first|apply T.lss|apply T.eql);(iterate 3 apply rfl))|(apply T.addI;apply rfl;apply rfl;omega;apply rfl)|(apply T.buildL;(iterate 3 apply rfl))|(apply T.storeW;apply rfl;apply rfl;infer_instance;(first|rfl|(simp only [List.length_append,List.length_map,List.length_set,List.length_replicate,List.length_cons,List.length_nil];first|done|omega));(first|rfl|(simp only [List.length_append,List.length_map,List.length_set,List.length_replicate,List.length_cons,List.length_nil];first|done|omega));(first|rfl|(repeat' first|apply all_nV|apply all_bV|apply all_iV|rfl|apply all_app)))|(apply T.bs;(iterate 6 apply rfl);intro nb)|(with_reducible first|refine Sr.nil ?_|refine S.seq ?_|refine S.block ?_|refine S.reg ?_|refine S.skip ?_|refine S.inBlock ?_)|(apply S.condFV;apply rfl;(first|with_reducible rfl|decide))|(apply S.condQ;apply rfl;all_goals (intro _;try (exfalso;first|omega|with_reducible contradiction)))|(with_reducible apply T.ofRet)|(apply T.retC;apply rfl;((repeat' first|apply RV.nil|(apply RV.tmp;apply rfl)|(apply RV.cellW;apply rfl;apply rfl;infer_instance;(first|rfl|(simp only [List.length_append,List.length_map,List.length_set,List.length_replicate,List.length_cons,List.length_nil];first|done|omega)))|(apply RV.cellP;apply rfl;apply rfl;infer_instance;apply rfl)));apply rfl)|fail)
   exact ⟨_,PSub.drop (PSub.drop (PSub.refl _)),rfl,rfl⟩
  have hX:escN b=none:=by
   unfold escN
   simp only [h34,h92,h47,h98,h102,h110,h114,h116,if_false]
  simp only [hX,Gt.bind]
  repeat' (first|((first|apply T.mv|apply T.asn);apply rfl;apply rfl)|((first|apply T.lss|apply T.eql);(iterate 3 apply rfl))|(with_reducible first|refine Sr.nil ?_|refine S.seq ?_|refine S.block ?_|refine S.reg ?_|refine S.skip ?_|refine S.inBlock ?_)|(apply S.condTV;apply rfl;(first|with_reducible rfl|decide))|(apply S.condQ;apply rfl;all_goals (intro _;try (exfalso;first|omega|with_reducible contradiction)))|(with_reducible apply T.ofRet)|fail)
  refine T.call rfl rfl Z5 ?_
  rintro _ _ ⟨rfl,rfl⟩
  repeat' (first|(apply T.storeW;apply rfl;apply rfl;infer_instance;(first|rfl|(simp only [List.length_append,List.length_map,List.length_set,List.length_replicate,List.length_cons,List.length_nil];first|done|omega));(first|rfl|(simp only [List.length_append,List.length_map,List.length_set,List.length_replicate,List.length_cons,List.length_nil];first|done|omega));(first|rfl|(repeat' first|apply all_nV|apply all_bV|apply all_iV|rfl|apply all_app)))|with_reducible refine Sr.nil ?_|(with_reducible apply T.ofRet)|(apply T.retC;apply rfl;((repeat' first|apply RV.nil|(apply RV.tmp;apply rfl)|(apply RV.cellW;apply rfl;apply rfl;infer_instance;(first|rfl|(simp only [List.length_append,List.length_map,List.length_set,List.length_replicate,List.length_cons,List.length_nil];first|done|omega)))|(apply RV.cellP;apply rfl;apply rfl;infer_instance;apply rfl)));apply rfl)|fail)
  exact ⟨_,PSub.drop (PSub.refl _),⟨[],rfl⟩,rfl⟩
 ·rw [ZX h6,Z5l h6]
  have hn:t.length=p+1:=by omega
  repeat' (first|((first|apply T.slen|apply T.mv|apply T.asn);apply rfl;apply rfl)|(apply T.eql;(iterate 3 apply rfl))|(with_reducible first|refine Sr.nil ?_|refine S.seq ?_|refine S.block ?_|refine S.reg ?_)|(apply S.condTV;apply rfl;(first|with_reducible rfl|decide))|(with_reducible apply T.ofRet)|fail)
  refine T.call rfl rfl Z5 ?_
  rintro _ _ ⟨rfl,rfl⟩
  rw [hn]
  repeat' (first|(apply T.storeW;apply rfl;apply rfl;infer_instance;(first|rfl|(simp only [List.length_append,List.length_map,List.length_set,List.length_replicate,List.length_cons,List.length_nil];first|done|omega));(first|rfl|(simp only [List.length_append,List.length_map,List.length_set,List.length_replicate,List.length_cons,List.length_nil];first|done|omega));(first|rfl|(repeat' first|apply all_nV|apply all_bV|apply all_iV|rfl|apply all_app)))|with_reducible refine Sr.nil ?_|(with_reducible apply T.ofRet)|(apply T.retC;apply rfl;((repeat' first|apply RV.nil|(apply RV.tmp;apply rfl)|(apply RV.cellW;apply rfl;apply rfl;infer_instance;(first|rfl|(simp only [List.length_append,List.length_map,List.length_set,List.length_replicate,List.length_cons,List.length_nil];first|done|omega)))|(apply RV.cellP;apply rfl;apply rfl;infer_instance;apply rfl)));apply rfl)|fail)
  exact ⟨_,PSub.drop (PSub.refl _),⟨[],rfl⟩,rfl⟩
end
end Go.Proofs.YthomgjihagigcaaGreatDoor
