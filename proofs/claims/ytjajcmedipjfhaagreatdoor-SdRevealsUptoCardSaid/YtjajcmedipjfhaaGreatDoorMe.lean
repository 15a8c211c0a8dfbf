/- Texts put together by a program: DecB DecC JsnG Row JsnH JsnI. -/
import Derived.Test.YtjajcmedipjfhaaGreatDoorMd
import Derived.Test.YtjajcmedipjfhaaGreatDoorMore
/- The walks of the program's numbers: read. -/
namespace Go.Proofs.YtjajcmedipjfhaaGreatDoor
open Sg Go.IntWalk
set_option maxRecDepth 100000
set_option maxHeartbeats 4000000
section
variable {F:World} {M:List Nat} {H:List Res}
abbrev numV (mi:Bool) (w d:List UInt8) (pt:Int) (pl dn:Bool) (ex:List UInt8):List Value:=[.bool mi,sV w,sV d,.int .i64 pt,.bool pl,.bool dn,sV ex]
theorem Z3S {s:List UInt8} (h:s.length=0):s=[]:=List.length_eq_zero_iff.1 h
theorem ZbO {s:List UInt8} (h:s.getD 0 0|||32=101):expP s=if Z2y (s.drop 1)=[]∨runD (Z2y (s.drop 1))≠(Z2y (s.drop 1)).length then none else some ([],false):=by
 cases s with
 | nil=>exact absurd h (by decide)
 | cons x r =>
  have h1:=(Z8c x).1 h
  unfold expP
  simp only [h1,if_true]
  rfl
theorem Zd4 {s:List UInt8} (h:¬s.getD 0 0|||32=101):expP s=some (s,true):=by
 cases s with
 | nil=>rfl
 | cons x r =>
  have h1:¬(x=101∨x=69):=fun h2=>h ((Z8c x).2 h2)
  unfold expP
  simp only [h1,if_false]
theorem Z9M {s:List UInt8} (h:(s.getD 0 0).toNat=43∨(s.getD 0 0).toNat=45):Z2y s=s.drop 1:=by
 cases s with
 | nil=>rfl
 | cons x r =>
  have h1:x=43∨x=45:=h.imp (fun h=>UInt8.toNat_inj.1 h) (fun h=>UInt8.toNat_inj.1 h)
  unfold Z2y
  simp only [h1,if_true]
  rfl
theorem Zbi {s:List UInt8} (h:¬((s.getD 0 0).toNat=43∨(s.getD 0 0).toNat=45)):Z2y s=s:=by
 cases s with
 | nil=>rfl
 | cons x r =>
  have h1:¬(x=43∨x=45):=fun h2=>h (h2.imp (fun h=>by rw [List.getD_cons_zero,h];rfl) (fun h=>by rw [List.getD_cons_zero,h];rfl))
  unfold Z2y
  simp only [h1,if_false]
theorem _root_.Sg.Y6 {P R:Prop} (k:R) (h:Sg.Kp R→P:=by intro k;(first|(apply T.convBU64;apply rfl;apply rfl)|(apply T.addNN;apply rfl;apply rfl;omega;apply rfl)|(apply T.ssliceH;apply rfl;apply rfl;omega;apply rfl)|(apply T.sslice;(iterate 3 apply rfl);omega;apply rfl)|(apply T.ssliceL;apply rfl;apply rfl;omega;apply rfl)|(apply T.mapLook;apply rfl;apply rfl;infer_instance;(first|assumption|(simp only [maxLen];omega)|omega);apply rfl)|(apply T.sidx;apply rfl;apply rfl;omega;apply rfl)|(apply T.convS;apply rfl;infer_instance;(first|rfl|assumption|exact beN_len _ _|(simp;done)|(simp;omega));apply rfl)|(apply T.neqP;apply rfl;apply rfl)|(apply T.neqP0;apply rfl;apply rfl)|(apply T.mv;apply rfl;apply rfl)|(apply T.asn;apply rfl;apply rfl)|(apply T.len;apply rfl;apply rfl)|(apply T.nilCheck;apply rfl;apply rfl)|(apply T.fieldAddrZ;apply rfl;apply rfl)|(apply T.load;apply rfl;apply rfl;infer_instance;apply rfl;apply rfl)|(apply T.lss;(iterate 3 apply rfl))|(apply T.eql;(iterate 3 apply rfl))|(apply T.addI;apply rfl;apply rfl;omega;apply rfl)|(apply T.subI;apply rfl;apply rfl;omega;apply rfl)|(apply T.extract;(iterate 3 apply rfl))|(apply T.ixF;apply rfl;apply rfl;infer_instance;exact (fun _=>rfl);apply rfl;omega;omega;apply rfl)|(apply T.fieldAddrF;apply rfl;infer_instance;exact (fun _=>rfl);apply rfl;omega;apply rfl)|(apply T.loadF;apply rfl;apply rfl;infer_instance;exact (fun _=>rfl);apply rfl;exact Zb (by omega);apply rfl;apply rfl)|(apply T.notB;apply rfl;apply rfl)|(apply T.pickT;(iterate 3 apply rfl))|(apply T.pickF;(iterate 3 apply rfl))|(apply T.convI64;apply rfl;omega;apply rfl)|(apply T.buildL;(iterate 3 apply rfl))|(apply T.loadW;apply rfl;apply rfl;infer_instance;(first|rfl|(simp only [List.length_append,List.length_map,List.length_set,List.length_replicate,List.length_cons,List.length_nil];first|done|omega));apply rfl)|(apply T.sliceLC;apply rfl;omega;apply rfl)|(apply T.storeW;apply rfl;apply rfl;infer_instance;(first|rfl|(simp only [List.length_append,List.length_map,List.length_set,List.length_replicate,List.length_cons,List.length_nil];first|done|omega));(first|rfl|(simp only [List.length_append,List.length_map,List.length_set,List.length_replicate,List.length_cons,List.length_nil];first|done|omega));(first|rfl|(repeat' first|apply all_nV|apply Z0s|apply all_iV|rfl|apply all_app)))|(apply T.store;apply rfl;apply rfl;infer_instance;(first|decide|(simp;omega)|simp);apply rfl)|(with_reducible refine Sr.nil ?_)|(with_reducible refine S.reg ?_)|(with_reducible refine S.skip ?_)|(with_reducible refine S.inBlock ?_)|(apply S.exit;apply rfl)|(apply T.ungV;apply rfl;(first|with_reducible rfl|decide))|(apply T.skip;apply rfl;(first|with_reducible rfl|decide);apply rfl)|(apply S.condTV;apply rfl;(first|with_reducible rfl|decide))|(apply S.condFV;apply rfl;(first|with_reducible rfl|decide))|(apply T.retW;apply rfl)|(apply T.doneW;apply rfl)|(with_reducible apply T.diesW)|(with_reducible apply T.ofRet)|(with_reducible apply T.ofPan)|(apply T.retC;apply rfl;((repeat' first|apply RV.nil|(apply RV.tmp;apply rfl)|(apply RV.cellW;apply rfl;apply rfl;infer_instance;(first|rfl|(simp only [List.length_append,List.length_map,List.length_set,List.length_replicate,List.length_cons,List.length_nil];first|done|omega)))|(apply RV.cellP;apply rfl;apply rfl;infer_instance;apply rfl)));apply rfl)|(apply SA.en;apply rfl;apply rfl;kernel_rfl)|fail);exact k.h):P:=h ⟨k⟩
theorem _root_.Sg.Y7 {P R:Prop} (k:R) (h:Sg.Kp R→P:=by intro k;(first|(apply T.slen;apply rfl;apply rfl)|(apply T.sidx;apply rfl;apply rfl;omega;apply rfl)|(apply T.mv;apply rfl;apply rfl)|(apply T.asn;apply rfl;apply rfl)|(apply T.nilCheck;apply rfl;apply rfl)|(apply T.fieldAddrZ;apply rfl;apply rfl)|(apply T.load;apply rfl;apply rfl;infer_instance;apply rfl;apply rfl)|(apply T.lss;(iterate 3 apply rfl))|(apply T.eql;(iterate 3 apply rfl))|(apply T.neq;(iterate 3 apply rfl))|(apply T.addI;apply rfl;apply rfl;omega;apply rfl)|(apply T.notB;apply rfl;apply rfl)|(apply T.pickT;(iterate 3 apply rfl))|(apply T.pickF;(iterate 3 apply rfl))|(apply T.convI64;apply rfl;omega;apply rfl)|(apply T.store;apply rfl;apply rfl;infer_instance;(first|decide|(simp;omega)|simp);apply rfl)|(with_reducible refine Sr.nil ?_)|(with_reducible refine S.reg ?_)|(with_reducible refine S.skip ?_)|(with_reducible refine S.inBlock ?_)|(apply T.ungV;apply rfl;(first|with_reducible rfl|decide))|(apply T.skip;apply rfl;(first|with_reducible rfl|decide);apply rfl)|(apply T.skipU;apply rfl;apply rfl)|(with_reducible apply T.ofRet)|(apply SA.en;apply rfl;apply rfl;kernel_rfl)|(apply S.condQ;apply rfl;intro _;rotate_left;intro _;exfalso;(first|omega|with_reducible contradiction))|(apply S.condQ;apply rfl;intro _;exfalso;(first|omega|with_reducible contradiction);intro _)|(apply T.gcase;apply rfl;apply rfl;intro _;rotate_left;intro _;exfalso;(first|omega|with_reducible contradiction))|(apply T.gcase;apply rfl;apply rfl;intro _;exfalso;(first|omega|with_reducible contradiction);intro _)|fail);exact k.h):P:=h ⟨k⟩
theorem Z6e {t:List UInt8} (hl:t.length≤2200000):Meets Tryz.prog 99 [sV t,.int .i64 0] F M H (fun e H'=>∃ (mi:Bool) (w d:List UInt8) (pt:Int) (pl dn:Bool) (ex:List UInt8),e=.returned (.tuple ⟨[.agg ⟨numV mi w d pt pl dn ex⟩,.bool (numP t).isSome]⟩)∧H'=H∧∀ x,numP t=some x→x=(mi,w,pl)):=by
 refine Meets.enter Tryz.func99 rfl rfl ?_
 have hc1:=Z5P 45 t
 have hN:numP t=if Z2G (cutP 45 t).1=true then none else
   match Z7t ((cutP 45 t).1.drop (runD (cutP 45 t).1)) with
   | none=>none
   | some (s3,p1)=>match expP s3 with
    | none=>none
    | some (s6,p2)=>if s6=[] then some ((cutP 45 t).2,(cutP 45 t).1.take (runD (cutP 45 t).1),p1&&p2) else none:=rfl
 generalize numP t=np at *
 refine S.seq ?_
 repeat' (first|(apply T.alloc;apply rfl;intro nb)|refine Sg.Y2 ?_|fail)
 revert nb
 intro b4
 refine S.seq ?_
 repeat' (first|(apply T.alloc;apply rfl;intro nb)|refine Sg.Y2 ?_|fail)
 revert nb
 intro b6
 refine S.seq ?_
 repeat' (first|refine Sg.Y2 ?_|fail)
 refine S.seq ?_
 refine S.seq ?_
 repeat' (first|refine Sg.Y2 ?_|fail)
 refine S.cut (fun H' e'=>∃ (mi:Bool) (w s6 bh:List UInt8) (pl dn:Bool) (ex:List UInt8),H'=.blk b6 (numV mi w [] 0 pl dn ex) 151::.blk b4 (numV false [] [] 0 false false []) 151::H∧e'=[(0,sV s6),(4,.pointer (some ⟨b4,0,none⟩)),(6,.pointer (some ⟨b6,0,none⟩)),(7,sV bh),(5,.bool false)]∧w.length≤2200000∧bh.length≤2200000∧ex.length≤2200000∧np=if s6=[] then some (mi,w,pl) else none) ?_ ?_
 ·intro k' hrest
  refine S.block ?_
  refine S.seq ?_
  refine S.cut (fun H' e'=>∃ (mi:Bool) (w s3 bh:List UInt8) (pl:Bool),H'=.blk b6 (numV mi w [] 0 pl false []) 151::.blk b4 (numV false [] [] 0 false false []) 151::H∧e'=[(0,sV s3),(4,.pointer (some ⟨b4,0,none⟩)),(6,.pointer (some ⟨b6,0,none⟩)),(7,sV bh),(5,.bool false)]∧w.length≤2200000∧bh.length≤2200000∧s3.length≤2200000∧np=match expP s3 with
   | none=>none
   | some (s6,p2)=>if s6=[] then some (mi,w,pl&&p2) else none) ?_ ?_
  ·intro k'' hmid
   repeat' (first|refine Sg.Y1 ?_|fail)
   refine T.call rfl rfl (Z1O (pr:=[45]) (c:=45) rfl (by omega)) ?_
   rintro _ _ ⟨rfl,hH⟩
   have hH2:=hH.symm
   subst hH2
   generalize (cutP 45 t).1=s1 at *
   generalize (cutP 45 t).2=mi at *
   have hk:=Z2O s1
   have u0:(s1.getD 0 0).toNat=bAt s1 0:=rfl
   repeat' (first|refine Sg.Y1 ?_|fail)
   refine T.call rfl rfl (Z3h (s:=s1) (by omega)) ?_
   rintro _ _ ⟨rfl,hH⟩
   have hH2:=hH.symm
   subst hH2
   by_cases hb:Z2G s1=true
   ·have hb':runD s1=0∨(1 < runD s1∧bAt s1 0=48):=by simpa [Z2G] using hb
    rw [if_pos hb] at hN
    subst hN
    repeat' (first|(refine T.sidx (i:=0) rfl rfl (by omega) rfl ?_)|refine Sg.Y3 ?_|(apply S.condQ;apply rfl;all_goals intro _)|(apply T.gcase;apply rfl;apply rfl;all_goals intro _)|fail)
    all_goals (exact ⟨_,PSub.drop (PSub.drop (PSub.refl _)),_,_,_,_,_,_,_,rfl,rfl,fun x hx=>by cases hx⟩)
   have hb':¬(runD s1=0∨(1 < runD s1∧bAt s1 0=48)):=by simpa [Z2G] using hb
   rw [if_neg hb] at hN
   clear hb
   have hl2:(s1.drop (runD s1)).length=s1.length - runD s1:=List.length_drop
   repeat' (first|(refine T.sidx (i:=0) rfl rfl (by omega) rfl ?_)|refine Sg.Y3 ?_|(apply S.condQ;apply rfl;all_goals intro _)|(apply T.gcase;apply rfl;apply rfl;all_goals intro _)|fail)
   all_goals
    (apply S.draw;(case Hs=>exact H);(case es=>exact  [7]);(case n=>exact  9);(case hn=>rfl))
    repeat' (first|(apply SA.qn;(iterate 4 apply rfl);kernel_rfl)|(apply SA.qz;(iterate 4 apply rfl);kernel_rfl)|(apply SA.qsn;(iterate 3 apply rfl);kernel_rfl;(first|exact fun _ h=>h|exact fun _ h=>St.psub h (by ((repeat (first|dsimp only [List.set_cons_zero]|dsimp only [List.set_cons_succ]));repeat' first|exact PSub.refl _|exact PSub.nil|(apply PSub.take;(repeat' first|(with_reducible exact Z0)|(with_reducible apply Z1)))|(with_reducible apply PSub.drop)|((apply PSub.take);(repeat' first|exact Z0|(apply Z1)))))))|(apply SA.done;apply rfl;kernel_rfl)|(apply SK.intro;(first|exact fun _ h=>h|exact fun _ h=>St.psub h (by ((repeat (first|dsimp only [List.set_cons_zero]|dsimp only [List.set_cons_succ]));repeat' first|exact PSub.refl _|exact PSub.nil|(apply PSub.take;(repeat' first|(with_reducible exact Z0)|(with_reducible apply Z1)))|(with_reducible apply PSub.drop)|((apply PSub.take);(repeat' first|exact Z0|(apply Z1)))))))|refine Sg.Y5 ?_|fail)
    refine T.call rfl rfl (Z1O (s:=s1.drop (runD s1)) (pr:=[46]) (c:=46) rfl (by omega)) ?_
    rintro _ _ ⟨rfl,hH⟩
    have hH2:=hH.symm
    subst hH2
    generalize s1.drop (runD s1)=s2 at *
    have hc2:=Z5P 46 s2
    unfold Z7t at hN
    cases hc46:(cutP 46 s2).2 with
    | true =>
     rw [hc46,if_pos rfl] at hN
     generalize (cutP 46 s2).1=rs at *
     have hkr:=Z2O rs
     repeat' (first|refine Sg.Y1 ?_|fail)
     refine T.call rfl rfl (Z3h (s:=rs) (by omega)) ?_
     rintro _ _ ⟨rfl,hH⟩
     have hH2:=hH.symm
     subst hH2
     by_cases hk0:runD rs=0
     ·rw [if_pos hk0] at hN
      subst hN
      repeat' (first|refine Sg.Y3 ?_|(apply S.condQ;apply rfl;all_goals intro _)|fail)
      (exact ⟨_,PSub.drop (PSub.drop (PSub.refl _)),_,_,_,_,_,_,_,rfl,rfl,fun x hx=>by cases hx⟩)
     ·rw [if_neg hk0] at hN
      have hl3:(rs.drop (runD rs)).length=rs.length - runD rs:=List.length_drop
      repeat' (first|refine Sg.Y3 ?_|(apply S.condQ;apply rfl;all_goals intro _)|fail)
      (apply S.draw;(case Hs=>exact H);(case es=>exact  [7]);(case n=>exact  10);(case hn=>rfl))
      repeat' (first|(apply SA.qn;(iterate 4 apply rfl);kernel_rfl)|(apply SA.qz;(iterate 4 apply rfl);kernel_rfl)|(apply SA.qsn;(iterate 3 apply rfl);kernel_rfl;(first|exact fun _ h=>h|exact fun _ h=>St.psub h (by ((repeat (first|dsimp only [List.set_cons_zero]|dsimp only [List.set_cons_succ]));repeat' first|exact PSub.refl _|exact PSub.nil|(apply PSub.take;(repeat' first|(with_reducible exact Z0)|(with_reducible apply Z1)))|(with_reducible apply PSub.drop)|((apply PSub.take);(repeat' first|exact Z0|(apply Z1)))))))|(apply SA.done;apply rfl;kernel_rfl)|(apply SK.intro;(first|exact fun _ h=>h|exact fun _ h=>St.psub h (by ((repeat (first|dsimp only [List.set_cons_zero]|dsimp only [List.set_cons_succ]));repeat' first|exact PSub.refl _|exact PSub.nil|(apply PSub.take;(repeat' first|(with_reducible exact Z0)|(with_reducible apply Z1)))|(with_reducible apply PSub.drop)|((apply PSub.take);(repeat' first|exact Z0|(apply Z1)))))))|refine Sg.Y6 ?_|fail)
      exact hmid _ _ _ ⟨mi,s1.take (runD s1),rs.drop (runD rs),rs.take (runD rs),false,rfl,rfl,by rw [List.length_take];omega,by rw [List.length_take];omega,by omega,hN⟩ (by repeat' first|exact trivial|refine And.intro rfl ?_)
    | false =>
     have hs2:s2.length≤2200000:=by omega
     rw [hc46,if_neg (by simp)] at hN
     repeat' (first|refine Sg.Y1 ?_|fail)
     exact hmid _ _ _ ⟨mi,s1.take (runD s1),s2,[],true,rfl,rfl,by rw [List.length_take];omega,by simp,hs2,hN⟩ (by repeat' first|exact trivial|refine And.intro rfl ?_)
  ·rintro _ _ ⟨mi,w,s3,bh,pl,rfl,rfl,hw,hbh,hs3,hN⟩
   by_cases he:s3.getD 0 0|||32=101
   ·have hl3:0 < s3.length:=by
     rcases Nat.eq_zero_or_pos s3.length with h|h
     ·rw [Z3S h] at he
      exact absurd he (by decide)
     ·exact h
    have hn3:¬s3=[]:=fun h=>by rw [h] at hl3;exact absurd hl3 (by decide)
    have he':((s3.getD 0 0|||32).toNat:Int)=101:=by rw [he];rfl
    rw [ZbO he] at hN
    have hl4:(s3.drop 1).length=s3.length - 1:=List.length_drop
    obtain ⟨s4,e4⟩:∃ s4,s3.drop 1=s4:=⟨_,rfl⟩
    rw [e4] at hN hl4
    by_cases hs:(s4.getD 0 0).toNat=43∨(s4.getD 0 0).toNat=45
    ·have h04:0 < s4.length:=by
      rcases Nat.eq_zero_or_pos s4.length with h|h
      ·rw [Z3S h] at hs
       exact absurd hs (by decide)
      ·exact h
     have hn4:¬s4=[]:=fun h=>by rw [h] at h04;exact absurd h04 (by decide)
     rw [Z9M hs] at hN
     obtain ⟨s5,e5⟩:∃ s5,s4.drop 1=s5:=⟨_,rfl⟩
     have hl5:s5.length=s4.length - 1:=by rw [←e5];exact List.length_drop
     rw [e5] at hN
     by_cases h5:s5=[]
     ·rw [if_pos (.inl h5)] at hN
      subst hN
      repeat' (first|(refine T.sidx (i:=0) rfl rfl (by omega) rfl ?_)|(refine T.ssliceL (i:=1) rfl rfl (by omega) rfl ?_;rw [e4])|(refine T.bor (b:=32) _ rfl rfl rfl ?_)|refine Sg.Y3 ?_|(apply S.condQ;apply rfl;all_goals intro _)|(apply T.gcase;apply rfl;apply rfl;all_goals intro _)|fail)
      all_goals
       (apply S.draw;(case Hs=>exact H);(case es=>exact  [6]);(case n=>exact  8);(case hn=>rfl))
       repeat' (first|(refine T.sidx (i:=0) rfl rfl (by omega) rfl ?_)|(refine T.ssliceL (i:=1) rfl rfl (by omega) rfl ?_;rw [e5])|(apply SA.qn;(iterate 4 apply rfl);kernel_rfl)|(apply SA.qz;(iterate 4 apply rfl);kernel_rfl)|(apply SA.qsn;(iterate 3 apply rfl);kernel_rfl;(first|exact fun _ h=>h|exact fun _ h=>St.psub h (by ((repeat (first|dsimp only [List.set_cons_zero]|dsimp only [List.set_cons_succ]));repeat' first|exact PSub.refl _|exact PSub.nil|(apply PSub.take;(repeat' first|(with_reducible exact Z0)|(with_reducible apply Z1)))|(with_reducible apply PSub.drop)|((apply PSub.take);(repeat' first|exact Z0|(apply Z1)))))))|(apply SA.done;apply rfl;kernel_rfl)|(apply SK.intro;(first|exact fun _ h=>h|exact fun _ h=>St.psub h (by ((repeat (first|dsimp only [List.set_cons_zero]|dsimp only [List.set_cons_succ]));repeat' first|exact PSub.refl _|exact PSub.nil|(apply PSub.take;(repeat' first|(with_reducible exact Z0)|(with_reducible apply Z1)))|(with_reducible apply PSub.drop)|((apply PSub.take);(repeat' first|exact Z0|(apply Z1)))))))|refine Sg.Y3 ?_|(apply T.gcase;apply rfl;apply rfl;all_goals intro _)|fail)
       (exact ⟨_,PSub.drop (PSub.drop (PSub.refl _)),_,_,_,_,_,_,_,rfl,rfl,fun x hx=>by cases hx⟩)
     ·have h05:0 < s5.length:=by
       rcases Nat.eq_zero_or_pos s5.length with h|h
       ·exact absurd (Z3S h) h5
       ·exact h
      have hr5:=Z2O s5
      repeat' (first|(refine T.sidx (i:=0) rfl rfl (by omega) rfl ?_)|(refine T.ssliceL (i:=1) rfl rfl (by omega) rfl ?_;rw [e4])|(refine T.bor (b:=32) _ rfl rfl rfl ?_)|refine Sg.Y3 ?_|(apply S.condQ;apply rfl;all_goals intro _)|(apply T.gcase;apply rfl;apply rfl;all_goals intro _)|fail)
      all_goals
       (apply S.draw;(case Hs=>exact H);(case es=>exact  [6]);(case n=>exact  8);(case hn=>rfl))
       repeat' (first|(refine T.sidx (i:=0) rfl rfl (by omega) rfl ?_)|(refine T.ssliceL (i:=1) rfl rfl (by omega) rfl ?_;rw [e5])|(apply SA.qn;(iterate 4 apply rfl);kernel_rfl)|(apply SA.qz;(iterate 4 apply rfl);kernel_rfl)|(apply SA.qsn;(iterate 3 apply rfl);kernel_rfl;(first|exact fun _ h=>h|exact fun _ h=>St.psub h (by ((repeat (first|dsimp only [List.set_cons_zero]|dsimp only [List.set_cons_succ]));repeat' first|exact PSub.refl _|exact PSub.nil|(apply PSub.take;(repeat' first|(with_reducible exact Z0)|(with_reducible apply Z1)))|(with_reducible apply PSub.drop)|((apply PSub.take);(repeat' first|exact Z0|(apply Z1)))))))|(apply SA.done;apply rfl;kernel_rfl)|(apply SK.intro;(first|exact fun _ h=>h|exact fun _ h=>St.psub h (by ((repeat (first|dsimp only [List.set_cons_zero]|dsimp only [List.set_cons_succ]));repeat' first|exact PSub.refl _|exact PSub.nil|(apply PSub.take;(repeat' first|(with_reducible exact Z0)|(with_reducible apply Z1)))|(with_reducible apply PSub.drop)|((apply PSub.take);(repeat' first|exact Z0|(apply Z1)))))))|refine Sg.Y3 ?_|(apply T.gcase;apply rfl;apply rfl;all_goals intro _)|fail)
       refine T.call rfl rfl (Z3h (s:=s5) (by omega)) ?_
       rintro _ _ ⟨rfl,hH⟩
       have hH2:=hH.symm
       subst hH2
       by_cases h6:runD s5=s5.length
       ·rw [if_neg (fun h=>h.elim h5 (fun h=>h h6))] at hN
        repeat' (first|refine Sg.Y7 ?_|(apply S.condQ;apply rfl;all_goals intro _)|fail)
        refine T.call rfl rfl (Z0Y (pr:=[48]) (c:=48) rfl (by decide) (by omega)) ?_
        rintro _ _ ⟨r,rfl,hH,hr⟩
        have hH2:=hH.symm
        subst hH2
        repeat' (first|refine Sg.Y2 ?_|fail)
        exact hrest _ _ _ ⟨mi,w,[],bh,false,_,r,rfl,rfl,hw,hbh,by omega,by rw [hN];simp⟩ (by repeat' first|exact trivial|refine And.intro rfl ?_)
       ·rw [if_pos (.inr h6)] at hN
        subst hN
        repeat' (first|refine Sg.Y3 ?_|(apply S.condQ;apply rfl;all_goals intro _)|fail)
        all_goals (exact ⟨_,PSub.drop (PSub.drop (PSub.refl _)),_,_,_,_,_,_,_,rfl,rfl,fun x hx=>by cases hx⟩)
    ·rw [Zbi hs] at hN
     have hs':¬((s4.getD 0 0).toNat=43)∧¬((s4.getD 0 0).toNat=45):=not_or.1 hs
     obtain ⟨hs1,hs2⟩:=hs'
     by_cases hn4:s4=[]
     ·repeat' (first|(refine T.sidx (i:=0) rfl rfl (by omega) rfl ?_)|(refine T.ssliceL (i:=1) rfl rfl (by omega) rfl ?_;rw [e4])|(refine T.bor (b:=32) _ rfl rfl rfl ?_)|refine Sg.Y3 ?_|(apply S.condQ;apply rfl;all_goals intro _)|(apply T.gcase;apply rfl;apply rfl;all_goals intro _)|fail)
      rw [if_pos (.inl hn4)] at hN
      subst hN
      (exact ⟨_,PSub.drop (PSub.drop (PSub.refl _)),_,_,_,_,_,_,_,rfl,rfl,fun x hx=>by cases hx⟩)
     ·have h04:0 < s4.length:=by
       rcases Nat.eq_zero_or_pos s4.length with h|h
       ·exact absurd (Z3S h) hn4
       ·exact h
      have hr7:=Z2O s4
      have h7:=hn4
      repeat' (first|(refine T.sidx (i:=0) rfl rfl (by omega) rfl ?_)|(refine T.ssliceL (i:=1) rfl rfl (by omega) rfl ?_;rw [e4])|(refine T.bor (b:=32) _ rfl rfl rfl ?_)|refine Sg.Y3 ?_|(apply S.condQ;apply rfl;all_goals intro _)|(apply T.gcase;apply rfl;apply rfl;all_goals intro _)|fail)
      refine T.call rfl rfl (Z3h (s:=s4) (by omega)) ?_
      rintro _ _ ⟨rfl,hH⟩
      have hH2:=hH.symm
      subst hH2
      by_cases h6:runD s4=s4.length
      ·rw [if_neg (fun h=>h.elim h7 (fun h=>h h6))] at hN
       repeat' (first|refine Sg.Y7 ?_|(apply S.condQ;apply rfl;all_goals intro _)|fail)
       refine T.call rfl rfl (Z0Y (pr:=[48]) (c:=48) rfl (by decide) (by omega)) ?_
       rintro _ _ ⟨r,rfl,hH,hr⟩
       have hH2:=hH.symm
       subst hH2
       repeat' (first|refine Sg.Y2 ?_|fail)
       exact hrest _ _ _ ⟨mi,w,[],bh,false,_,r,rfl,rfl,hw,hbh,by omega,by rw [hN];simp⟩ (by repeat' first|exact trivial|refine And.intro rfl ?_)
      ·rw [if_pos (.inr h6)] at hN
       subst hN
       repeat' (first|refine Sg.Y3 ?_|(apply S.condQ;apply rfl;all_goals intro _)|fail)
       all_goals (exact ⟨_,PSub.drop (PSub.drop (PSub.refl _)),_,_,_,_,_,_,_,rfl,rfl,fun x hx=>by cases hx⟩)
   ·have he':¬((s3.getD 0 0|||32).toNat:Int)=101:=fun h=>he (UInt8.toNat_inj.1 (Int.ofNat.inj h))
    rw [Zd4 he] at hN
    by_cases hn3:s3=[]
    ·repeat' (first|refine Sg.Y3 ?_|(apply T.gcase;apply rfl;apply rfl;all_goals intro _)|fail)
     exact hrest _ _ _ ⟨mi,w,s3,bh,pl,false,[],rfl,rfl,hw,hbh,by simp,by rw [hN];simp only [Bool.and_true]⟩ (by repeat' first|exact trivial|refine And.intro rfl ?_)
    ·have hl3:0 < s3.length:=by
      rcases Nat.eq_zero_or_pos s3.length with h|h
      ·exact absurd (Z3S h) hn3
      ·exact h
     repeat' (first|(refine T.sidx (i:=0) rfl rfl (by omega) rfl ?_)|(refine T.bor (b:=32) _ rfl rfl rfl ?_)|refine Sg.Y3 ?_|(apply S.condQ;apply rfl;all_goals intro _)|(apply T.gcase;apply rfl;apply rfl;all_goals intro _)|fail)
     exact hrest _ _ _ ⟨mi,w,s3,bh,pl,false,[],rfl,rfl,hw,hbh,by simp,by rw [hN];simp only [Bool.and_true]⟩ (by repeat' first|exact trivial|refine And.intro rfl ?_)
 ·rintro _ _ ⟨mi,w,s6,bh,pl,dn,ex,rfl,rfl,h1,h2,h3,h4⟩
  repeat' (first|refine Sg.Y1 ?_|fail)
  refine T.call rfl rfl (Z0Y (c:=48) rfl (by decide) (by rw [List.length_append];omega)) ?_
  rintro _ _ ⟨d,rfl,rfl,hd⟩
  rw [List.length_append] at hd
  have hla:(w++bh).length=w.length+bh.length:=List.length_append
  repeat' (first|refine Sg.Y1 ?_|fail)
  refine T.call rfl rfl (Z3u (c:=48) rfl (by decide) (by omega)) ?_
  rintro _ _ ⟨d2,rfl,rfl,hd2⟩
  repeat' (first|refine Sg.Y3 ?_|(apply S.condQ;apply rfl;all_goals intro _)|fail)
  all_goals
   by_cases h5:s6=[]
   ·rw [if_pos h5] at h4
    subst h4
    rw [decide_eq_true h5]
    exact ⟨_,PSub.drop (PSub.drop (PSub.refl _)),mi,w,d2,_,pl,_,ex,rfl,rfl,fun x hx=>by cases hx;rfl⟩
   ·rw [if_neg h5] at h4
    subst h4
    rw [decide_eq_false h5]
    exact ⟨_,PSub.drop (PSub.drop (PSub.refl _)),mi,w,d2,_,pl,_,ex,rfl,rfl,fun x hx=>by cases hx⟩
end
end Go.Proofs.YtjajcmedipjfhaaGreatDoor
/- The walks of the program's numbers: whole ones, valid ones. -/
namespace Go.Proofs.YtjajcmedipjfhaaGreatDoor
open Sg Go.IntWalk
set_option maxRecDepth 100000
set_option maxHeartbeats 2000000
section
variable {F:World} {M:List Nat} {H:List Res}
theorem Z3O {t:List UInt8} {mi pl:Bool} {w:List UInt8} (h:numP t=some (mi,w,pl)):(∀ j,j < w.length→48≤bAt w j∧bAt w j≤57)∧w.length≤t.length:=by
 have h1:w=(cutP 45 t).1.take (runD (cutP 45 t).1):=by
  unfold numP at h
  split at h
  ·cases h
  ·split at h
   ·cases h
   ·split at h
    ·cases h
    ·split at h
     ·simp only [Option.some.injEq,Prod.mk.injEq] at h
      exact h.2.1.symm
     ·cases h
 have h2:=Z2O (cutP 45 t).1
 have h3:=Z5P 45 t
 subst h1
 refine ⟨fun j hj=>?_,by rw [List.length_take];omega⟩
 rw [List.length_take] at hj
 have h4:bAt ((cutP 45 t).1.take (runD (cutP 45 t).1)) j=bAt (cutP 45 t).1 j:=by
  unfold bAt
  simp only [List.getD]
  rw [List.getElem?_take_of_lt (by omega)]
 rw [h4]
 exact Z4H (by omega)
theorem Z8I {t:List UInt8} (hl:t.length≤2200000):Meets Tryz.prog 67 [sV t] F M H (fun e H'=>e=.returned (.bool (numP t).isSome)∧H'=H):=by
 refine Meets.enter Tryz.func67 rfl rfl ?_
 repeat' (first|refine Sg.Y1 ?_|fail)
 refine T.call rfl rfl (Z6e hl) ?_
 rintro _ _ ⟨mi,w,d,pt,pl,dn,ex,rfl,hH,hx⟩
 have hH2:=hH.symm
 subst hH2
 repeat' (first|(apply T.alloc;apply rfl;intro nb)|refine Sg.Y1 ?_|fail)
 exact ⟨_,PSub.drop (PSub.refl _),rfl,rfl⟩
theorem Z4v {t:List UInt8} (hl:t.length≤2200000):Meets Tryz.prog 66 [sV t] F M H (fun e H'=>e=.returned (.tuple ⟨[.int .i64 (Z6 t).1,.bool (Z6 t).2]⟩)∧H'=H):=by
 refine Meets.enter Tryz.func66 rfl rfl ?_
 repeat' (first|refine Sg.Y1 ?_|fail)
 refine T.call rfl rfl (Z6e hl) ?_
 rintro _ _ ⟨mi,w,d,pt,pl,dn,ex,rfl,hH,hx⟩
 have hH2:=hH.symm
 subst hH2
 unfold Z6
 cases hn:numP t with
 | none =>
  repeat' (first|(apply T.alloc;apply rfl;intro nb)|refine Sg.Y1 ?_|fail)
  exact ⟨_,PSub.drop (PSub.refl _),rfl,rfl⟩
 | some x =>
  obtain rfl:=hx x hn
  obtain ⟨hd,hw⟩:=Z3O hn
  cases pl with
  | false =>
   repeat' (first|(apply T.alloc;apply rfl;intro nb)|refine Sg.Y1 ?_|fail)
   exact ⟨_,PSub.drop (PSub.refl _),rfl,rfl⟩
  | true =>
   simp only
   repeat' (first|(apply T.alloc;apply rfl;intro nb)|refine Sg.Y1 ?_|fail)
   refine S.loopE 1 [0,4,5,23] (fun R b' μ H' e=>∃ i:Nat,H'=.blk nb (numV mi w d pt true dn ex) 151::R∧e=(6,.int .u64 (decV (w.take i):Nat))::(24,.int .i64 i)::b'∧(i≤w.length∧decV (w.take i)≤9223372036854775808)∧μ=w.length - i) rfl rfl ?_ _ _ ⟨0,rfl,rfl,⟨Nat.zero_le _,by simp [decV]⟩,rfl⟩ (by repeat' first|exact trivial|refine And.intro rfl ?_)
   rintro _ _ _ ⟨i,rfl,rfl,⟨h1,h2⟩,rfl⟩ ih
   by_cases h3:i < w.length
   ·have hdi:=hd i h3
    have hb:(w.getD i 0).toNat=bAt w i:=rfl
    have hstep:decV (w.take (i+1))=10*decV (w.take i)+(bAt w i - 48):=by
     have hg:w[i]=w.getD i 0:=by simp [List.getD,h3]
     rw [List.take_succ_eq_append_getElem h3,Z49,hg,hb]
    have hmono:=Z6Q (l:=w) (i:=i+1) (by omega)
    by_cases h4:decV (w.take (i+1))≤9223372036854775808
    ·have e9:(10*decV (w.take i)+((w.getD i 0).toNat - 48):Nat)=decV (w.take (i+1)):=by rw [hstep,hb]
     repeat' (first|((with_reducible apply T.subU8N (n:=48));apply rfl;apply rfl;omega;apply rfl)|(refine T.subU64N (m:=9223372036854775808) rfl rfl (by omega) rfl ?_)|(refine T.quoU64 10 rfl rfl (by omega) rfl ?_)|(refine T.mulU64N (m:=10) rfl rfl (by omega) rfl ?_)|(refine T.addU64N rfl rfl (by omega) rfl ?_;rw [e9])|refine Sg.Y3 ?_|(apply S.condQ;apply rfl;all_goals intro _)|fail)
     exact ih _ _ _ _ ⟨i+1,rfl,rfl,⟨by omega,h4⟩,rfl⟩ (by omega) (by repeat' first|exact trivial|refine And.intro rfl ?_)
    ·have hv:whole64 mi (decV w)=(0,false):=by
      unfold whole64
      cases mi
      ·rw [if_neg (by simp),if_neg (by omega)]
      ·rw [if_pos rfl,if_neg (by omega)]
     rw [hv]
     repeat' (first|((with_reducible apply T.subU8N (n:=48));apply rfl;apply rfl;omega;apply rfl)|(refine T.subU64N (m:=9223372036854775808) rfl rfl (by omega) rfl ?_)|(refine T.quoU64 10 rfl rfl (by omega) rfl ?_)|refine Sg.Y3 ?_|(apply S.condQ;apply rfl;all_goals intro _)|fail)
     exact ⟨_,PSub.drop (PSub.refl _),rfl,rfl⟩
   ·obtain rfl:i=w.length:=by omega
    rw [List.take_length] at h2 ⊢
    unfold whole64
    cases mi with
    | true =>
     rw [if_pos rfl,if_pos h2]
     repeat' (first|(refine T.convNeg rfl h2 rfl ?_)|refine Sg.Y4 ?_|(apply S.condQ;apply rfl;all_goals intro _)|fail)
     exact ⟨_,PSub.drop (PSub.refl _),rfl,rfl⟩
    | false =>
     rw [if_neg (by simp)]
     by_cases h5:decV w < 9223372036854775808
     ·rw [if_pos h5]
      repeat' (first|refine Sg.Y3 ?_|(apply S.condQ;apply rfl;all_goals intro _)|fail)
      exact ⟨_,PSub.drop (PSub.refl _),rfl,rfl⟩
     ·rw [if_neg h5]
      repeat' (first|refine Sg.Y3 ?_|(apply S.condQ;apply rfl;all_goals intro _)|fail)
      exact ⟨_,PSub.drop (PSub.refl _),rfl,rfl⟩
end
end Go.Proofs.YtjajcmedipjfhaaGreatDoor
/- The walks of the program's reader of JSON: nodes put down, lists and objects opened and closed. -/
namespace Go.Proofs.YtjajcmedipjfhaaGreatDoor
open Sg Go.IntWalk
set_option maxRecDepth 100000
set_option maxHeartbeats 4000000
instance:Inhabited Nd:=⟨nd 0⟩
abbrev ndV (n:Nd):List Value:=[.int .i64 n.kind,sV n.key,sV n.text,.bool n.whole,.int .i64 n.int,.int .i64 n.kids]
def Z08 (out:List Nd):List Nat→List Nd
 | []=>out
 | i::_=>out.modify i Nd.more
theorem ZaP (out:List Nd) (stk:List (Nat × Option (List (List UInt8)))):bump out stk=Z08 out (stk.map (·.1)):=by
 cases stk<;>rfl
def upL {α:Type} (f:α→Value) (l:List α):List Value:=(l.map f).reverse
theorem Z6W {α:Type} (f:α→Value) (l:List α):(upL f l).length=l.length:=by simp [upL]
theorem Z6V {α:Type} (f:α→Value) (x:α) (r:List α):(upL f (x::r))[r.length]?=some (f x):=by simp [upL]
theorem Z2s {α:Type} (f:α→Value) (x:α) (r:List α):upL f (x::r)=upL f r++[f x]:=by simp [upL]
abbrev inV (n:Nat):Value:=.int .i64 (n:Int)
theorem Z4T {α:Type} [Inhabited α] (l:List α) (i:Nat) (f:α→α) (h:i < l.length):l.modify i f=l.set i (f (l.getD i default)):=by
 induction l generalizing i with
 | nil=>simp at h
 | cons a l ih =>
  cases i with
  | zero=>rfl
  | succ i =>
   simp only [List.modify_succ_cons,List.set_cons_succ,List.getD_cons_succ]
   rw [ih i (by simpa using h)]
section
variable {F:World} {M:List Nat} {H:List Res} {p:Nat} {t:List UInt8} {m:Value} {a s:Nat} {k:List UInt8} {c b:Int}
abbrev ouR (oa:Option Addr) (oc:Nat) (out:List Nd):Res:=.row oa oc 34 6 out.length (out.flatMap ndV)
abbrev opR (na:Option Addr) (nc:Nat) (is:List Nat):Res:=.row na nc 3 1 is.length (upL inV is)
theorem _root_.Sg.Y8 {P R:Prop} (k:R) (h:Sg.Kp R→P:=by intro k;(first|(apply T.sneqR;(iterate 3 apply rfl))|(apply T.shrGU64;apply rfl;apply rfl;omega;apply rfl)|(apply T.addU64N;apply rfl;apply rfl;omega;apply rfl)|(apply T.convBU64;apply rfl;apply rfl)|(apply T.loadS;apply rfl;infer_instance;(first|omega|(simp only [List.length_map];omega));apply rfl)|(apply T.neqP;apply rfl;apply rfl)|(apply T.mv;apply rfl;apply rfl)|(apply T.asn;apply rfl;apply rfl)|(apply T.len;apply rfl;apply rfl)|(apply T.nilCheck;apply rfl;apply rfl)|(apply T.fieldAddrZ;apply rfl;apply rfl)|(apply T.load;apply rfl;apply rfl;infer_instance;apply rfl;apply rfl)|(apply T.lss;(iterate 3 apply rfl))|(apply T.leq;(iterate 3 apply rfl))|(apply T.gtr;(iterate 3 apply rfl))|(apply T.geq;(iterate 3 apply rfl))|(apply T.eql;(iterate 3 apply rfl))|(apply T.neq;(iterate 3 apply rfl))|(apply T.addI;apply rfl;apply rfl;omega;apply rfl)|(apply T.subI;apply rfl;apply rfl;omega;apply rfl)|(apply T.mulI;apply rfl;apply rfl;omega;apply rfl)|(apply T.ixN;apply rfl;apply rfl;infer_instance;omega;(first|omega|(simp only [List.length_map];omega)|(simp;omega));apply rfl)|(apply T.ixF;apply rfl;apply rfl;infer_instance;exact (fun _=>rfl);apply rfl;omega;omega;apply rfl)|(apply T.fieldAddrF;apply rfl;infer_instance;exact (fun _=>rfl);apply rfl;omega;apply rfl)|(apply T.loadF;apply rfl;apply rfl;infer_instance;exact (fun _=>rfl);apply rfl;exact Zb (by omega);apply rfl;apply rfl)|(apply T.loadFN;apply rfl;apply rfl;infer_instance;exact (fun _=>rfl);apply rfl;exact Zb (by omega);apply rfl)|(apply T.loadNat;apply rfl;infer_instance;(first|omega|(simp only [List.length_map];omega)|(simp;omega));apply rfl)|(apply T.not;apply rfl;apply rfl)|(apply T.pickT;(iterate 3 apply rfl))|(apply T.pickF;(iterate 3 apply rfl))|(apply T.convI64;apply rfl;omega;apply rfl)|(apply T.convU64;apply rfl;omega;apply rfl)|(apply T.buildL;(iterate 3 apply rfl))|(apply T.loadW;apply rfl;apply rfl;infer_instance;(first|rfl|(simp only [List.length_append,List.length_map,List.length_set,List.length_replicate,List.length_cons,List.length_nil];first|done|omega));apply rfl)|(apply T.sliceLK;apply rfl;apply rfl;omega;apply rfl)|(apply T.sliceHK;apply rfl;apply rfl;omega;apply rfl)|(apply T.storeW;apply rfl;apply rfl;infer_instance;(first|rfl|(simp only [List.length_append,List.length_map,List.length_set,List.length_replicate,List.length_cons,List.length_nil];first|done|omega));(first|rfl|(simp only [List.length_append,List.length_map,List.length_set,List.length_replicate,List.length_cons,List.length_nil];first|done|omega));(first|rfl|(repeat' first|apply all_nV|apply Z0s|apply all_iV|rfl|apply all_app)))|(apply T.store;apply rfl;apply rfl;infer_instance;(first|decide|(simp;omega)|simp);apply rfl)|(apply T.storeE;apply rfl;apply rfl;infer_instance;(first|omega|(simp only [List.length_map];omega)|(simp;omega));apply rfl)|(with_reducible refine Sr.nil ?_)|(with_reducible refine S.seq ?_)|(with_reducible refine S.block ?_)|(with_reducible refine S.reg ?_)|(with_reducible refine S.skip ?_)|(with_reducible refine S.inBlock ?_)|(apply S.exit;apply rfl)|(apply S.quiet;apply rfl;kernel_rfl)|(apply T.ungV;apply rfl;(first|with_reducible rfl|decide))|(apply T.skip;apply rfl;(first|with_reducible rfl|decide);apply rfl)|(apply T.skipU;apply rfl;apply rfl)|(apply S.condTV;apply rfl;(first|with_reducible rfl|decide))|(apply S.condFV;apply rfl;(first|with_reducible rfl|decide))|(apply T.retW;apply rfl)|(apply T.doneW;apply rfl)|(with_reducible apply T.ofRet)|(apply T.retC;apply rfl;((repeat' first|apply RV.nil|(apply RV.tmp;apply rfl)|(apply RV.cellW;apply rfl;apply rfl;infer_instance;(first|rfl|(simp only [List.length_append,List.length_map,List.length_set,List.length_replicate,List.length_cons,List.length_nil];first|done|omega)))|(apply RV.cellP;apply rfl;apply rfl;infer_instance;apply rfl)));apply rfl)|(apply S.condQ;apply rfl;intro _;rotate_left;intro _;exfalso;(first|omega|with_reducible contradiction))|(apply S.condQ;apply rfl;intro _;exfalso;(first|omega|with_reducible contradiction);intro _)|(apply T.gcase;apply rfl;apply rfl;intro _;rotate_left;intro _;exfalso;(first|omega|with_reducible contradiction))|(apply T.gcase;apply rfl;apply rfl;intro _;exfalso;(first|omega|with_reducible contradiction);intro _)|fail);exact k.h):P:=h ⟨k⟩
theorem Z1v {o:Value} {na:Option Addr} {nc l:Nat}:Meets Tryz.prog 104 [.pointer (some ⟨p,0,none⟩)] F M (.blk p (jrV t o (.slice na l nc) m a s k c b) 98::H) (fun e H'=>e=.returned (.tuple ⟨[]⟩)∧H'=.blk p (jrV t o (.slice na l nc) m a (if l=0 then 6 else 5) k c b) 98::H):=by
 refine Meets.enter Tryz.func104 rfl rfl ?_
 by_cases h:l=0
 ·rw [if_pos h]
  repeat' (first|refine Sg.Y8 ?_|(apply S.condQ;apply rfl;all_goals intro _)|fail)
  exact ⟨_,PSub.refl _,rfl,rfl⟩
 ·rw [if_neg h]
  repeat' (first|refine Sg.Y8 ?_|(apply S.condQ;apply rfl;all_goals intro _)|fail)
  exact ⟨_,PSub.refl _,rfl,rfl⟩
theorem _root_.Sg.Y9 {P R:Prop} (k:R) (h:Sg.Kp R→P:=by intro k;(first|(apply T.eqlP;apply rfl;apply rfl)|(apply T.eqlP0;apply rfl;apply rfl)|(apply T.neqP0;apply rfl;apply rfl)|(apply T.mv;apply rfl;apply rfl)|(apply T.asn;apply rfl;apply rfl)|(apply T.len;apply rfl;apply rfl)|(apply T.nilCheck;apply rfl;apply rfl)|(apply T.fieldAddrZ;apply rfl;apply rfl)|(apply T.load;apply rfl;apply rfl;infer_instance;apply rfl;apply rfl)|(apply T.lss;(iterate 3 apply rfl))|(apply T.gtr;(iterate 3 apply rfl))|(apply T.geq;(iterate 3 apply rfl))|(apply T.eql;(iterate 3 apply rfl))|(apply T.neq;(iterate 3 apply rfl))|(apply T.addI;apply rfl;apply rfl;omega;apply rfl)|(apply T.extract;(iterate 3 apply rfl))|(apply T.ixN;apply rfl;apply rfl;infer_instance;omega;(first|omega|(simp only [List.length_map];omega)|(simp;omega));apply rfl)|(apply T.ixF;apply rfl;apply rfl;infer_instance;exact (fun _=>rfl);apply rfl;omega;omega;apply rfl)|(apply T.fieldAddrF;apply rfl;infer_instance;exact (fun _=>rfl);apply rfl;omega;apply rfl)|(apply T.loadF;apply rfl;apply rfl;infer_instance;exact (fun _=>rfl);apply rfl;exact Zb (by omega);apply rfl;apply rfl)|(apply T.notB;apply rfl;apply rfl)|(apply T.pickT;(iterate 3 apply rfl))|(apply T.pickF;(iterate 3 apply rfl))|(apply T.buildL;(iterate 3 apply rfl))|(apply T.storeW;apply rfl;apply rfl;infer_instance;(first|rfl|(simp only [List.length_append,List.length_map,List.length_set,List.length_replicate,List.length_cons,List.length_nil];first|done|omega));(first|rfl|(simp only [List.length_append,List.length_map,List.length_set,List.length_replicate,List.length_cons,List.length_nil];first|done|omega));(first|rfl|(repeat' first|apply all_nV|apply Z0s|apply all_iV|rfl|apply all_app)))|(apply T.store;apply rfl;apply rfl;infer_instance;(first|decide|(simp;omega)|simp);apply rfl)|(apply T.storeE;apply rfl;apply rfl;infer_instance;(first|omega|(simp only [List.length_map];omega)|(simp;omega));apply rfl)|(with_reducible refine Sr.nil ?_)|(with_reducible refine S.seq ?_)|(with_reducible refine S.block ?_)|(with_reducible refine S.reg ?_)|(with_reducible refine S.skip ?_)|(with_reducible refine S.inBlock ?_)|(apply S.exit;apply rfl)|(apply T.ungV;apply rfl;(first|with_reducible rfl|decide))|(apply T.skip;apply rfl;(first|with_reducible rfl|decide);apply rfl)|(apply S.condTV;apply rfl;(first|with_reducible rfl|decide))|(apply S.condFV;apply rfl;(first|with_reducible rfl|decide))|(apply T.retW;apply rfl)|(apply T.doneW;apply rfl)|(with_reducible apply T.ofRet)|(apply SA.en;apply rfl;apply rfl;kernel_rfl)|(apply S.condT;apply rfl)|(apply S.condF;apply rfl)|fail);exact k.h):P:=h ⟨k⟩
theorem _root_.Sg.Y10 {P R:Prop} (k:R) (h:Sg.Kp R→P:=by intro k;(first|(apply T.mv;apply rfl;apply rfl)|(apply T.asn;apply rfl;apply rfl)|(apply T.len;apply rfl;apply rfl)|(apply T.nilCheck;apply rfl;apply rfl)|(apply T.fieldAddrZ;apply rfl;apply rfl)|(apply T.load;apply rfl;apply rfl;infer_instance;apply rfl;apply rfl)|(apply T.eql;(iterate 3 apply rfl))|(apply T.addI;apply rfl;apply rfl;omega;apply rfl)|(apply T.ixN;apply rfl;apply rfl;infer_instance;omega;(first|omega|(simp only [List.length_map];omega)|(simp;omega));apply rfl)|(apply T.ixF;apply rfl;apply rfl;infer_instance;exact (fun _=>rfl);apply rfl;omega;omega;apply rfl)|(apply T.fieldAddrF;apply rfl;infer_instance;exact (fun _=>rfl);apply rfl;omega;apply rfl)|(apply T.loadF;apply rfl;apply rfl;infer_instance;exact (fun _=>rfl);apply rfl;exact Zb (by omega);apply rfl;apply rfl)|(apply T.notB;apply rfl;apply rfl)|(apply T.pickT;(iterate 3 apply rfl))|(apply T.loadW;apply rfl;apply rfl;infer_instance;(first|rfl|(simp only [List.length_append,List.length_map,List.length_set,List.length_replicate,List.length_cons,List.length_nil];first|done|omega));apply rfl)|(apply T.storeW;apply rfl;apply rfl;infer_instance;(first|rfl|(simp only [List.length_append,List.length_map,List.length_set,List.length_replicate,List.length_cons,List.length_nil];first|done|omega));(first|rfl|(simp only [List.length_append,List.length_map,List.length_set,List.length_replicate,List.length_cons,List.length_nil];first|done|omega));(first|rfl|(repeat' first|apply all_nV|apply Z0s|apply all_iV|rfl|apply all_app)))|(apply T.store;apply rfl;apply rfl;infer_instance;(first|decide|(simp;omega)|simp);apply rfl)|(with_reducible refine Sr.nil ?_)|(with_reducible refine S.reg ?_)|(with_reducible refine S.skip ?_)|(with_reducible refine S.inBlock ?_)|(apply T.ungV;apply rfl;(first|with_reducible rfl|decide))|(apply S.condFV;apply rfl;(first|with_reducible rfl|decide))|(apply T.retW;apply rfl)|(apply T.doneW;apply rfl)|(with_reducible apply T.diesW)|(with_reducible apply T.ofRet)|(with_reducible apply T.ofPan)|(apply T.retC;apply rfl;((repeat' first|apply RV.nil|(apply RV.tmp;apply rfl)|(apply RV.cellW;apply rfl;apply rfl;infer_instance;(first|rfl|(simp only [List.length_append,List.length_map,List.length_set,List.length_replicate,List.length_cons,List.length_nil];first|done|omega)))|(apply RV.cellP;apply rfl;apply rfl;infer_instance;apply rfl)));apply rfl)|(apply SA.en;apply rfl;apply rfl;kernel_rfl)|fail);exact k.h):P:=h ⟨k⟩
theorem Z5F {oa na:Option Addr} {oc nc:Nat} {out:List Nd} {is:List Nat} {n:Nd} (hi:∀ i r,is=i::r→i < out.length) (hl:out.length≤1000000) (hs:is.length≤1000000) (hkid:∀ x∈out,0≤x.kids∧x.kids≤1000000) :
  Meets Tryz.prog 107 [.pointer (some ⟨p,0,none⟩),.agg ⟨ndV n⟩] F M (.blk p (jrV t (.slice oa out.length oc) (.slice na is.length nc) m a s k c b) 98::ouR oa oc out::opR na nc is::H)
   (fun e H'=>∃ oa' oc',e=.returned (.tuple ⟨[]⟩)∧H'=.blk p (jrV t (.slice oa' (Z08 out is++[n.named k]).length oc') (.slice na is.length nc) m a s [] c b) 98::ouR oa' oc' (Z08 out is++[n.named k])::opR na nc is::H):=by
 refine Meets.enter Tryz.func107 rfl rfl ?_
 cases is with
 | nil =>
  repeat' (first|(apply T.box;apply rfl;apply rfl;intro nb)|refine Sg.Y9 ?_|fail)
  (apply S.drawL;(case Hs=>exact [.blk nb ((ndV n).set 1 (sV k)) 34,.blk p ((jrV t (.slice oa out.length oc) (.slice na ([]:List Nat).length nc) m a s k c b).set 6 (.string ⟨#[]⟩)) 98]);(case es=>exact  [6,7,10]);(case lt=>exact  [10]);(case n=>exact  11);(case hn=>rfl))
  repeat' (first|(refine T.appendF (g:=ndV) (n.named k) rfl rfl rfl inferInstance (fun _=>rfl) rfl rfl rfl (by constructor<;>omega) rfl ?_;intro oa' oc')|(apply T.bsL;(iterate 5 apply rfl);intro nb)|(apply SA.qn;(iterate 4 apply rfl);kernel_rfl)|(apply SA.qz;(iterate 4 apply rfl);kernel_rfl)|(apply SA.qsn;(iterate 3 apply rfl);kernel_rfl;(first|exact fun _ h=>h|exact fun _ h=>St.psub h (by ((repeat (first|dsimp only [List.set_cons_zero]|dsimp only [List.set_cons_succ]));repeat' first|exact PSub.refl _|exact PSub.nil|(apply PSub.take;(repeat' first|(with_reducible exact Z0)|(with_reducible apply Z1)))|(with_reducible apply PSub.drop)|((apply PSub.take);(repeat' first|exact Z0|(apply Z1)))))))|(apply SA.done;apply rfl;kernel_rfl)|(apply SK.late;decide)|(apply SK.intro;(first|exact fun _ h=>h|exact fun _ h=>St.psub h (by ((repeat (first|dsimp only [List.set_cons_zero]|dsimp only [List.set_cons_succ]));repeat' first|exact PSub.refl _|exact PSub.nil|(apply PSub.take;(repeat' first|(with_reducible exact Z0)|(with_reducible apply Z1)))|(with_reducible apply PSub.drop)|((apply PSub.take);(repeat' first|exact Z0|(apply Z1)))))))|refine Sg.Y10 ?_|fail)
  have hL:(Z08 out []++[n.named k]).length=out.length+1:=by simp [Z08]
  dsimp only [ouR]
  rw [hL]
  exact ⟨_,PSub.drop (PSub.refl _),oa',oc',rfl,rfl⟩
 | cons i r =>
  have h1:=hi i r rfl
  have hlen:(i::r).length=r.length+1:=rfl
  have e1:(((i::r).length:Nat):Int) - 1=((r.length:Nat):Int):=by rw [hlen];omega
  have hbl:(out.modify i Nd.more).length=out.length:=List.length_modify ..
  have hkd:=hkid (out.getD i default) (by rw [List.getD_eq_getElem?_getD,List.getElem?_eq_getElem h1,Option.getD_some];exact List.getElem_mem h1)
  have hget:out[i]?=some (out.getD i default):=Zb h1
  have hset:out.set i (out.getD i default).more=out.modify i Nd.more:=(Z4T out i Nd.more h1).symm
  have htop:=Z6V inV i r
  have hupl:(upL inV (i::r)).length=r.length+1:=by rw [Z6W];rfl
  repeat' (first|(apply T.box;apply rfl;apply rfl;intro nb)|refine Sg.Y8 ?_|(apply S.condQ;apply rfl;all_goals intro _)|fail)
  (apply S.draw;(case Hs=>exact .blk nb ((ndV n).set 1 (sV k)) 34::opR na nc (i::r)::H);(case es=>exact  [22]);(case n=>exact  23);(case hn=>rfl))
  repeat' (first|(apply T.subI;apply rfl;apply rfl;omega;apply rfl;rw [e1])|(apply T.loadE;apply rfl;apply rfl;infer_instance;exact htop;apply rfl)|(refine T.storeF (g:=ndV) (out.getD i default).more rfl rfl inferInstance (fun _=>rfl) rfl hget rfl rfl ?_)|(apply SA.qn;(iterate 4 apply rfl);kernel_rfl)|(apply SA.done;apply rfl;kernel_rfl)|(apply SK.intro;(first|exact fun _ h=>h|exact fun _ h=>St.psub h (by ((repeat (first|dsimp only [List.set_cons_zero]|dsimp only [List.set_cons_succ]));repeat' first|exact PSub.refl _|exact PSub.nil|(apply PSub.take;(repeat' first|(with_reducible exact Z0)|(with_reducible apply Z1)))|(with_reducible apply PSub.drop)|((apply PSub.take);(repeat' first|exact Z0|(apply Z1)))))))|refine Sg.Y10 ?_|fail)
  rw [hset]
  have hb:Z08 out (i::r)=out.modify i Nd.more:=rfl
  have hL:(Z08 out (i::r)++[n.named k]).length=out.length+1:=by rw [List.length_append,hb,hbl];rfl
  dsimp only [ouR]
  rw [hL,hb]
  (apply S.drawL;(case Hs=>exact [.blk nb ((ndV n).set 1 (sV k)) 34,.blk p ((jrV t (.slice oa out.length oc) (.slice na (i::r).length nc) m a s k c b).set 6 (.string ⟨#[]⟩)) 98]);(case es=>exact  [6,7,10]);(case lt=>exact  [10]);(case n=>exact  11);(case hn=>rfl))
  repeat' (first|(refine T.appendF (g:=ndV) (n.named k) rfl rfl rfl inferInstance (fun _=>rfl) rfl rfl rfl (by constructor<;>omega) rfl ?_;intro oa' oc')|(apply T.bsL;(iterate 5 apply rfl);intro nb)|(apply SA.qn;(iterate 4 apply rfl);kernel_rfl)|(apply SA.qz;(iterate 4 apply rfl);kernel_rfl)|(apply SA.qsn;(iterate 3 apply rfl);kernel_rfl;(first|exact fun _ h=>h|exact fun _ h=>St.psub h (by ((repeat (first|dsimp only [List.set_cons_zero]|dsimp only [List.set_cons_succ]));repeat' first|exact PSub.refl _|exact PSub.nil|(apply PSub.take;(repeat' first|(with_reducible exact Z0)|(with_reducible apply Z1)))|(with_reducible apply PSub.drop)|((apply PSub.take);(repeat' first|exact Z0|(apply Z1)))))))|(apply SA.done;apply rfl;kernel_rfl)|(apply SK.late;decide)|(apply SK.intro;(first|exact fun _ h=>h|exact fun _ h=>St.psub h (by ((repeat (first|dsimp only [List.set_cons_zero]|dsimp only [List.set_cons_succ]));repeat' first|exact PSub.refl _|exact PSub.nil|(apply PSub.take;(repeat' first|(with_reducible exact Z0)|(with_reducible apply Z1)))|(with_reducible apply PSub.drop)|((apply PSub.take);(repeat' first|exact Z0|(apply Z1)))))))|refine Sg.Y10 ?_|fail)
  exact ⟨_,PSub.drop (PSub.refl _),oa',oc',rfl,rfl⟩
end
end Go.Proofs.YtjajcmedipjfhaaGreatDoor
/- A row of the call's own, made shorter. -/
namespace Sg
open Go Go.RowKit
theorem Z70 {w:World} {E:TypeId} {n cp:Nat} {a:Option Addr} {xs:List Value} {v:Value} (h:w.ownsRow 0 E 1 (.slice a (n+1) cp) (n+1) (xs++[v])):w.ownsRow 0 E 1 (.slice a n cp) n xs:=by
 obtain ⟨h1,h2⟩:=h
 have h3:xs.length=n:=by simpa using h1
 refine ⟨by omega,?_⟩
 rcases h2 with ⟨_,h0⟩|⟨g,cap,cur,hv,hg,hh,hn,hm,hs,ht⟩
 ·omega
 ·simp only [Value.slice.injEq] at hv
  obtain ⟨rfl,_,rfl⟩:=hv
  refine .inr ⟨g,cp,cur,rfl,hg,hh,by omega,hm,hs,?_⟩
  rw [Nat.mul_one] at ht ⊢
  have:=congrArg (List.take n) ht
  rw [List.take_take,Nat.min_eq_left (Nat.le_succ n)] at this
  rw [this,List.take_append_of_le_length (by omega),List.take_of_length_le (by omega)]
theorem St.shrink {F:World} {M:List Nat} {w:World} {H:List Res} {a:Option Addr} {cp n:Nat} {E:TypeId} {xs:List Value} {v:Value} (h:St F M w (.row a cp E 1 (n+1) (xs++[v])::H)):St F M w (.row a cp E 1 n xs::H) :=
 h.turn rfl rfl rfl (Nat.le_refl _) (fun _ _ _=>rfl) (Z70 (h.res _ (List.mem_cons_self ..))) (fun b hb=>.inl hb) (by cases a<;>simp [Res.foot])
theorem St.mid {F:World} {M:List Nat} {w:World} {A C:List Res} {q q':Res} (f:∀ X,St F M w (q::X)→St F M w (q'::X)) (h:St F M w (A++q::C)):St F M w (A++q'::C):=(f _ (h.perm List.perm_middle)).perm List.perm_middle.symm
theorem St.midDrop {F:World} {M:List Nat} {w:World} {A C:List Res} {q:Res} (h:St F M w (A++q::C)):St F M w (A++C):=(h.perm List.perm_middle).tail
section
variable {c:Ctx} {dr:Bool} {ds:List Deferred} {H:List Res} {k:List Item} {e:Env} {ops:Array Oper} {l:List Oper} {κ:List Res→Env→Prop}
theorem S.shrink {a:Option Addr} {cp n:Nat} {E:TypeId} {xs:List Value} {v:Value} (h:S c ds (.row a cp E 1 n xs::H) k e):S c ds (.row a cp E 1 (n+1) (xs++[v])::H) k e:=h.weaken fun _ hw=>hw.shrink
theorem T.appendQ {d:Tmp} {x y:Operand} {ad:Option Addr} {n cp m b t E Eb sz:Nat} [HU c.P t (.slice E)] {z:Value} {by_:Nat} [HI c.P E z sz by_] {xs us:List Value} {f:Res→List Res} {H':List Res} {ty:TypeId} {pos:String} {aft:Array Edge} (hx:ev e x=some (.slice ad n cp)) (hy:ev e y=some (.slice (some ⟨b,0,none⟩) m m))
  (hf:Fr H b (.blk b us Eb::H')) (hr:AtR H' ad cp E sz n xs f) (hus:us.length=m*sz) (hone:us.all (·.oneCell')=true) (hzs:z.cells.size=sz) (hsz:Nat.blt 0 sz=true) (hroom:(n+m)*by_≤140737488355328∧n+m≤140737488355328) (hlt:Nat.blt d c.fn.ntmps=true)
  (hk:∀ ad' cp',Sr (.eff dr) c ds (f (.row ad' cp' E sz (n+m) (xs++us))) ops l κ ((d,.slice ad' (n+m) cp')::e)) :
  Sr (.eff dr) c ds H ops (⟨some d,.call ⟨.builtin .append,#[x,y],#[t,t]⟩,ty,pos,aft,none⟩::l) κ e :=
 Sr.front b (T.append (z:=z) (by_:=by_) hx hy hr hus hone hzs hsz hroom hlt hk)
end
end Sg
/- The walks of the program's reader of JSON: its whole state; lists and objects opened and closed. -/
namespace Go.Proofs.YtjajcmedipjfhaaGreatDoor
open Sg Go.IntWalk
set_option maxRecDepth 100000
set_option maxHeartbeats 4000000
abbrev Stk:=List (Nat × Option (Nat × Ents))
def mpV (x:Nat × Option (Nat × Ents)):Value:=match x.2 with
 | none=>.map none
 | some y=>.map (some y.1)
abbrev mpR (mb:Nat) (m:Ents):Res:=.ex mb (mapQ Tryz.prog 9 3 m.length (mapD m))
def ZC:Stk→List Res→List Res
 | [],H=>H
 | (_,none)::r,H=>ZC r H
 | (_,some y)::r,H=>mpR y.1 y.2::ZC r H
abbrev nmR (ma:Option Addr) (mc:Nat) (st:Stk):Res:=.row ma mc 55 1 st.length (upL mpV st)
structure Jc where
 oa:Option Addr
 oc:Nat
 na:Option Addr
 nc:Nat
 ma:Option Addr
 mc:Nat
 out:List Nd
 st:Stk
 a:Nat
 s:Nat
 k:List UInt8
def Jc.cells (C:Jc) (t:List UInt8) (c b:Int):List Value:=jrV t (.slice C.oa C.out.length C.oc) (.slice C.na C.st.length C.nc) (.slice C.ma C.st.length C.mc) C.a C.s C.k c b
abbrev opS (na:Option Addr) (nc:Nat) (st:Stk):Res:=.row na nc 3 1 st.length (upL inV (st.map (·.1)))
def Jc.res (C:Jc) (p:Nat) (t:List UInt8) (H:List Res):List Res:=.blk p (C.cells t 0 0) 98::ouR C.oa C.oc C.out::opS C.na C.nc C.st::nmR C.ma C.mc C.st::ZC C.st H
section
variable {F:World} {M:List Nat} {H:List Res} {p:Nat} {t:List UInt8} {o:Value} {a s:Nat} {k:List UInt8} {c b:Int}
theorem Zdu {w:World} {A:List Res} {na ma:Option Addr} {nc mc:Nat} {x:Nat × Option (Nat × Ents)} {r:Stk} (h:St F M w (A++opS na nc (x::r)::nmR ma mc (x::r)::ZC (x::r) H)):St F M w (A++opS na nc r::nmR ma mc r::ZC r H):=by
 have e1:opS na nc (x::r)=.row na nc 3 1 (r.length+1) (upL inV (r.map (·.1))++[inV x.1]):=by rw [←Z2s];rfl
 have e2:nmR ma mc (x::r)=.row ma mc 55 1 (r.length+1) (upL mpV r++[mpV x]):=by rw [←Z2s];rfl
 rw [e1,e2] at h
 have h1:St F M w (A++opS na nc r::.row ma mc 55 1 (r.length+1) (upL mpV r++[mpV x])::ZC (x::r) H):=h.mid fun X h=>h.shrink
 have h2:St F M w ((A++[opS na nc r])++nmR ma mc r::ZC (x::r) H):=by
  refine St.mid (q:=.row ma mc 55 1 (r.length+1) (upL mpV r++[mpV x])) (fun X h=>h.shrink) (A:=A++[opS na nc r]) ?_
  rw [List.append_assoc]
  exact h1
 obtain ⟨i,x2⟩:=x
 cases x2 with
 | none =>
  rw [List.append_assoc] at h2
  exact h2
 | some y =>
  have h3:St F M w ((A++[opS na nc r,nmR ma mc r])++mpR y.1 y.2::ZC r H):=by
   rw [List.append_assoc] at h2 ⊢
   exact h2
  have h4:=h3.midDrop
  rw [List.append_assoc] at h4
  exact h4
theorem ZbQ {na ma:Option Addr} {nc mc:Nat} {x:Nat × Option (Nat × Ents)} {r:Stk} {Ho:Res} (ha:a≤1000000) (hr:r.length≤1000000) :
  Meets Tryz.prog 75 [.pointer (some ⟨p,0,none⟩)] F M (.blk p (jrV t o (.slice na (x::r).length nc) (.slice ma (x::r).length mc) a s k c b) 98::Ho::opS na nc (x::r)::nmR ma mc (x::r)::ZC (x::r) H)
   (fun e H'=>e=.returned (.bool true)∧H'=.blk p (jrV t o (.slice na r.length nc) (.slice ma r.length mc) (a+1) (if r.length=0 then 6 else 5) k c b) 98::Ho::opS na nc r::nmR ma mc r::ZC r H):=by
 refine Meets.enter Tryz.func75 rfl rfl ?_
 have hlen:(x::r).length=r.length+1:=rfl
 have e1:(((x::r).length:Nat):Int) - 1=((r.length:Nat):Int):=by rw [hlen];omega
 refine S.capR (ad:=na) inferInstance fun hcap1=>?_
 refine S.capR (ad:=ma) inferInstance fun hcap2=>?_
 repeat' (first|refine Sg.Y1 ?_|fail)
 (apply S.draw;(case Hs=>exact []);(case es=>exact  [26,29]);(case n=>exact  30);(case hn=>rfl))
 repeat' (first|(apply T.subI;apply rfl;apply rfl;omega;apply rfl;rw [e1])|(apply SA.qn;(iterate 4 apply rfl);kernel_rfl)|(apply SA.qz;(iterate 4 apply rfl);kernel_rfl)|(apply SA.qsn;(iterate 3 apply rfl);kernel_rfl;(first|exact fun _ h=>h|exact fun _ h=>St.psub h (by ((repeat (first|dsimp only [List.set_cons_zero]|dsimp only [List.set_cons_succ]));repeat' first|exact PSub.refl _|exact PSub.nil|(apply PSub.take;(repeat' first|(with_reducible exact Z0)|(with_reducible apply Z1)))|(with_reducible apply PSub.drop)|((apply PSub.take);(repeat' first|exact Z0|(apply Z1)))))))|(apply SA.done;apply rfl;kernel_rfl)|(apply SK.intro;(first|exact fun _ h=>h|exact fun _ h=>St.psub h (by ((repeat (first|dsimp only [List.set_cons_zero]|dsimp only [List.set_cons_succ]));repeat' first|exact PSub.refl _|exact PSub.nil|(apply PSub.take;(repeat' first|(with_reducible exact Z0)|(with_reducible apply Z1)))|(with_reducible apply PSub.drop)|((apply PSub.take);(repeat' first|exact Z0|(apply Z1)))))))|refine Sg.Y1 ?_|fail)
 refine T.call rfl rfl (Z1v (a:=a+1) (l:=r.length) (o:=o)) ?_
 rintro _ _ ⟨rfl,rfl⟩
 refine Sr.weaken (H':=_) ?_ (fun w h=>Zdu (A:=[_,_]) h)
 repeat' (first|refine Sg.Y1 ?_|fail)
 exact ⟨_,PSub.refl _,rfl,rfl⟩
theorem Za2 (na:Option Addr) (nc:Nat) (st:Stk) (i:Nat) (y:Option (Nat × Ents)):(.row na nc 3 1 (st.length+1) (upL inV (st.map (·.1))++[.int .i64 (i:Int)]):Res)=opS na nc ((i,y)::st):=by
 rw [←Z2s inV i (st.map (·.1))]
 rfl
theorem Zbr (ma:Option Addr) (mc:Nat) (st:Stk) (i:Nat):(.row ma mc 55 1 (st.length+1) (upL mpV st++[.map none]):Res)=nmR ma mc ((i,none)::st):=by
 rw [show Value.map none=mpV (i,none) from rfl,←Z2s mpV (i,none) st]
 rfl
theorem Zbq (ma:Option Addr) (mc:Nat) (st:Stk) (i mb:Nat):(.row ma mc 55 1 (st.length+1) (upL mpV st++[.map (some mb)]):Res)=nmR ma mc ((i,some (mb,[]))::st):=by
 rw [show Value.map (some mb)=mpV (i,some (mb,[])) from rfl,←Z2s mpV (i,some (mb,[])) st]
 rfl
theorem Z9o {oa pa ma:Option Addr} {oc pc mc:Nat} {out:List Nd} {st:Stk} {ch:UInt8} (hch:ch.toNat=91∨ch.toNat=123) (ha:a≤1000000) (hi:∀ i r,st.map (·.1)=i::r→i < out.length) (hl:out.length≤1000000) (hs:st.length≤1000000) (hkid:∀ x∈out,0≤x.kids∧x.kids≤1000000) :
  Meets Tryz.prog 105 [.pointer (some ⟨p,0,none⟩),.int .u8 (ch.toNat:Nat)] F M (.blk p (jrV t (.slice oa out.length oc) (.slice pa st.length pc) (.slice ma st.length mc) a s k c b) 98::ouR oa oc out::opS pa pc st::nmR ma mc st::ZC st H)
   (fun e H'=>if st.length=32 then e=.returned (.bool false)∧H'=.blk p (jrV t (.slice oa out.length oc) (.slice pa st.length pc) (.slice ma st.length mc) a s k 11 a) 98::ouR oa oc out::opS pa pc st::nmR ma mc st::ZC st H
    else ∃ (oa':Option Addr) (oc':Nat) (pa':Option Addr) (pc':Nat) (ma':Option Addr) (mc':Nat) (y:Option (Nat × Ents)),e=.returned (.bool true)∧(if ch.toNat=123 then ∃ mb,y=some (mb,[]) else y=none) ∧
     H'=.blk p (jrV t (.slice oa' (out.length+1) oc') (.slice pa' (st.length+1) pc') (.slice ma' (st.length+1) mc') (a+1) (if ch.toNat=123 then 3 else 1) [] c b) 98::ouR oa' oc' (Z08 out (st.map (·.1))++[(nd (if ch.toNat=123 then 7 else 6)).named k])::opS pa' pc' ((out.length,y)::st)::nmR ma' mc' ((out.length,y)::st)::ZC ((out.length,y)::st) H):=by
 refine Meets.enter Tryz.func105 rfl rfl ?_
 have hml:(st.map (·.1)).length=st.length:=List.length_map _
 have hbl:(Z08 out (st.map (·.1))).length=out.length:=by
  cases h:st.map (·.1) with
  | nil=>rfl
  | cons i r=>exact List.length_modify ..
 have hL6:∀ n:Nd,(Z08 out (st.map (·.1))++[n]).length=out.length+1:=fun n=>by rw [List.length_append,hbl];rfl
 have e1:((out.length+1:Nat):Int) - 1=((out.length:Nat):Int):=by omega
 by_cases h32:st.length=32
 ·simp only [h32,if_true]
  repeat' (first|refine Sg.Y1 ?_|fail)
  refine T.call rfl rfl ZX ?_
  rintro _ _ ⟨rfl,rfl⟩
  repeat' (first|refine Sg.Y2 ?_|fail)
  exact ⟨_,PSub.refl _,rfl,rfl⟩
 ·simp only [h32,if_false]
  by_cases h123:ch.toNat=123
  ·simp only [h123,if_true]
   have hn:(ch.toNat:Int)=123:=by omega
   repeat' (first|(apply T.mapMake;apply rfl;intro mb)|(apply T.alloc;apply rfl;intro nb)|refine Sg.Y3 ?_|(apply S.condQ;apply rfl;all_goals intro _)|fail)
   revert mb
   intro mb
   refine Sr.frontR pa ?_
   refine Sr.frontR oa ?_
   refine Sr.front p ?_
   have hls:=Z5F (F:=F) (M:=M) (H:=mpR mb []::.blk nb (ndV (nd 7)) 34::nmR ma mc st::ZC st H) (p:=p) (t:=t) (m:=.slice ma st.length mc) (a:=a+1) (s:=3) (k:=k) (c:=c) (b:=b) (oa:=oa) (na:=pa) (oc:=oc) (nc:=pc) (n:=nd 7) hi hl (by omega) hkid
   dsimp only [opR] at hls
   rw [hml] at hls
   refine T.call rfl rfl hls ?_
   clear hls
   rintro _ _ ⟨oa',oc',rfl,rfl⟩
   dsimp only [ouR]
   rw [hL6]
   repeat' (first|refine Sg.Y1 ?_|fail)
   (apply S.drawL;(case Hs=>exact [.blk p (jrV t (.slice oa' (out.length+1) oc') (.slice pa st.length pc) (.slice ma st.length mc) (a+1) 3 [] c b) 98]);(case es=>exact  [12,13,19,20,23,26]);(case lt=>exact  [23,26]);(case n=>exact  27);(case hn=>rfl))
   repeat' (first|(apply T.subI;apply rfl;apply rfl;omega;apply rfl;rw [e1])|(apply T.appendQ;apply rfl;apply rfl;infer_instance;infer_instance;(iterate 4 apply rfl);(constructor<;>omega);apply rfl;intro na nc)|(apply T.bs;(iterate 6 apply rfl);intro nb)|(apply SA.qn;(iterate 4 apply rfl);kernel_rfl)|(apply SA.qz;(iterate 4 apply rfl);kernel_rfl)|(apply SA.qsn;(iterate 3 apply rfl);kernel_rfl;(first|exact fun _ h=>h|exact fun _ h=>St.psub h (by ((repeat (first|dsimp only [List.set_cons_zero]|dsimp only [List.set_cons_succ]));repeat' first|exact PSub.refl _|exact PSub.nil|(apply PSub.take;(repeat' first|(with_reducible exact Z0)|(with_reducible apply Z1)))|(with_reducible apply PSub.drop)|((apply PSub.take);(repeat' first|exact Z0|(apply Z1)))))))|(apply SA.e2;(iterate 3 apply rfl);kernel_rfl)|(apply SA.done;apply rfl;kernel_rfl)|(apply SK.late;decide)|(apply SK.intro;(first|exact fun _ h=>h|exact fun _ h=>St.psub h (by ((repeat (first|dsimp only [List.set_cons_zero]|dsimp only [List.set_cons_succ]));repeat' first|exact PSub.refl _|exact PSub.nil|(apply PSub.take;(repeat' first|(with_reducible exact Z0)|(with_reducible apply Z1)))|(with_reducible apply PSub.drop)|((apply PSub.take);(repeat' first|exact Z0|(apply Z1)))))))|refine Sg.Y1 ?_|fail)
   all_goals
    rw [Za2 _ _ st out.length (some (mb,[])),Zbq _ _ st out.length mb]
    exact ⟨_,PSub.take Z0 (PSub.take Z0 (PSub.take Z0 (PSub.take (Z1 (Z1 Z0)) (PSub.take Z0 (PSub.drop (PSub.refl _)))))),oa',oc',_,_,_,_,some (mb,[]),rfl,⟨mb,rfl⟩,rfl⟩
  ·simp only [h123,if_false]
   have hn:¬(ch.toNat:Int)=123:=by omega
   repeat' (first|(apply T.alloc;apply rfl;intro nb)|refine Sg.Y3 ?_|(apply S.condQ;apply rfl;all_goals intro _)|fail)
   refine Sr.frontR pa ?_
   refine Sr.frontR oa ?_
   refine Sr.front p ?_
   have hls:=Z5F (F:=F) (M:=M) (H:=.blk nb (ndV (nd 6)) 34::nmR ma mc st::ZC st H) (p:=p) (t:=t) (m:=.slice ma st.length mc) (a:=a+1) (s:=1) (k:=k) (c:=c) (b:=b) (oa:=oa) (na:=pa) (oc:=oc) (nc:=pc) (n:=nd 6) hi hl (by omega) hkid
   dsimp only [opR] at hls
   rw [hml] at hls
   refine T.call rfl rfl hls ?_
   clear hls
   rintro _ _ ⟨oa',oc',rfl,rfl⟩
   dsimp only [ouR]
   rw [hL6]
   repeat' (first|refine Sg.Y1 ?_|fail)
   (apply S.drawL;(case Hs=>exact [.blk p (jrV t (.slice oa' (out.length+1) oc') (.slice pa st.length pc) (.slice ma st.length mc) (a+1) 1 [] c b) 98]);(case es=>exact  [12,13,19,20,23,26]);(case lt=>exact  [23,26]);(case n=>exact  27);(case hn=>rfl))
   repeat' (first|(apply T.subI;apply rfl;apply rfl;omega;apply rfl;rw [e1])|(apply T.appendQ;apply rfl;apply rfl;infer_instance;infer_instance;(iterate 4 apply rfl);(constructor<;>omega);apply rfl;intro na nc)|(apply T.bs;(iterate 6 apply rfl);intro nb)|(apply SA.qn;(iterate 4 apply rfl);kernel_rfl)|(apply SA.qz;(iterate 4 apply rfl);kernel_rfl)|(apply SA.qsn;(iterate 3 apply rfl);kernel_rfl;(first|exact fun _ h=>h|exact fun _ h=>St.psub h (by ((repeat (first|dsimp only [List.set_cons_zero]|dsimp only [List.set_cons_succ]));repeat' first|exact PSub.refl _|exact PSub.nil|(apply PSub.take;(repeat' first|(with_reducible exact Z0)|(with_reducible apply Z1)))|(with_reducible apply PSub.drop)|((apply PSub.take);(repeat' first|exact Z0|(apply Z1)))))))|(apply SA.e2;(iterate 3 apply rfl);kernel_rfl)|(apply SA.done;apply rfl;kernel_rfl)|(apply SK.late;decide)|(apply SK.intro;(first|exact fun _ h=>h|exact fun _ h=>St.psub h (by ((repeat (first|dsimp only [List.set_cons_zero]|dsimp only [List.set_cons_succ]));repeat' first|exact PSub.refl _|exact PSub.nil|(apply PSub.take;(repeat' first|(with_reducible exact Z0)|(with_reducible apply Z1)))|(with_reducible apply PSub.drop)|((apply PSub.take);(repeat' first|exact Z0|(apply Z1)))))))|refine Sg.Y1 ?_|fail)
   all_goals
    rw [Za2 _ _ st out.length none,Zbr _ _ st out.length]
    exact ⟨_,PSub.take Z0 (PSub.take Z0 (PSub.take Z0 (PSub.drop (PSub.refl _)))),oa',oc',_,_,_,_,none,rfl,rfl,rfl⟩
end
end Go.Proofs.YtjajcmedipjfhaaGreatDoor
/- The walks of the program's reader of JSON: words and numbers put down. -/
namespace Go.Proofs.YtjajcmedipjfhaaGreatDoor
open Sg Go.IntWalk
set_option maxRecDepth 100000
set_option maxHeartbeats 4000000
section
variable {F:World} {M:List Nat} {H:List Res} {p:Nat} {t:List UInt8} {m:Value} {a s:Nat} {k:List UInt8} {c b:Int} {oa na:Option Addr} {oc nc:Nat} {out:List Nd} {is:List Nat}
theorem Z2K (out:List Nd) (is:List Nat):(Z08 out is).length=out.length:=by
 cases is with
 | nil=>rfl
 | cons i r=>exact List.length_modify ..
theorem Z21 (out:List Nd) (is:List Nat) (n:Nd):(Z08 out is++[n]).length=out.length+1:=by rw [List.length_append,Z2K];rfl
def Zdj (p:Nat) (t:List UInt8) (na:Option Addr) (nc:Nat) (m:Value) (is:List Nat) (out:List Nd) (k:List UInt8) (c b:Int) (H:List Res) (a:Nat) (n:Nd):Ending→List Res→Prop:=fun e H'=>∃ (oa':Option Addr) (oc':Nat),e=.returned (.bool true) ∧
 H'=.blk p (jrV t (.slice oa' (out.length+1) oc') (.slice na is.length nc) m a (if is.length=0 then 6 else 5) [] c b) 98::ouR oa' oc' (Z08 out is++[n.named k])::opR na nc is::H
def Zb7 (p:Nat) (t:List UInt8) (H:List Res) (code at_:Int):Ending→List Res→Prop:=fun e H'=>∃ (o n m:Value) (a s:Nat) (k:List UInt8),e=.returned (.bool false)∧H'=.blk p (jrV t o n m a s k code at_) 98::H
theorem Z3T {n:Nd} (hi:∀ i r,is=i::r→i < out.length) (hl:out.length≤1000000) (hs:is.length≤1000000) (hkid:∀ x∈out,0≤x.kids∧x.kids≤1000000) :
  Meets Tryz.prog 107 [.pointer (some ⟨p,0,none⟩),.agg ⟨ndV n⟩] F M (.blk p (jrV t (.slice oa out.length oc) (.slice na is.length nc) m a s k c b) 98::ouR oa oc out::opR na nc is::H)
   (fun e H'=>∃ oa' oc',e=.returned (.tuple ⟨[]⟩)∧H'=.blk p (jrV t (.slice oa' (out.length+1) oc') (.slice na is.length nc) m a s [] c b) 98::ouR oa' oc' (Z08 out is++[n.named k])::opR na nc is::H):=by
 have h:=Z5F (F:=F) (M:=M) (H:=H) (p:=p) (t:=t) (m:=m) (a:=a) (s:=s) (k:=k) (c:=c) (b:=b) (oa:=oa) (na:=na) (oc:=oc) (nc:=nc) (n:=n) hi hl hs hkid
 rw [Z21] at h
 exact h
theorem Z4u {q:Nat} {x:UInt8} {ws:List UInt8} (h:x≠0):Z0t t q (x::ws)=if bAt t q=x.toNat then Z0t t (q+1) ws else .bad 31 q:=by
 rw [Z0t,ZO h]
 simp only [decide_eq_true_eq]
theorem Z6v {w:List UInt8} {kd:Nat} (hw:∀ x∈w,x≠0) (hwl:w.length≤100) (ha:a≤t.length) (hl:t.length≤262144) (hi:∀ i r,is=i::r→i < out.length) (hol:out.length≤1000000) (hs:is.length≤1000000) (hkid:∀ x∈out,0≤x.kids∧x.kids≤1000000) :
  Meets Tryz.prog 109 [.pointer (some ⟨p,0,none⟩),sV w,.int .i64 kd] F M (.blk p (jrV t (.slice oa out.length oc) (.slice na is.length nc) m a s k c b) 98::ouR oa oc out::opR na nc is::H)
   (match Z0t t a w with
    | .ok a' _=>Zdj p t na nc m is out k c b H a' (nd kd)
    | .bad c' b'=>Zb7 p t (ouR oa oc out::opR na nc is::H) c' b'):=by
 refine Meets.enter Tryz.func109 rfl rfl ?_
 repeat' (first|refine Sg.Y1 ?_|fail)
 refine S.loopE 1 [0,1,2,9] (fun R b' μ H' e=>∃ i:Nat,H'=.blk p (jrV t (.slice oa out.length oc) (.slice na is.length nc) m (a+i) s k c b) 98::R∧e=(10,.int .i64 i)::b'∧(i≤w.length∧a+i≤t.length∧Z0t t a w=Z0t t (a+i) (w.drop i))∧μ=w.length - i) rfl rfl ?_ _ _ ⟨0,rfl,rfl,⟨Nat.zero_le _,ha,rfl⟩,rfl⟩ (by repeat' first|exact trivial|refine And.intro rfl ?_)
 rintro _ _ _ ⟨i,rfl,rfl,⟨h1,h2,h3⟩,rfl⟩ ih
 by_cases h4:i < w.length
 ·have hg:w.drop i=w.getD i 0::w.drop (i+1):=by
   rw [List.drop_eq_getElem_cons h4]
   simp [List.getD,h4]
  have hne:w.getD i 0≠0:=by
   rw [List.getD_eq_getElem?_getD,List.getElem?_eq_getElem h4]
   exact hw _ (List.getElem_mem h4)
  rw [hg,Z4u hne] at h3
  have hu:=Z2k t (a+i)
  have n1:∀ {X:List Res},Meets Tryz.prog 74 [.pointer (some ⟨p,0,none⟩)] F M (.blk p (jrV t (.slice oa out.length oc) (.slice na is.length nc) m (a+i) s k c b) 98::X) (fun e H'=>e=.returned (.int .u8 (bAt t (a+i):Nat))∧H'=.blk p (jrV t (.slice oa out.length oc) (.slice na is.length nc) m (a+i) s k c b) 98::X):=ZV
  by_cases h5:bAt t (a+i)=(w.getD i 0).toNat
  ·rw [if_pos h5] at h3
   have hlt:=Zd (t:=t) (p:=a+i) (by rw [h5];exact fun e=>hne (UInt8.toNat_inj.1 e))
   repeat' (first|refine Sg.Y3 ?_|(apply S.condQ;apply rfl;all_goals intro _)|fail)
   (apply S.draw;(case Hs=>exact .blk p (jrV t (.slice oa out.length oc) (.slice na is.length nc) m (a+i) s k c b) 98::ouR oa oc out::opR na nc is::H);(case es=>exact  [1]);(case n=>exact  6);(case hn=>rfl))
   repeat' (first|(apply T.call;apply rfl;apply rfl;with_reducible exact n1;rintro _ _ ⟨rfl,rfl⟩)|(apply SA.qn;(iterate 4 apply rfl);kernel_rfl)|(apply SA.qz;(iterate 4 apply rfl);kernel_rfl)|(apply SA.qsn;(iterate 3 apply rfl);kernel_rfl;(first|exact fun _ h=>h|exact fun _ h=>St.psub h (by ((repeat (first|dsimp only [List.set_cons_zero]|dsimp only [List.set_cons_succ]));repeat' first|exact PSub.refl _|exact PSub.nil|(apply PSub.take;(repeat' first|(with_reducible exact Z0)|(with_reducible apply Z1)))|(with_reducible apply PSub.drop)|((apply PSub.take);(repeat' first|exact Z0|(apply Z1)))))))|(apply SA.done;apply rfl;kernel_rfl)|(apply SK.intro;(first|exact fun _ h=>h|exact fun _ h=>St.psub h (by ((repeat (first|dsimp only [List.set_cons_zero]|dsimp only [List.set_cons_succ]));repeat' first|exact PSub.refl _|exact PSub.nil|(apply PSub.take;(repeat' first|(with_reducible exact Z0)|(with_reducible apply Z1)))|(with_reducible apply PSub.drop)|((apply PSub.take);(repeat' first|exact Z0|(apply Z1)))))))|refine Sg.Y7 ?_|(apply S.condQ;apply rfl;all_goals intro _)|fail)
   exact ih _ _ _ _ ⟨i+1,rfl,rfl,⟨by omega,by omega,h3⟩,rfl⟩ (by omega) (by repeat' first|exact trivial|refine And.intro rfl ?_)
  ·rw [if_neg h5] at h3
   rw [h3]
   repeat' (first|refine Sg.Y3 ?_|(apply S.condQ;apply rfl;all_goals intro _)|fail)
   (apply S.draw;(case Hs=>exact .blk p (jrV t (.slice oa out.length oc) (.slice na is.length nc) m (a+i) s k c b) 98::ouR oa oc out::opR na nc is::H);(case es=>exact  [1]);(case n=>exact  6);(case hn=>rfl))
   repeat' (first|(apply T.call;apply rfl;apply rfl;with_reducible exact n1;rintro _ _ ⟨rfl,rfl⟩)|(apply SA.qn;(iterate 4 apply rfl);kernel_rfl)|(apply SA.qz;(iterate 4 apply rfl);kernel_rfl)|(apply SA.qsn;(iterate 3 apply rfl);kernel_rfl;(first|exact fun _ h=>h|exact fun _ h=>St.psub h (by ((repeat (first|dsimp only [List.set_cons_zero]|dsimp only [List.set_cons_succ]));repeat' first|exact PSub.refl _|exact PSub.nil|(apply PSub.take;(repeat' first|(with_reducible exact Z0)|(with_reducible apply Z1)))|(with_reducible apply PSub.drop)|((apply PSub.take);(repeat' first|exact Z0|(apply Z1)))))))|(apply SA.done;apply rfl;kernel_rfl)|(apply SK.intro;(first|exact fun _ h=>h|exact fun _ h=>St.psub h (by ((repeat (first|dsimp only [List.set_cons_zero]|dsimp only [List.set_cons_succ]));repeat' first|exact PSub.refl _|exact PSub.nil|(apply PSub.take;(repeat' first|(with_reducible exact Z0)|(with_reducible apply Z1)))|(with_reducible apply PSub.drop)|((apply PSub.take);(repeat' first|exact Z0|(apply Z1)))))))|refine Sg.Y3 ?_|(apply S.condQ;apply rfl;all_goals intro _)|fail)
   refine T.call rfl rfl ZG ?_
   rintro _ _ ⟨rfl,rfl⟩
   repeat' (first|refine Sg.Y2 ?_|fail)
   exact ⟨_,PSub.refl _,_,_,_,_,_,_,rfl,rfl⟩
 ·obtain rfl:i=w.length:=by omega
  rw [h3,List.drop_length,Z0t]
  repeat' (first|refine Sg.Y3 ?_|(apply S.condQ;apply rfl;all_goals intro _)|fail)
  refine T.call rfl rfl (Z3T (n:=nd kd) hi hol hs hkid) ?_
  rintro _ _ ⟨oa',oc',rfl,rfl⟩
  repeat' (first|refine Sg.Y1 ?_|fail)
  refine T.call rfl rfl Z1v ?_
  rintro _ _ ⟨rfl,rfl⟩
  repeat' (first|refine Sg.Y1 ?_|fail)
  exact ⟨_,PSub.refl _,oa',oc',rfl,rfl⟩
end
end Go.Proofs.YtjajcmedipjfhaaGreatDoor
