/- Texts put together by a program: JsnE JsnF DecA DecB. -/
import Derived.Test.YthomgjihagigcaaGreatDoorMc
import Derived.Test.YthomgjihagigcaaGreatDoorMa
import Derived.Test.YthomgjihagigcaaGreatDoorMb
/- The walks of the program's reader of JSON: sequences of UTF-8. -/
namespace Go.Proofs.YthomgjihagigcaaGreatDoor
open Sg Go.IntWalk Go.Lib
set_option maxRecDepth 100000
set_option maxHeartbeats 2000000
def Z5j:List Value:=(List.range 256).map fun c=>.int .u8 (firstT c:Nat)
def accL:List Value:=(List.range 16).flatMap fun i=>[.int .u8 (accLo i:Nat),.int .u8 (accHi i:Nat)]
structure Tabs (F:World) (M:List Nat):Prop where
 fst:∀ H,Rd F M H (some ⟨3,0,none⟩) Z5j
 acc:∀ H,Rd F M H (some ⟨4,0,none⟩) accL
theorem Z5i {c:Nat} (h:c < 256):Z5j[c]?=some (.int .u8 (firstT c:Nat)):=by simp [Z5j,h]
theorem Z4S:∀ i:Fin 16,(accL.drop (i.val*2)).take 2=[.int .u8 (accLo i.val:Nat),.int .u8 (accHi i.val:Nat)]:=by
 intro i
 have h1:=Z3n (g:=fun i=>[Value.int .u8 (accLo i:Nat),.int .u8 (accHi i:Nat)]) (sz:=2) (xs:=List.range 16) (i:=i.val) (fun _=>rfl) (by simp)
 unfold accL
 rw [h1]
 have h2:(List.range 16).getD i.val default=i.val:=by simp [List.getD,i.isLt]
 rw [h2]
 rfl
theorem Tabs.met {F:World} {M:List Nat} (h:Tabs F M) {w:World} {H:List Res} (hw:St F M w H):Utf8Tabs 3 4 w:=by
 have h1:=(h.fst H).h w hw
 have h2:=(h.acc H).h w hw
 have hlen:accL.length=32:=by decide
 refine ⟨fun c hc=>?_,fun i hi=>?_⟩
 ·obtain ⟨ad,e1,e2⟩:=h1 c _ (Z5i hc)
  simp only [Option.some.injEq] at e1
  subst e1
  simpa [Zh] using e2
 ·have h3:=Z4S ⟨i,hi⟩
  simp only at h3
  have g0:accL[2*i]?=some (.int .u8 (accLo i:Nat)):=by
   have:=congrArg (fun l=>l[0]?) h3
   simpa [List.getElem?_take,List.getElem?_drop,Nat.mul_comm] using this
  have g1:accL[2*i+1]?=some (.int .u8 (accHi i:Nat)):=by
   have:=congrArg (fun l=>l[1]?) h3
   simpa [List.getElem?_take,List.getElem?_drop,Nat.mul_comm] using this
  obtain ⟨ad,e1,e2⟩:=h2 _ _ g0
  obtain ⟨ad',e1',e2'⟩:=h2 _ _ g1
  simp only [Option.some.injEq] at e1 e1'
  subst e1 e1'
  refine ⟨?_,?_⟩
  ·simpa [Zh] using e2
  ·simpa [Zh] using e2'
theorem Z6O (b:Nat):firstT b < 256:=by
 have:=firstT_cases b
 omega
theorem Z6J {F:World} {M:List Nat} {H:List Res} (hT:Tabs F M) {l:List UInt8} (h0:0 < l.length) (hl:l.length≤1000000000) :
  Meets Tryz.prog 152 [sV l] F M H (fun e H'=>e=.returned (.bool (Z2w l.length (bAt l 0) (bAt l 1) (bAt l 2)))∧H'=H):=by
 refine Meets.enter Tryz.func152 rfl rfl ?_
 have i1:=hT.fst
 have i2:=hT.acc
 have hb0:=Z14 l 0
 have hx:=Z6O (bAt l 0)
 have g1:=Z5i hb0
 have g2:=Z4S ⟨firstT (bAt l 0) / 2 ^ 4,by omega⟩
 simp only at g2
 have hfull:Z2w l.length (bAt l 0) (bAt l 1) (bAt l 2)=decide (firstT (bAt l 0) % 8≤l.length∨(1 < l.length∧(bAt l 1 < accLo (firstT (bAt l 0) / 2 ^ 4)∨accHi (firstT (bAt l 0) / 2 ^ 4) < bAt l 1))∨(2 < l.length∧(bAt l 2 < 128∨191 < bAt l 2))):=by
  unfold Z2w
  simp only [Bool.decide_or,Bool.decide_and]
 rw [hfull]
 have hlen:accL.length=32:=by decide
 have e7:firstT (bAt l 0)&&&7=firstT (bAt l 0) % 8:=by
  rw [show 7=2 ^ 3 - 1 from rfl,Nat.and_two_pow_sub_one_eq_mod]
 have g3:(accL.drop (0+((firstT (bAt l 0) / 2 ^ 4:Nat):Int).toNat*2)).take 2=[.int .u8 (accLo (firstT (bAt l 0) / 2 ^ 4):Nat),.int .u8 (accHi (firstT (bAt l 0) / 2 ^ 4):Nat)]:=by
  rw [Nat.zero_add,Int.toNat_natCast]
  exact g2
 have u0:(l.getD 0 0).toNat=bAt l 0:=rfl
 have u1:(l.getD 1 0).toNat=bAt l 1:=rfl
 have u2:(l.getD 2 0).toNat=bAt l 2:=rfl
 repeat' (first|(refine T.sidx (i:=0) rfl rfl (by omega) rfl ?_)|(refine T.sidx (i:=1) rfl rfl (by omega) rfl ?_)|(refine T.sidx (i:=2) rfl rfl (by omega) rfl ?_)|(apply T.loadG;apply rfl;apply rfl;exact i1 _;exact g1;apply rfl)|(apply T.loadGN;apply rfl;apply rfl;exact i2 _;omega;omega;exact g3;apply rfl)|((with_reducible apply T.andU8 (n:=7));apply rfl;apply rfl;omega;omega;apply rfl;rw [e7])|((with_reducible apply T.shrU8 (n:=4));apply rfl;apply rfl;omega;apply rfl)|((first|apply T.slen|apply T.mv|apply T.asn|apply T.fieldAddrZ);apply rfl;apply rfl)|(apply T.load;apply rfl;apply rfl;infer_instance;apply rfl;apply rfl)|((first|apply T.lss|apply T.gtr|apply T.geq|apply T.eql);(iterate 3 apply rfl))|(apply T.ixAZ;apply rfl;apply rfl;omega;apply rfl)|(apply T.ixA;apply rfl;apply rfl;omega;apply rfl)|(apply T.pickT;(iterate 3 apply rfl))|(apply T.pickF;(iterate 3 apply rfl))|(apply T.convI64;apply rfl;omega;apply rfl)|(apply T.storeW;apply rfl;apply rfl;infer_instance;(first|rfl|(simp only [List.length_append,List.length_map,List.length_set,List.length_replicate,List.length_cons,List.length_nil];first|done|omega));(first|rfl|(simp only [List.length_append,List.length_map,List.length_set,List.length_replicate,List.length_cons,List.length_nil];first|done|omega));(first|rfl|(repeat' first|apply all_nV|apply all_bV|apply all_iV|rfl|apply all_app)))|(apply T.alloc;apply rfl;intro nb)|(with_reducible first|refine Sr.nil ?_|refine S.seq ?_|refine S.reg ?_|refine S.skip ?_)|(apply S.quiet;apply rfl;kernel_rfl)|(apply T.ungV;apply rfl;(first|with_reducible rfl|decide))|(apply T.skip;apply rfl;(first|with_reducible rfl|decide);apply rfl)|(apply T.skipU;apply rfl;apply rfl)|(apply S.condTV;apply rfl;(first|with_reducible rfl|decide))|(apply S.condFV;apply rfl;(first|with_reducible rfl|decide))|(apply S.condQ;apply rfl;all_goals (intro _;try (exfalso;first|omega|with_reducible contradiction)))|(apply T.gcase;apply rfl;apply rfl;all_goals (intro _;try (exfalso;first|omega|with_reducible contradiction)))|(apply T.retW;apply rfl)|fail)
 all_goals first
  | exact ⟨_,PSub.refl _,by rw [decide_eq_true (by omega)],rfl⟩
  | exact ⟨_,PSub.drop (PSub.refl _),by rw [decide_eq_true (by omega)],rfl⟩
  | exact ⟨_,PSub.drop (PSub.refl _),by rw [decide_eq_false (by omega)],rfl⟩
section
variable {F:World} {M:List Nat} {H:List Res} {p:Nat} {t:List UInt8} {o n m:Value} {a s:Nat} {k:List UInt8} {c b:Int}
theorem Z4O (hT:Tabs F M) (l:List UInt8) {H:List Res}:Meets Tryz.prog 126 [sV l] F M H (fun e H'=>e=.returned (.tuple ⟨[.int .i32 ((decodeGo (ByteArray.mk l.toArray)).1:Nat),.int .i64 ((decodeGo (ByteArray.mk l.toArray)).2:Nat)]⟩)∧H'=H):=fun w hw =>
 (Tryz.utf8_DecodeRuneInString (ByteArray.mk l.toArray) w (hT.met hw)).mono fun e w' ⟨h1,h2⟩=>⟨H,⟨h1,rfl⟩,hw.below h2⟩
theorem get!_bAt (l:List UInt8) (j:Nat):((ByteArray.mk l.toArray).get! j).toNat=bAt l j:=by
 show (l.toArray[j]!).toNat=_
 simp [bAt,List.getD,getElem!_def]
 cases l[j]?<;>rfl
theorem Z4P {l:List UInt8} (h:0 < l.length):decodeGo (ByteArray.mk l.toArray)=decodeN l.length (bAt l 0) (bAt l 1) (bAt l 2) (bAt l 3):=by
 have hs:(ByteArray.mk l.toArray).size=l.length:=rfl
 unfold decodeGo
 rw [if_neg (by omega),decode_at,get!_bAt,get!_bAt,get!_bAt,get!_bAt,hs,Nat.sub_zero]
theorem ZK (t:List UInt8) (p j:Nat):bAt (t.drop p) j=bAt t (p+j):=by
 unfold bAt
 simp [List.getD,List.getElem?_drop]
def JrQ (p:Nat) (t:List UInt8) (o n m:Value) (a s:Nat) (k:List UInt8) (c b:Int) (H:List Res):Gt Unit→Ending→List Res→Prop
 | .ok a' _=>fun e H'=>e=.returned (.tuple ⟨[.int .i64 ((a' - a:Nat):Int),.bool true]⟩)∧H'=.blk p (jrV t o n m a s k c b) 136::H
 | .bad c' b'=>fun e H'=>e=.returned (.tuple ⟨[.int .i64 0,.bool false]⟩)∧H'=.blk p (jrV t o n m a s k c' b') 136::H
theorem Z38 (hT:Tabs F M) {ch:UInt8} (hc:t[a]?=some ch) (h128:128≤ch.toNat) (hl:t.length≤1000000000):Meets Tryz.prog 138 [.pointer (some ⟨p,0,none⟩)] F M (.blk p (jrV t o n m a s k c b) 136::H) (JrQ p t o n m a s k c b H (Z0g t a ch)):=by
 refine Meets.enter Tryz.func138 rfl rfl ?_
 have hlt:=(List.getElem?_eq_some_iff.1 hc).1
 have hsay:=Z78 hc h128
 have hch:bAt t a=ch.toNat:=Z13 hc
 have hne:0 < (t.drop a).length:=by rw [List.length_drop];omega
 have d0:=Z4P hne
 rw [ZK,ZK,ZK,ZK,List.length_drop,Nat.add_zero,hch] at d0
 have d1:∀ {X:List Res},Meets Tryz.prog 126 [sV (t.drop a)] F M X (fun e H'=>e=.returned (.tuple ⟨[.int .i32 ((decodeGo (ByteArray.mk (t.drop a).toArray)).1:Nat),.int .i64 ((decodeGo (ByteArray.mk (t.drop a).toArray)).2:Nat)]⟩)∧H'=X):=Z4O hT _
 have d2:∀ {X:List Res},Meets Tryz.prog 152 [sV (t.drop a)] F M X (fun e H'=>e=.returned (.bool (Z2w (t.length - a) ch.toNat (bAt t (a+1)) (bAt t (a+2))))∧H'=X):=by
  intro X
  have:=Z6J (H:=X) hT (l:=t.drop a) hne (by rw [List.length_drop];omega)
  rw [ZK,ZK,ZK,List.length_drop,Nat.add_zero,hch] at this
  exact this
 rw [d0] at d1
 unfold Z1F at hsay
 generalize decodeN (t.length - a) ch.toNat (bAt t (a+1)) (bAt t (a+2)) (bAt t (a+3))=dd at *
 generalize Z2w (t.length - a) ch.toNat (bAt t (a+1)) (bAt t (a+2))=ff at *
 repeat' (first|(apply T.asn;apply rfl;apply rfl)|(with_reducible first|refine Sr.nil ?_|refine S.seq ?_|refine S.reg ?_)|fail)
 cases hx:Z0g t a ch with
 | ok a' u =>
  rw [hx] at hsay
  simp only at hsay
  obtain ⟨h1,h2,h3⟩:=hsay
  (apply S.draw;(case Hs=>exact .blk p (jrV t o n m a s k c b) 136::H);(case es=>exact  [9]);(case n=>exact  15);(case hn=>rfl))
  repeat' (first|(apply T.ssliceL;apply rfl;apply rfl;omega;apply rfl)|(apply T.call;apply rfl;apply rfl;with_reducible exact d1;rintro _ _ ⟨rfl,rfl⟩)|((first|apply T.mv|apply T.asn|apply T.nilCheck|apply T.fieldAddrZ);apply rfl;apply rfl)|(apply T.load;apply rfl;apply rfl;infer_instance;apply rfl;apply rfl)|((first|apply T.gtr|apply T.neq|apply T.extract);(iterate 3 apply rfl))|(apply T.pickT;(iterate 3 apply rfl))|(apply T.pickF;(iterate 3 apply rfl))|(with_reducible first|refine Sr.nil ?_|refine S.seq ?_|refine S.reg ?_)|(apply T.ungV;apply rfl;(first|with_reducible rfl|decide))|(apply T.skip;apply rfl;(first|with_reducible rfl|decide);apply rfl)|(apply S.condTV;apply rfl;(first|with_reducible rfl|decide))|(apply S.condQ;apply rfl;all_goals (intro _;try (exfalso;first|omega|with_reducible contradiction)))|(apply T.gcase;apply rfl;apply rfl;all_goals (intro _;try (exfalso;first|omega|with_reducible contradiction)))|(apply T.retW;apply rfl)|(with_reducible apply T.ofRet)|(apply SA.qn;(iterate 4 apply rfl);kernel_rfl)|(apply SA.en;apply rfl;apply rfl;kernel_rfl)|(apply SA.done;apply rfl;kernel_rfl)|(apply SK.intro;(first|exact fun _ h=>h|exact fun _ h=>St.psub h (by ((repeat (first|dsimp only [List.set_cons_zero]|dsimp only [List.set_cons_succ]));repeat' first|exact PSub.refl _|exact PSub.nil|(apply PSub.take;(repeat' first|(with_reducible exact Z0)|(with_reducible apply Z1)))|(with_reducible apply PSub.drop)|((apply PSub.take);(repeat' first|exact Z0|(apply Z1)))))))|fail)
  all_goals
   rw [h1]
   exact ⟨_,PSub.refl _,rfl,rfl⟩
 | bad e q =>
  rw [hx] at hsay
  simp only at hsay
  obtain ⟨rfl,h2⟩:=hsay
  (apply S.draw;(case Hs=>exact .blk p (jrV t o n m a s k c b) 136::H);(case es=>exact  [9]);(case n=>exact  15);(case hn=>rfl))
  repeat' (first|(apply T.ssliceL;apply rfl;apply rfl;omega;apply rfl)|(apply T.call;apply rfl;apply rfl;with_reducible exact d1;rintro _ _ ⟨rfl,rfl⟩)|((first|apply T.mv|apply T.asn|apply T.nilCheck|apply T.fieldAddrZ);apply rfl;apply rfl)|(apply T.load;apply rfl;apply rfl;infer_instance;apply rfl;apply rfl)|((first|apply T.gtr|apply T.neq|apply T.extract);(iterate 3 apply rfl))|(apply T.pickF;(iterate 3 apply rfl))|(with_reducible first|refine Sr.nil ?_|refine S.seq ?_|refine S.reg ?_|refine S.skip ?_)|(apply T.ungV;apply rfl;(first|with_reducible rfl|decide))|(apply S.condFV;apply rfl;(first|with_reducible rfl|decide))|(with_reducible apply T.ofRet)|(apply SA.qn;(iterate 4 apply rfl);kernel_rfl)|(apply SA.en;apply rfl;apply rfl;kernel_rfl)|(apply SA.done;apply rfl;kernel_rfl)|(apply SK.intro;(first|exact fun _ h=>h|exact fun _ h=>St.psub h (by ((repeat (first|dsimp only [List.set_cons_zero]|dsimp only [List.set_cons_succ]));repeat' first|exact PSub.refl _|exact PSub.nil|(apply PSub.take;(repeat' first|(with_reducible exact Z0)|(with_reducible apply Z1)))|(with_reducible apply PSub.drop)|((apply PSub.take);(repeat' first|exact Z0|(apply Z1)))))))|fail)
  rcases h2 with ⟨rfl,rfl,rfl⟩|⟨rfl,rfl,rfl⟩
  ·(apply S.draw;(case Hs=>exact .blk p (jrV t o n m a s k c b) 136::H);(case es=>exact  [9]);(case n=>exact  11);(case hn=>rfl))
   repeat' (first|(apply T.ssliceL;apply rfl;apply rfl;omega;apply rfl)|(apply T.call;apply rfl;apply rfl;with_reducible exact d2;rintro _ _ ⟨rfl,rfl⟩)|(apply T.call;apply rfl;apply rfl;with_reducible exact Zx;rintro _ _ ⟨rfl,rfl⟩)|((first|apply T.slen|apply T.mv|apply T.asn|apply T.nilCheck|apply T.fieldAddrZ);apply rfl;apply rfl)|(apply T.load;apply rfl;apply rfl;infer_instance;apply rfl;apply rfl)|(apply T.notB;apply rfl;apply rfl)|(with_reducible first|refine Sr.nil ?_|refine S.seq ?_|refine S.reg ?_)|(apply S.condTV;apply rfl;(first|with_reducible rfl|decide))|(apply T.retW;apply rfl)|(with_reducible apply T.ofRet)|(apply SA.qn;(iterate 4 apply rfl);kernel_rfl)|(apply SA.en;apply rfl;apply rfl;kernel_rfl)|(apply SA.done;apply rfl;kernel_rfl)|(apply SK.intro;(first|exact fun _ h=>h|exact fun _ h=>St.psub h (by ((repeat (first|dsimp only [List.set_cons_zero]|dsimp only [List.set_cons_succ]));repeat' first|exact PSub.refl _|exact PSub.nil|(apply PSub.take;(repeat' first|(with_reducible exact Z0)|(with_reducible apply Z1)))|(with_reducible apply PSub.drop)|((apply PSub.take);(repeat' first|exact Z0|(apply Z1)))))))|fail)
   exact ⟨_,PSub.refl _,rfl,rfl⟩
  ·(apply S.draw;(case Hs=>exact .blk p (jrV t o n m q s k c b) 136::H);(case es=>exact  [9]);(case n=>exact  11);(case hn=>rfl))
   repeat' (first|(apply T.ssliceL;apply rfl;apply rfl;omega;apply rfl)|(apply T.call;apply rfl;apply rfl;with_reducible exact d2;rintro _ _ ⟨rfl,rfl⟩)|(apply T.call;apply rfl;apply rfl;with_reducible exact Zx;rintro _ _ ⟨rfl,rfl⟩)|((first|apply T.mv|apply T.asn|apply T.nilCheck|apply T.fieldAddrZ);apply rfl;apply rfl)|(apply T.load;apply rfl;apply rfl;infer_instance;apply rfl;apply rfl)|(apply T.notB;apply rfl;apply rfl)|(with_reducible first|refine Sr.nil ?_|refine S.seq ?_|refine S.reg ?_|refine S.skip ?_)|(apply S.condFV;apply rfl;(first|with_reducible rfl|decide))|(apply T.retW;apply rfl)|(with_reducible apply T.ofRet)|(apply SA.qn;(iterate 4 apply rfl);kernel_rfl)|(apply SA.en;apply rfl;apply rfl;kernel_rfl)|(apply SA.done;apply rfl;kernel_rfl)|(apply SK.intro;(first|exact fun _ h=>h|exact fun _ h=>St.psub h (by ((repeat (first|dsimp only [List.set_cons_zero]|dsimp only [List.set_cons_succ]));repeat' first|exact PSub.refl _|exact PSub.nil|(apply PSub.take;(repeat' first|(with_reducible exact Z0)|(with_reducible apply Z1)))|(with_reducible apply PSub.drop)|((apply PSub.take);(repeat' first|exact Z0|(apply Z1)))))))|fail)
   exact ⟨_,PSub.refl _,rfl,rfl⟩
end
end Go.Proofs.YthomgjihagigcaaGreatDoor
/- The walks of the program's reader of JSON: strings. -/
namespace Go.Proofs.YthomgjihagigcaaGreatDoor
open Sg Go.IntWalk
set_option maxRecDepth 100000
set_option maxHeartbeats 4000000
section
variable {F:World} {M:List Nat} {H:List Res} {p:Nat} {t:List UInt8} {o n m:Value} {a s:Nat} {k:List UInt8} {c b:Int}
def JrS (p:Nat) (t:List UInt8) (o n m:Value) (s:Nat) (k:List UInt8) (c b:Int) (H:List Res):Gt (List UInt8)→Ending→List Res→Prop
 | .ok a' x=>fun e H'=>e=.returned (.tuple ⟨[sV x,.bool true]⟩)∧H'=.blk p (jrV t o n m a' s k c b) 136::H
 | .bad c' b'=>fun e H'=>∃ a':Nat,e=.returned (.tuple ⟨[sV [],.bool false]⟩)∧H'=.blk p (jrV t o n m a' s k c' b') 136::H
theorem Z25 {f q:Nat} {acc:List UInt8} {ch:UInt8} (hc:t[q]?=some ch):ZI t (f+1) q acc=if ch.toNat < 32 then .bad 31 q else if ch.toNat=34 then .ok (q+1) acc else if ch.toNat=92 then (escX t q).bind fun a u=>ZI t f a (acc++utfL u) else
  if ch.toNat < 128 then ZI t f (q+1) (acc++[ch]) else (Z0g t q ch).bind fun a _=>ZI t f a (acc++(t.drop q).take (a - q)):=by
 have e1:(ch < 32)=(ch.toNat < 32):=rfl
 have e2:(ch=34)=(ch.toNat=34):=propext UInt8.toNat_inj.symm
 have e3:(ch=92)=(ch.toNat=92):=propext UInt8.toNat_inj.symm
 have e4:(ch < 128)=(ch.toNat < 128):=rfl
 rw [ZI,hc]
 simp only
 by_cases h1:ch.toNat < 32
 ·rw [if_pos h1,if_pos (e1 ▸ h1)]
 rw [if_neg h1,if_neg (by rw [e1];exact h1)]
 by_cases h2:ch.toNat=34
 ·rw [if_pos h2,if_pos (by rw [e2];exact h2)]
 rw [if_neg h2,if_neg (by rw [e2];exact h2)]
 by_cases h3:ch.toNat=92
 ·rw [if_pos h3,if_pos (by rw [e3];exact h3)]
 rw [if_neg h3,if_neg (by rw [e3];exact h3)]
 by_cases h4:ch.toNat < 128
 ·rw [if_pos h4,if_pos (by rw [e4];exact h4)]
 rw [if_neg h4,if_neg (by rw [e4];exact h4)]
theorem Z35 (u:Nat):1≤(utfL u).length∧(utfL u).length≤4:=by
 unfold utfL
 repeat' split
 all_goals simp
theorem Z23 (hT:Tabs F M) (ha:a < t.length) (hl:t.length≤262144):Meets Tryz.prog 120 [.pointer (some ⟨p,0,none⟩)] F M (.blk p (jrV t o n m a s k c b) 136::H) (JrS p t o n m s k c b H (Zo t (a+1))):=by
 refine Meets.enter Tryz.func120 rfl rfl ?_
 refine S.nilrow 5 1 ?_
 refine S.front p ?_
 repeat' (first|((first|apply T.mv|apply T.asn|apply T.nilCheck|apply T.fieldAddrZ);apply rfl;apply rfl)|(apply T.load;apply rfl;apply rfl;infer_instance;apply rfl;apply rfl)|(apply T.addI;apply rfl;apply rfl;omega;apply rfl)|(apply T.store;apply rfl;apply rfl;infer_instance;(first|decide|(simp;omega)|simp);apply rfl)|(with_reducible first|refine Sr.nil ?_|refine S.seq ?_|refine S.block ?_|refine S.reg ?_)|fail)
 refine S.loopE 2 [0] (fun R b' μ H' e=>∃ (q f:Nat) (acc:List UInt8) (ad:Option Addr) (cp nn:Nat),H'=.blk p (jrV t o n m q s k c b) 136::.row ad cp 5 1 nn (acc.map bV)::R∧e=(4,.slice ad nn cp)::b'∧(q≤t.length∧t.length < q+f∧acc.length=nn∧nn≤4*q∧Zo t (a+1)=ZI t f q acc)∧μ=t.length - q) rfl rfl ?_ _ _ ⟨a+1,t.length+1 - (a+1),[],none,0,0,rfl,rfl,⟨by omega,by omega,rfl,by omega,rfl⟩,rfl⟩ (by repeat' first|exact trivial|refine And.intro rfl ?_)
 rintro _ _ _ ⟨q,f,acc,ad,cp,nn,rfl,rfl,⟨h1,h2,h3,h4,h5⟩,rfl⟩ ih
 subst h3
 obtain ⟨f,rfl⟩:∃ g,f=g+1:=⟨f - 1,by omega⟩
 rcases Nat.lt_or_ge q t.length with h6|h6
 ·have hq:t[q]?=some (t.getD q 0):=by simp [List.getD,h6]
  have hu:=(t.getD q 0).toNat_lt
  rw [Z25 hq] at h5
  by_cases c1:(t.getD q 0).toNat < 32
  ·rw [if_pos c1] at h5
   rw [h5]
   repeat' (first|((first|apply T.slen|apply T.mv|apply T.asn|apply T.nilCheck|apply T.fieldAddrZ);apply rfl;apply rfl)|(apply T.sidx;apply rfl;apply rfl;omega;apply rfl)|(apply T.load;apply rfl;apply rfl;infer_instance;apply rfl;apply rfl)|((first|apply T.lss|apply T.eql);(iterate 3 apply rfl))|(with_reducible first|refine Sr.nil ?_|refine S.seq ?_|refine S.block ?_|refine S.reg ?_|refine S.skip ?_)|(apply S.quiet;apply rfl;kernel_rfl)|(apply S.condQ;apply rfl;all_goals (intro _;try (exfalso;first|omega|with_reducible contradiction)))|fail)
   refine T.call rfl rfl Zp ?_
   rintro _ _ ⟨rfl,rfl⟩
   repeat' (first|(apply T.asn;apply rfl;apply rfl)|with_reducible refine Sr.nil ?_|(apply T.retW;apply rfl)|(with_reducible apply T.ofRet)|fail)
   exact ⟨_,by ((repeat (first|dsimp only [List.set_cons_zero]|dsimp only [List.set_cons_succ]));repeat' first|exact PSub.refl _|exact PSub.nil|(with_reducible apply PSub.app)|(apply PSub.take;(repeat' first|(with_reducible exact Z0)|(with_reducible apply Z1)))|(with_reducible apply PSub.drop)|((apply PSub.take);(repeat' first|exact Z0|(apply Z1)))),q,rfl,rfl⟩
  rw [if_neg c1] at h5
  by_cases c2:(t.getD q 0).toNat=34
  ·rw [if_pos c2] at h5
   rw [h5]
   repeat' (first|((first|apply T.slen|apply T.mv|apply T.asn|apply T.nilCheck|apply T.fieldAddrZ);apply rfl;apply rfl)|(apply T.sidx;apply rfl;apply rfl;omega;apply rfl)|(apply T.convS;apply rfl;infer_instance;(first|rfl|assumption|exact beN_len _ _|(simp;done)|(simp;omega));apply rfl)|(apply T.load;apply rfl;apply rfl;infer_instance;apply rfl;apply rfl)|(apply T.eql;(iterate 3 apply rfl))|(apply T.addI;apply rfl;apply rfl;omega;apply rfl)|(apply T.store;apply rfl;apply rfl;infer_instance;(first|decide|(simp;omega)|simp);apply rfl)|(with_reducible first|refine Sr.nil ?_|refine S.seq ?_|refine S.block ?_|refine S.reg ?_|refine S.skip ?_)|(apply S.quiet;apply rfl;kernel_rfl)|(apply S.condQ;apply rfl;all_goals (intro _;try (exfalso;first|omega|with_reducible contradiction)))|(apply T.retW;apply rfl)|fail)
   exact ⟨_,PSub.take Z0 (PSub.drop (PSub.refl _)),rfl,rfl⟩
  rw [if_neg c2] at h5
  by_cases c3:(t.getD q 0).toNat=92
  ·rw [if_pos c3] at h5
   repeat' (first|((first|apply T.slen|apply T.mv|apply T.asn|apply T.nilCheck|apply T.fieldAddrZ);apply rfl;apply rfl)|(apply T.sidx;apply rfl;apply rfl;omega;apply rfl)|(apply T.load;apply rfl;apply rfl;infer_instance;apply rfl;apply rfl)|(apply T.eql;(iterate 3 apply rfl))|(with_reducible first|refine Sr.nil ?_|refine S.seq ?_|refine S.block ?_|refine S.reg ?_|refine S.skip ?_)|(apply S.quiet;apply rfl;kernel_rfl)|(apply S.condQ;apply rfl;all_goals (intro _;try (exfalso;first|omega|with_reducible contradiction)))|fail)
   refine T.call rfl rfl (Z4J h6 (by omega)) ?_
   have hfit:=Z0n (t:=t) (fr:=q)
   have hrune:=fun a u=>Z6R (t:=t) (fr:=q) (a:=a) (u:=u)
   cases hx:escX t q with
   | bad e1 q1 =>
    rw [hx] at h5
    rw [h5]
    rintro _ _ ⟨a1,z,hz,rfl,rfl⟩
    repeat' (first|((first|apply T.mv|apply T.asn);apply rfl;apply rfl)|(apply T.extract;(iterate 3 apply rfl))|(apply T.notB;apply rfl;apply rfl)|(with_reducible first|refine Sr.nil ?_|refine S.seq ?_|refine S.reg ?_)|(apply S.condTV;apply rfl;(first|with_reducible rfl|decide))|(apply T.retW;apply rfl)|(with_reducible apply T.ofRet)|fail)
    exact ⟨_,by ((repeat (first|dsimp only [List.set_cons_zero]|dsimp only [List.set_cons_succ]));repeat' first|exact PSub.refl _|exact PSub.nil|(with_reducible apply PSub.app)|(apply PSub.take;(repeat' first|(with_reducible exact Z0)|(with_reducible apply Z1)))|(with_reducible apply PSub.drop)|((apply PSub.take);(repeat' first|exact Z0|(apply Z1)))),a1,rfl,rfl⟩
   | ok a1 u =>
    rw [hx] at h5
    obtain ⟨r1,r2⟩:=hrune a1 u hx
    obtain ⟨r3,r4⟩:=hfit a1 u hx
    rintro _ _ ⟨rfl,rfl⟩
    repeat' (first|((first|apply T.mv|apply T.asn);apply rfl;apply rfl)|(apply T.extract;(iterate 3 apply rfl))|(apply T.notB;apply rfl;apply rfl)|(with_reducible first|refine Sr.nil ?_|refine S.seq ?_|refine S.reg ?_|refine S.skip ?_)|(apply S.condFV;apply rfl;(first|with_reducible rfl|decide))|(with_reducible apply T.ofRet)|fail)
    refine Sr.frontR ad ?_
    refine T.call rfl rfl (Z2q (by omega) r1 r2) ?_
    rintro _ _ ⟨ad',cp',mm,rfl,rfl,rfl⟩
    repeat' (first|(apply T.asn;apply rfl;apply rfl)|(with_reducible first|refine Sr.nil ?_|refine S.inBlock ?_)|(with_reducible apply T.ofRet)|fail)
    refine S.front p ?_
    have hle:=Z35 u
    exact ih _ _ _ _ ⟨a1,f,acc++utfL u,ad',cp',_,rfl,rfl,⟨r4,by omega,by rw [List.length_append],by omega,h5⟩,rfl⟩ (by omega) (by repeat' first|exact trivial|refine And.intro rfl ?_)
  rw [if_neg c3] at h5
  by_cases c4:(t.getD q 0).toNat < 128
  ·rw [if_pos c4] at h5
   repeat' (first|((first|apply T.slen|apply T.mv|apply T.asn|apply T.nilCheck|apply T.fieldAddrZ);apply rfl;apply rfl)|(apply T.sidx;apply rfl;apply rfl;omega;apply rfl)|(apply T.load;apply rfl;apply rfl;infer_instance;apply rfl;apply rfl)|((first|apply T.lss|apply T.eql);(iterate 3 apply rfl))|(apply T.addI;apply rfl;apply rfl;omega;apply rfl)|(apply T.store;apply rfl;apply rfl;infer_instance;(first|decide|(simp;omega)|simp);apply rfl)|(apply T.bs;(iterate 6 apply rfl);intro nb)|(apply T.appendB;apply rfl;apply rfl;infer_instance;apply rfl;(constructor<;>omega);apply rfl;intro na nc)|(with_reducible first|refine Sr.nil ?_|refine S.seq ?_|refine S.block ?_|refine S.reg ?_|refine S.skip ?_|refine S.inBlock ?_)|(apply S.quiet;apply rfl;kernel_rfl)|(apply S.condQ;apply rfl;all_goals (intro _;try (exfalso;first|omega|with_reducible contradiction)))|fail)
   exact ih _ _ _ _ ⟨q+1,f,acc++[t.getD q 0],na,nc,_,rfl,rfl,⟨by omega,by omega,by simp,by omega,h5⟩,rfl⟩ (by omega) (by repeat' first|exact trivial|refine And.intro rfl ?_)
  rw [if_neg c4] at h5
  repeat' (first|((first|apply T.slen|apply T.mv|apply T.asn|apply T.nilCheck|apply T.fieldAddrZ);apply rfl;apply rfl)|(apply T.sidx;apply rfl;apply rfl;omega;apply rfl)|(apply T.load;apply rfl;apply rfl;infer_instance;apply rfl;apply rfl)|((first|apply T.lss|apply T.eql);(iterate 3 apply rfl))|(with_reducible first|refine Sr.nil ?_|refine S.seq ?_|refine S.block ?_|refine S.reg ?_|refine S.skip ?_)|(apply S.quiet;apply rfl;kernel_rfl)|(apply S.condQ;apply rfl;all_goals (intro _;try (exfalso;first|omega|with_reducible contradiction)))|fail)
  refine T.call rfl rfl (Z38 hT hq (by omega) (by omega)) ?_
  have hfit:=ZY (t:=t) (p:=q) (c:=t.getD q 0) h6
  cases hx:Z0g t q (t.getD q 0) with
  | bad e1 q1 =>
   rw [hx] at h5
   rw [h5]
   rintro _ _ ⟨rfl,rfl⟩
   repeat' (first|((first|apply T.mv|apply T.asn);apply rfl;apply rfl)|(apply T.extract;(iterate 3 apply rfl))|(apply T.notB;apply rfl;apply rfl)|(with_reducible first|refine Sr.nil ?_|refine S.seq ?_|refine S.reg ?_)|(apply S.condTV;apply rfl;(first|with_reducible rfl|decide))|(apply T.retW;apply rfl)|(with_reducible apply T.ofRet)|fail)
   exact ⟨_,by ((repeat (first|dsimp only [List.set_cons_zero]|dsimp only [List.set_cons_succ]));repeat' first|exact PSub.refl _|exact PSub.nil|(with_reducible apply PSub.app)|(apply PSub.take;(repeat' first|(with_reducible exact Z0)|(with_reducible apply Z1)))|(with_reducible apply PSub.drop)|((apply PSub.take);(repeat' first|exact Z0|(apply Z1)))),q,rfl,rfl⟩
  | ok a1 u =>
   rw [hx] at h5
   obtain ⟨r3,r4⟩:=hfit a1 u hx
   rintro _ _ ⟨rfl,rfl⟩
   have e1:(q:Int)+((a1 - q:Nat):Int)=((a1:Nat):Int):=by omega
   have hl2:((t.drop q).take (a1 - q)).length=a1 - q:=by rw [List.length_take,List.length_drop];omega
   repeat' (first|((first|apply T.mv|apply T.asn);apply rfl;apply rfl)|(apply T.extract;(iterate 3 apply rfl))|(apply T.notB;apply rfl;apply rfl)|(with_reducible first|refine Sr.nil ?_|refine S.seq ?_|refine S.reg ?_|refine S.skip ?_)|(apply S.condFV;apply rfl;(first|with_reducible rfl|decide))|(with_reducible apply T.ofRet)|fail)
   (apply S.draw;(case Hs=>exact .blk p (jrV t o n m q s k c b) 136::H);(case es=>exact  [16]);(case n=>exact  18);(case hn=>rfl))
   repeat' (first|(apply T.addI;apply rfl;apply rfl;omega;apply rfl;rw [e1])|(apply T.sslice;(iterate 3 apply rfl);omega;apply rfl)|(apply T.appendS;apply rfl;apply rfl;infer_instance;omega;apply rfl;intro na nc)|((first|apply T.mv|apply T.asn|apply T.nilCheck|apply T.fieldAddrZ);apply rfl;apply rfl)|(apply T.load;apply rfl;apply rfl;infer_instance;apply rfl;apply rfl)|(apply T.store;apply rfl;apply rfl;infer_instance;(first|decide|(simp;omega)|simp);apply rfl)|(with_reducible first|refine Sr.nil ?_|refine S.reg ?_|refine S.inBlock ?_)|(apply SA.qn;(iterate 4 apply rfl);kernel_rfl)|(apply SA.en;apply rfl;apply rfl;kernel_rfl)|(apply SA.done;apply rfl;kernel_rfl)|(apply SK.intro;(first|exact fun _ h=>h|exact fun _ h=>St.psub h (by ((repeat (first|dsimp only [List.set_cons_zero]|dsimp only [List.set_cons_succ]));repeat' first|exact PSub.refl _|exact PSub.nil|(apply PSub.take;(repeat' first|(with_reducible exact Z0)|(with_reducible apply Z1)))|(with_reducible apply PSub.drop)|((apply PSub.take);(repeat' first|exact Z0|(apply Z1)))))))|fail)
   exact ih _ _ _ _ ⟨a1,f,acc++(t.drop q).take (a1 - q),na,nc,_,rfl,rfl,⟨r4,by omega,by rw [List.length_append],by omega,h5⟩,rfl⟩ (by omega) (by repeat' first|exact trivial|refine And.intro rfl ?_)
 ·obtain rfl:q=t.length:=by omega
  have h7:ZI t (f+1) t.length acc=.bad 31 t.length:=by rw [ZI,List.getElem?_eq_none (Nat.le_refl _)]
  rw [h5,h7]
  repeat' (first|((first|apply T.slen|apply T.mv|apply T.nilCheck|apply T.fieldAddrZ);apply rfl;apply rfl)|(apply T.load;apply rfl;apply rfl;infer_instance;apply rfl;apply rfl)|(apply T.eql;(iterate 3 apply rfl))|(with_reducible first|refine Sr.nil ?_|refine S.seq ?_|refine S.block ?_|refine S.reg ?_)|(apply S.quiet;apply rfl;kernel_rfl)|(apply S.condQ;apply rfl;all_goals (intro _;try (exfalso;first|omega|with_reducible contradiction)))|fail)
  refine T.call rfl rfl Zp ?_
  rintro _ _ ⟨rfl,rfl⟩
  repeat' (first|(apply T.asn;apply rfl;apply rfl)|with_reducible refine Sr.nil ?_|(apply T.retW;apply rfl)|(with_reducible apply T.ofRet)|fail)
  exact ⟨_,by ((repeat (first|dsimp only [List.set_cons_zero]|dsimp only [List.set_cons_succ]));repeat' first|exact PSub.refl _|exact PSub.nil|(with_reducible apply PSub.app)|(apply PSub.take;(repeat' first|(with_reducible exact Z0)|(with_reducible apply Z1)))|(with_reducible apply PSub.drop)|((apply PSub.take);(repeat' first|exact Z0|(apply Z1)))),_,rfl,rfl⟩
end
end Go.Proofs.YthomgjihagigcaaGreatDoor
/- The walks of the program's numbers: their parts, whole ones. -/
namespace Go.Proofs.YthomgjihagigcaaGreatDoor
open Sg Go.IntWalk
set_option maxRecDepth 100000
set_option maxHeartbeats 2000000
section
variable {F:World} {M:List Nat} {H:List Res}
theorem Z2d {s pr:List UInt8} {c:UInt8} (hp:pr=[c]) (hl:s.length≤1000000000):Meets Tryz.prog 83 [sV s,sV pr] F M H (fun e H'=>e=.returned (.bool (cutP c s).2)∧H'=H):=by
 refine Meets.enter Tryz.func83 rfl rfl ?_
 have h1:pr.length=1:=by rw [hp];rfl
 have e2:s.length≠0→decide (s.take pr.length=pr)=(cutP c s).2:=by
  intro h0
  cases s with
  | nil=>exact absurd rfl h0
  | cons x r =>
   rw [hp]
   unfold cutP
   by_cases h:x=c
   ·simp [h]
   ·simp [h]
 have e3:s.length=0→(cutP c s).2=false:=by
  intro h0
  rw [List.length_eq_zero_iff.1 h0]
  rfl
 by_cases h0:s.length=0
 ·rw [e3 h0]
  repeat' (first|((first|apply T.slen|apply T.mv|apply T.asn);apply rfl;apply rfl)|(apply T.geq;(iterate 3 apply rfl))|(apply T.pickF;(iterate 3 apply rfl))|(with_reducible first|refine Sr.nil ?_|refine S.seq ?_|refine S.reg ?_)|(apply T.skip;apply rfl;(first|with_reducible rfl|decide);apply rfl)|(apply T.gcase;apply rfl;apply rfl;all_goals (intro _;try (exfalso;first|omega|with_reducible contradiction)))|(apply T.retW;apply rfl)|fail)
  exact ⟨_,PSub.refl _,rfl,rfl⟩
 ·rw [←e2 h0]
  repeat' (first|(refine T.ssliceH (j:=pr.length) rfl rfl (by omega) rfl ?_)|(apply T.seql;(iterate 3 apply rfl))|((first|apply T.slen|apply T.mv|apply T.asn);apply rfl;apply rfl)|(apply T.geq;(iterate 3 apply rfl))|(apply T.pickT;(iterate 3 apply rfl))|(with_reducible first|refine Sr.nil ?_|refine S.seq ?_|refine S.reg ?_)|(apply T.ungV;apply rfl;(first|with_reducible rfl|decide))|(apply T.gcase;apply rfl;apply rfl;all_goals (intro _;try (exfalso;first|omega|with_reducible contradiction)))|(apply T.retW;apply rfl)|fail)
  all_goals exact ⟨_,PSub.refl _,rfl,rfl⟩
theorem Z0L {s pr:List UInt8} {c:UInt8} (hp:pr=[c]) (hl:s.length≤1000000000):Meets Tryz.prog 93 [sV s,sV pr] F M H (fun e H'=>e=.returned (.tuple ⟨[sV (cutP c s).1,.bool (cutP c s).2]⟩)∧H'=H):=by
 have h1:pr.length=1:=by rw [hp];rfl
 have inner:Meets Tryz.prog 107 [sV s,sV pr] F M H (fun e H'=>e=.returned (.tuple ⟨[sV (cutP c s).1,.bool (cutP c s).2]⟩)∧H'=H):=by
  refine Meets.enter Tryz.func107 rfl rfl ?_
  have c1:=Z2d (F:=F) (M:=M) (H:=H) hp hl
  cases hc:(cutP c s).2 with
  | false =>
   have h2:(cutP c s).1=s:=by
    unfold cutP at hc ⊢
    split at hc
    ·split at hc
     ·cases hc
     ·rename_i h
      rw [if_neg h]
    ·rfl
   rw [hc] at c1
   rw [h2]
   repeat' (first|((first|apply T.mv|apply T.asn);apply rfl;apply rfl)|(with_reducible first|refine Sr.nil ?_|refine S.seq ?_|refine S.reg ?_)|fail)
   refine T.call rfl rfl c1 ?_
   rintro _ _ ⟨rfl,hH⟩
   have hH2:=hH.symm
   subst hH2
   repeat' (first|((first|apply T.mv|apply T.asn);apply rfl;apply rfl)|(apply T.notB;apply rfl;apply rfl)|(with_reducible first|refine Sr.nil ?_|refine S.seq ?_|refine S.reg ?_)|(apply S.condTV;apply rfl;(first|with_reducible rfl|decide))|(apply T.retW;apply rfl)|(with_reducible apply T.ofRet)|fail)
   exact ⟨_,PSub.refl _,rfl,rfl⟩
  | true =>
   have h2:(cutP c s).1=s.drop pr.length∧pr.length≤s.length:=by
    rw [h1]
    unfold cutP at hc ⊢
    split at hc
    ·split at hc
     ·rename_i h
      rw [if_pos h]
      exact ⟨rfl,by simp⟩
     ·cases hc
    ·cases hc
   rw [hc] at c1
   rw [h2.1]
   have h3:=h2.2
   repeat' (first|((first|apply T.mv|apply T.asn);apply rfl;apply rfl)|(with_reducible first|refine Sr.nil ?_|refine S.seq ?_|refine S.reg ?_)|fail)
   refine T.call rfl rfl c1 ?_
   rintro _ _ ⟨rfl,hH⟩
   have hH2:=hH.symm
   subst hH2
   repeat' (first|(refine T.ssliceL (i:=pr.length) rfl rfl h3 rfl ?_)|((first|apply T.slen|apply T.mv|apply T.asn);apply rfl;apply rfl)|(apply T.notB;apply rfl;apply rfl)|(with_reducible first|refine Sr.nil ?_|refine S.seq ?_|refine S.reg ?_|refine S.skip ?_)|(apply S.condFV;apply rfl;(first|with_reducible rfl|decide))|(apply T.retW;apply rfl)|(with_reducible apply T.ofRet)|fail)
   exact ⟨_,PSub.refl _,rfl,rfl⟩
 refine Meets.enter Tryz.func93 rfl rfl ?_
 repeat' (first|((first|apply T.mv|apply T.asn);apply rfl;apply rfl)|(with_reducible first|refine Sr.nil ?_|refine S.seq ?_|refine S.reg ?_)|fail)
 refine T.call rfl rfl inner ?_
 rintro _ _ ⟨rfl,hH⟩
 have hH2:=hH.symm
 subst hH2
 repeat' (first|(apply T.asn;apply rfl;apply rfl)|(apply T.extract;(iterate 3 apply rfl))|with_reducible refine Sr.nil ?_|(apply T.retW;apply rfl)|(with_reducible apply T.ofRet)|fail)
 exact ⟨_,PSub.refl _,rfl,rfl⟩
theorem Z1x {s:List UInt8} {c:UInt8} (hl:s.length≤1000000000):Meets Tryz.prog 108 [sV s,.int .u8 (c.toNat:Nat)] F M H (fun e H'=>∃ r,e=.returned (sV r)∧H'=H∧r.length≤s.length):=by
 refine Meets.enter Tryz.func108 rfl rfl ?_
 repeat' (first|(apply T.asn;apply rfl;apply rfl)|(with_reducible first|refine Sr.nil ?_|refine S.seq ?_|refine S.block ?_|refine S.reg ?_)|fail)
 refine S.loopE 0 [1] (fun R b' μ H' e=>∃ r:List UInt8,H'=R∧e=(0,sV r)::b'∧r.length≤s.length∧μ=r.length) rfl rfl ?_ _ _ ⟨s,rfl,rfl,Nat.le_refl _,rfl⟩ (by repeat' first|exact trivial|refine And.intro rfl ?_)
 rintro _ _ _ ⟨r,rfl,rfl,h1,rfl⟩ ih
 by_cases h0:r.length=0
 ·repeat' (first|((first|apply T.slen|apply T.mv|apply T.asn);apply rfl;apply rfl)|(apply T.gtr;(iterate 3 apply rfl))|(apply T.pickF;(iterate 3 apply rfl))|(with_reducible first|refine Sr.nil ?_|refine S.seq ?_|refine S.reg ?_)|(apply S.exit;apply rfl)|(apply T.skip;apply rfl;(first|with_reducible rfl|decide);apply rfl)|(apply S.condFV;apply rfl;(first|with_reducible rfl|decide))|(apply T.gcase;apply rfl;apply rfl;all_goals (intro _;try (exfalso;first|omega|with_reducible contradiction)))|(apply T.retW;apply rfl)|fail)
  exact ⟨_,PSub.refl _,r,rfl,rfl,h1⟩
 ·repeat' (first|(refine T.sidx (i:=0) rfl rfl (by omega) rfl ?_)|(refine T.ssliceL (i:=1) rfl rfl (by omega) rfl ?_)|((first|apply T.slen|apply T.mv|apply T.asn);apply rfl;apply rfl)|((first|apply T.gtr|apply T.eql);(iterate 3 apply rfl))|(apply T.pickT;(iterate 3 apply rfl))|(with_reducible first|refine Sr.nil ?_|refine S.seq ?_|refine S.block ?_|refine S.reg ?_|refine S.skip ?_|refine S.inBlock ?_)|(apply S.exit;apply rfl)|(apply T.ungV;apply rfl;(first|with_reducible rfl|decide))|(apply S.condQ;apply rfl;all_goals (intro _;try (exfalso;first|omega|with_reducible contradiction)))|(apply T.gcase;apply rfl;apply rfl;all_goals (intro _;try (exfalso;first|omega|with_reducible contradiction)))|(apply T.retW;apply rfl)|fail)
  all_goals first
   | exact ⟨_,PSub.refl _,r,rfl,rfl,h1⟩
   | exact ih _ _ _ _ ⟨r.drop 1,rfl,rfl,by rw [List.length_drop];omega,rfl⟩ (by rw [List.length_drop];omega) (by repeat' first|exact trivial|refine And.intro rfl ?_)
theorem Z1g {s:List UInt8} {c:UInt8} (hl:s.length≤1000000000):Meets Tryz.prog 112 [sV s,.int .u8 (c.toNat:Nat)] F M H (fun e H'=>∃ r,e=.returned (sV r)∧H'=H∧r.length≤s.length):=by
 refine Meets.enter Tryz.func112 rfl rfl ?_
 repeat' (first|(apply T.asn;apply rfl;apply rfl)|(with_reducible first|refine Sr.nil ?_|refine S.seq ?_|refine S.block ?_|refine S.reg ?_)|fail)
 refine S.loopE 0 [1] (fun R b' μ H' e=>∃ r:List UInt8,H'=R∧e=(0,sV r)::b'∧r.length≤s.length∧μ=r.length) rfl rfl ?_ _ _ ⟨s,rfl,rfl,Nat.le_refl _,rfl⟩ (by repeat' first|exact trivial|refine And.intro rfl ?_)
 rintro _ _ _ ⟨r,rfl,rfl,h1,rfl⟩ ih
 by_cases h0:r.length=0
 ·repeat' (first|((first|apply T.slen|apply T.mv|apply T.asn);apply rfl;apply rfl)|(apply T.gtr;(iterate 3 apply rfl))|(apply T.pickF;(iterate 3 apply rfl))|(with_reducible first|refine Sr.nil ?_|refine S.seq ?_|refine S.reg ?_)|(apply S.exit;apply rfl)|(apply T.skip;apply rfl;(first|with_reducible rfl|decide);apply rfl)|(apply S.condFV;apply rfl;(first|with_reducible rfl|decide))|(apply T.gcase;apply rfl;apply rfl;all_goals (intro _;try (exfalso;first|omega|with_reducible contradiction)))|(apply T.retW;apply rfl)|fail)
  exact ⟨_,PSub.refl _,r,rfl,rfl,h1⟩
 ·have e1:(r.length:Int) - 1=((r.length - 1:Nat):Int):=by omega
  repeat' (first|(apply T.subI;apply rfl;apply rfl;omega;apply rfl;rw [e1])|(refine T.ssliceH (j:=r.length - 1) rfl rfl (by omega) rfl ?_)|((first|apply T.slen|apply T.mv|apply T.asn);apply rfl;apply rfl)|(apply T.sidx;apply rfl;apply rfl;omega;apply rfl)|((first|apply T.gtr|apply T.eql);(iterate 3 apply rfl))|(apply T.pickT;(iterate 3 apply rfl))|(with_reducible first|refine Sr.nil ?_|refine S.seq ?_|refine S.block ?_|refine S.reg ?_|refine S.skip ?_|refine S.inBlock ?_)|(apply S.exit;apply rfl)|(apply T.ungV;apply rfl;(first|with_reducible rfl|decide))|(apply S.condQ;apply rfl;all_goals (intro _;try (exfalso;first|omega|with_reducible contradiction)))|(apply T.gcase;apply rfl;apply rfl;all_goals (intro _;try (exfalso;first|omega|with_reducible contradiction)))|(apply T.retW;apply rfl)|fail)
  all_goals first
   | exact ⟨_,PSub.refl _,r,rfl,rfl,h1⟩
   | exact ih _ _ _ _ ⟨r.take (r.length - 1),rfl,rfl,by rw [List.length_take];omega,rfl⟩ (by rw [List.length_take];omega) (by repeat' first|exact trivial|refine And.intro rfl ?_)
theorem Z0c {s pr:List UInt8} {c:UInt8} (hp:pr=[c]) (hc:c.toNat < 128) (hl:s.length≤1000000000):Meets Tryz.prog 95 [sV s,sV pr] F M H (fun e H'=>∃ r,e=.returned (sV r)∧H'=H∧r.length≤s.length):=by
 refine Meets.enter Tryz.func95 rfl rfl ?_
 have h1:pr.length=1:=by rw [hp];rfl
 have h2:¬pr=[]:=by rw [hp];simp
 have h3:pr.getD 0 0=c:=by rw [hp];rfl
 by_cases h0:s=[]
 ·repeat' (first|(apply T.seql;(iterate 3 apply rfl))|((first|apply T.mv|apply T.asn);apply rfl;apply rfl)|(apply T.pickT;(iterate 3 apply rfl))|(with_reducible first|refine Sr.nil ?_|refine S.seq ?_|refine S.reg ?_)|(apply T.skip;apply rfl;(first|with_reducible rfl|decide);apply rfl)|(apply S.condTV;apply rfl;(first|with_reducible rfl|decide))|(apply T.gcase;apply rfl;apply rfl;all_goals (intro _;try (exfalso;first|omega|with_reducible contradiction)))|(apply T.retW;apply rfl)|fail)
  exact ⟨_,PSub.refl _,s,rfl,rfl,Nat.le_refl _⟩
 ·repeat' (first|(refine T.sidx (i:=0) rfl rfl (by omega) rfl ?_;rw [h3])|(apply T.seql;(iterate 3 apply rfl))|((first|apply T.slen|apply T.mv|apply T.asn);apply rfl;apply rfl)|(apply T.lss;(iterate 3 apply rfl))|(apply T.eql;(iterate 3 apply rfl))|(apply T.pickT;(iterate 3 apply rfl))|(apply T.pickF;(iterate 3 apply rfl))|(with_reducible first|refine Sr.nil ?_|refine S.seq ?_|refine S.reg ?_|refine S.skip ?_)|(apply T.ungV;apply rfl;(first|with_reducible rfl|decide))|(apply S.condQ;apply rfl;all_goals (intro _;try (exfalso;first|omega|with_reducible contradiction)))|(apply T.gcase;apply rfl;apply rfl;all_goals (intro _;try (exfalso;first|omega|with_reducible contradiction)))|fail)
  all_goals
   refine T.call rfl rfl (Z1x hl) ?_
   rintro _ _ ⟨r,rfl,hH,hr⟩
   have hH2:=hH.symm
   subst hH2
   repeat' (first|(apply T.asn;apply rfl;apply rfl)|with_reducible refine Sr.nil ?_|(apply T.retW;apply rfl)|(with_reducible apply T.ofRet)|fail)
   exact ⟨_,PSub.refl _,r,rfl,rfl,hr⟩
theorem Z1U {s pr:List UInt8} {c:UInt8} (hp:pr=[c]) (hc:c.toNat < 128) (hl:s.length≤1000000000):Meets Tryz.prog 96 [sV s,sV pr] F M H (fun e H'=>∃ r,e=.returned (sV r)∧H'=H∧r.length≤s.length):=by
 refine Meets.enter Tryz.func96 rfl rfl ?_
 have h1:pr.length=1:=by rw [hp];rfl
 have h2:¬pr=[]:=by rw [hp];simp
 have h3:pr.getD 0 0=c:=by rw [hp];rfl
 by_cases h0:s=[]
 ·repeat' (first|(apply T.seql;(iterate 3 apply rfl))|((first|apply T.mv|apply T.asn);apply rfl;apply rfl)|(apply T.pickT;(iterate 3 apply rfl))|(with_reducible first|refine Sr.nil ?_|refine S.seq ?_|refine S.reg ?_)|(apply T.skip;apply rfl;(first|with_reducible rfl|decide);apply rfl)|(apply S.condTV;apply rfl;(first|with_reducible rfl|decide))|(apply T.gcase;apply rfl;apply rfl;all_goals (intro _;try (exfalso;first|omega|with_reducible contradiction)))|(apply T.retW;apply rfl)|fail)
  exact ⟨_,PSub.refl _,s,rfl,rfl,Nat.le_refl _⟩
 ·repeat' (first|(refine T.sidx (i:=0) rfl rfl (by omega) rfl ?_;rw [h3])|(apply T.seql;(iterate 3 apply rfl))|((first|apply T.slen|apply T.mv|apply T.asn);apply rfl;apply rfl)|(apply T.lss;(iterate 3 apply rfl))|(apply T.eql;(iterate 3 apply rfl))|(apply T.pickT;(iterate 3 apply rfl))|(apply T.pickF;(iterate 3 apply rfl))|(with_reducible first|refine Sr.nil ?_|refine S.seq ?_|refine S.reg ?_|refine S.skip ?_)|(apply T.ungV;apply rfl;(first|with_reducible rfl|decide))|(apply S.condQ;apply rfl;all_goals (intro _;try (exfalso;first|omega|with_reducible contradiction)))|(apply T.gcase;apply rfl;apply rfl;all_goals (intro _;try (exfalso;first|omega|with_reducible contradiction)))|fail)
  all_goals
   refine T.call rfl rfl (Z1g hl) ?_
   rintro _ _ ⟨r,rfl,hH,hr⟩
   have hH2:=hH.symm
   subst hH2
   repeat' (first|(apply T.asn;apply rfl;apply rfl)|with_reducible refine Sr.nil ?_|(apply T.retW;apply rfl)|(with_reducible apply T.ofRet)|fail)
   exact ⟨_,PSub.refl _,r,rfl,rfl,hr⟩
theorem Z1O {s:List UInt8} (hl:s.length≤1000000000):Meets Tryz.prog 94 [sV s] F M H (fun e H'=>e=.returned (.int .i64 (runD s:Nat))∧H'=H):=by
 refine Meets.enter Tryz.func94 rfl rfl ?_
 have hr:runD s=Z3 s 0:=by unfold runD Z3;simp
 rw [hr]
 repeat' (first|(apply T.asn;apply rfl;apply rfl)|(with_reducible first|refine Sr.nil ?_|refine S.seq ?_|refine S.block ?_|refine S.reg ?_)|fail)
 refine S.loopE 0 [0] (fun R b' μ H' e=>∃ q:Nat,H'=R∧e=(3,.int .i64 q)::b'∧(q≤s.length∧Z3 s 0=Z3 s q)∧μ=s.length - q) rfl rfl ?_ _ _ ⟨0,rfl,rfl,⟨Nat.zero_le _,rfl⟩,rfl⟩ (by repeat' first|exact trivial|refine And.intro rfl ?_)
 rintro _ _ _ ⟨q,rfl,rfl,⟨h1,h2⟩,rfl⟩ ih
 have hb:bAt s q=(s.getD q 0).toNat:=rfl
 by_cases h3:q < s.length
 ·by_cases h4:48≤bAt s q∧bAt s q≤57
  ·have h5:=Z0K h4
   repeat' (first|((first|apply T.slen|apply T.mv|apply T.asn);apply rfl;apply rfl)|(apply T.sidx;apply rfl;apply rfl;omega;apply rfl)|((first|apply T.lss|apply T.leq|apply T.geq);(iterate 3 apply rfl))|(apply T.addI;apply rfl;apply rfl;omega;apply rfl)|(apply T.pickT;(iterate 3 apply rfl))|(with_reducible first|refine Sr.nil ?_|refine S.seq ?_|refine S.block ?_|refine S.reg ?_|refine S.skip ?_|refine S.inBlock ?_)|(apply T.ungV;apply rfl;(first|with_reducible rfl|decide))|(apply S.condQ;apply rfl;all_goals (intro _;try (exfalso;first|omega|with_reducible contradiction)))|(apply T.gcase;apply rfl;apply rfl;all_goals (intro _;try (exfalso;first|omega|with_reducible contradiction)))|fail)
   exact ih _ _ _ _ ⟨q+1,rfl,rfl,⟨by omega,h2.trans h5⟩,rfl⟩ (by omega) (by repeat' first|exact trivial|refine And.intro rfl ?_)
  ·rw [h2,Z0W h4]
   repeat' (first|((first|apply T.slen|apply T.mv|apply T.asn);apply rfl;apply rfl)|(apply T.sidx;apply rfl;apply rfl;omega;apply rfl)|((first|apply T.lss|apply T.leq|apply T.geq);(iterate 3 apply rfl))|(apply T.pickT;(iterate 3 apply rfl))|(apply T.pickF;(iterate 3 apply rfl))|(with_reducible first|refine Sr.nil ?_|refine S.seq ?_|refine S.reg ?_)|(apply S.exit;apply rfl)|(apply T.ungV;apply rfl;(first|with_reducible rfl|decide))|(apply T.skip;apply rfl;(first|with_reducible rfl|decide);apply rfl)|(apply S.condFV;apply rfl;(first|with_reducible rfl|decide))|(apply S.condQ;apply rfl;all_goals (intro _;try (exfalso;first|omega|with_reducible contradiction)))|(apply T.gcase;apply rfl;apply rfl;all_goals (intro _;try (exfalso;first|omega|with_reducible contradiction)))|(apply T.retW;apply rfl)|fail)
   all_goals exact ⟨_,PSub.refl _,rfl,rfl⟩
 ·rw [h2,Z0W (by rw [Z0e (by omega)];omega)]
  repeat' (first|((first|apply T.slen|apply T.mv|apply T.asn);apply rfl;apply rfl)|(apply T.lss;(iterate 3 apply rfl))|(apply T.pickF;(iterate 3 apply rfl))|(with_reducible first|refine Sr.nil ?_|refine S.seq ?_|refine S.reg ?_)|(apply S.exit;apply rfl)|(apply T.skip;apply rfl;(first|with_reducible rfl|decide);apply rfl)|(apply S.condFV;apply rfl;(first|with_reducible rfl|decide))|(apply T.gcase;apply rfl;apply rfl;all_goals (intro _;try (exfalso;first|omega|with_reducible contradiction)))|(apply T.retW;apply rfl)|fail)
  exact ⟨_,PSub.refl _,rfl,rfl⟩
end
end Go.Proofs.YthomgjihagigcaaGreatDoor
/- The walks of the program's numbers: read. -/
namespace Go.Proofs.YthomgjihagigcaaGreatDoor
open Sg Go.IntWalk
set_option maxRecDepth 100000
set_option maxHeartbeats 4000000
section
variable {F:World} {M:List Nat} {H:List Res}
abbrev numV (mi:Bool) (w d:List UInt8) (pt:Int) (pl dn:Bool) (ex:List UInt8):List Value:=[.bool mi,sV w,sV d,.int .i64 pt,.bool pl,.bool dn,sV ex]
theorem Z27 {s:List UInt8} (h:s.length=0):s=[]:=List.length_eq_zero_iff.1 h
theorem Z7w {s:List UInt8} (h:s.getD 0 0|||32=101):expP s=if Z1J (s.drop 1)=[]∨runD (Z1J (s.drop 1))≠(Z1J (s.drop 1)).length then none else some ([],false):=by
 cases s with
 | nil=>exact absurd h (by decide)
 | cons x r =>
  have h1:=(Z55 x).1 h
  unfold expP
  simp only [h1,if_true]
  rfl
theorem Z8a {s:List UInt8} (h:¬s.getD 0 0|||32=101):expP s=some (s,true):=by
 cases s with
 | nil=>rfl
 | cons x r =>
  have h1:¬(x=101∨x=69):=fun h2=>h ((Z55 x).2 h2)
  unfold expP
  simp only [h1,if_false]
theorem Z6d {s:List UInt8} (h:(s.getD 0 0).toNat=43∨(s.getD 0 0).toNat=45):Z1J s=s.drop 1:=by
 cases s with
 | nil=>rfl
 | cons x r =>
  have h1:x=43∨x=45:=h.imp (fun h=>UInt8.toNat_inj.1 h) (fun h=>UInt8.toNat_inj.1 h)
  unfold Z1J
  simp only [h1,if_true]
  rfl
theorem Z76 {s:List UInt8} (h:¬((s.getD 0 0).toNat=43∨(s.getD 0 0).toNat=45)):Z1J s=s:=by
 cases s with
 | nil=>rfl
 | cons x r =>
  have h1:¬(x=43∨x=45):=fun h2=>h (h2.imp (fun h=>by rw [List.getD_cons_zero,h];rfl) (fun h=>by rw [List.getD_cons_zero,h];rfl))
  unfold Z1J
  simp only [h1,if_false]
theorem Z3K {t:List UInt8} (hl:t.length≤2200000):Meets Tryz.prog 85 [sV t,.int .i64 0] F M H (fun e H'=>∃ (mi:Bool) (w d:List UInt8) (pt:Int) (pl dn:Bool) (ex:List UInt8),e=.returned (.tuple ⟨[.agg ⟨numV mi w d pt pl dn ex⟩,.bool (numP t).isSome]⟩)∧H'=H∧∀ x,numP t=some x→x=(mi,w,pl)):=by
 refine Meets.enter Tryz.func85 rfl rfl ?_
 have hc1:=Z3r 45 t
 have hN:numP t=if Z2b (cutP 45 t).1=true then none else
   match Z6L ((cutP 45 t).1.drop (runD (cutP 45 t).1)) with
   | none=>none
   | some (s3,p1)=>match expP s3 with
    | none=>none
    | some (s6,p2)=>if s6=[] then some ((cutP 45 t).2,(cutP 45 t).1.take (runD (cutP 45 t).1),p1&&p2) else none:=rfl
 generalize numP t=np at *
 refine S.seq ?_
 repeat' (first|(apply T.asn;apply rfl;apply rfl)|(apply T.alloc;apply rfl;intro nb)|(with_reducible first|refine Sr.nil ?_|refine S.reg ?_)|fail)
 revert nb
 intro b4
 refine S.seq ?_
 repeat' (first|(apply T.buildL;(iterate 3 apply rfl))|(apply T.storeW;apply rfl;apply rfl;infer_instance;(first|rfl|(simp only [List.length_append,List.length_map,List.length_set,List.length_replicate,List.length_cons,List.length_nil];first|done|omega));(first|rfl|(simp only [List.length_append,List.length_map,List.length_set,List.length_replicate,List.length_cons,List.length_nil];first|done|omega));(first|rfl|(repeat' first|apply all_nV|apply all_bV|apply all_iV|rfl|apply all_app)))|(apply T.alloc;apply rfl;intro nb)|(with_reducible first|refine Sr.nil ?_|refine S.reg ?_)|fail)
 revert nb
 intro b6
 refine S.seq ?_
 repeat' (first|(apply T.asn;apply rfl;apply rfl)|(with_reducible first|refine Sr.nil ?_|refine S.reg ?_)|fail)
 refine S.seq ?_
 refine S.seq ?_
 repeat' (first|(apply T.mv;apply rfl;apply rfl)|(with_reducible first|refine Sr.nil ?_|refine S.reg ?_)|fail)
 refine S.cut (fun H' e'=>∃ (mi:Bool) (w s6 bh:List UInt8) (pl dn:Bool) (ex:List UInt8),H'=.blk b6 (numV mi w [] 0 pl dn ex) 126::.blk b4 (numV false [] [] 0 false false []) 126::H∧e'=[(0,sV s6),(4,.pointer (some ⟨b4,0,none⟩)),(6,.pointer (some ⟨b6,0,none⟩)),(7,sV bh),(5,.bool false)]∧w.length≤2200000∧bh.length≤2200000∧ex.length≤2200000∧np=if s6=[] then some (mi,w,pl) else none) ?_ ?_
 ·intro k' hrest
  refine S.block ?_
  refine S.seq ?_
  refine S.cut (fun H' e'=>∃ (mi:Bool) (w s3 bh:List UInt8) (pl:Bool),H'=.blk b6 (numV mi w [] 0 pl false []) 126::.blk b4 (numV false [] [] 0 false false []) 126::H∧e'=[(0,sV s3),(4,.pointer (some ⟨b4,0,none⟩)),(6,.pointer (some ⟨b6,0,none⟩)),(7,sV bh),(5,.bool false)]∧w.length≤2200000∧bh.length≤2200000∧s3.length≤2200000∧np=match expP s3 with
   | none=>none
   | some (s6,p2)=>if s6=[] then some (mi,w,pl&&p2) else none) ?_ ?_
  ·intro k'' hmid
   repeat' (first|((first|apply T.mv|apply T.asn);apply rfl;apply rfl)|(apply T.eql;(iterate 3 apply rfl))|(with_reducible first|refine Sr.nil ?_|refine S.seq ?_|refine S.block ?_|refine S.reg ?_)|(apply S.exit;apply rfl)|(apply S.condTV;apply rfl;(first|with_reducible rfl|decide))|fail)
   refine T.call rfl rfl (Z0L (pr:=[45]) (c:=45) rfl (by omega)) ?_
   rintro _ _ ⟨rfl,hH⟩
   have hH2:=hH.symm
   subst hH2
   generalize (cutP 45 t).1=s1 at *
   generalize (cutP 45 t).2=mi at *
   have hk:=Z1y s1
   have u0:(s1.getD 0 0).toNat=bAt s1 0:=rfl
   repeat' (first|((first|apply T.mv|apply T.asn|apply T.fieldAddrZ);apply rfl;apply rfl)|(apply T.extract;(iterate 3 apply rfl))|(apply T.store;apply rfl;apply rfl;infer_instance;(first|decide|(simp;omega)|simp);apply rfl)|(with_reducible first|refine Sr.nil ?_|refine S.seq ?_|refine S.reg ?_|refine S.inBlock ?_)|(with_reducible apply T.ofRet)|fail)
   refine T.call rfl rfl (Z1O (s:=s1) (by omega)) ?_
   rintro _ _ ⟨rfl,hH⟩
   have hH2:=hH.symm
   subst hH2
   by_cases hb:Z2b s1=true
   ·have hb':runD s1=0∨(1 < runD s1∧bAt s1 0=48):=by simpa [Z2b] using hb
    rw [if_pos hb] at hN
    subst hN
    repeat' (first|(refine T.sidx (i:=0) rfl rfl (by omega) rfl ?_)|((first|apply T.mv|apply T.asn);apply rfl;apply rfl)|((first|apply T.gtr|apply T.eql);(iterate 3 apply rfl))|(apply T.pickT;(iterate 3 apply rfl))|(apply T.pickF;(iterate 3 apply rfl))|(apply T.loadW;apply rfl;apply rfl;infer_instance;(first|rfl|(simp only [List.length_append,List.length_map,List.length_set,List.length_replicate,List.length_cons,List.length_nil];first|done|omega));apply rfl)|(apply T.storeW;apply rfl;apply rfl;infer_instance;(first|rfl|(simp only [List.length_append,List.length_map,List.length_set,List.length_replicate,List.length_cons,List.length_nil];first|done|omega));(first|rfl|(simp only [List.length_append,List.length_map,List.length_set,List.length_replicate,List.length_cons,List.length_nil];first|done|omega));(first|rfl|(repeat' first|apply all_nV|apply all_bV|apply all_iV|rfl|apply all_app)))|(with_reducible first|refine Sr.nil ?_|refine S.seq ?_|refine S.reg ?_)|(apply T.ungV;apply rfl;(first|with_reducible rfl|decide))|(apply T.skip;apply rfl;(first|with_reducible rfl|decide);apply rfl)|(apply T.skipU;apply rfl;apply rfl)|(apply S.condTV;apply rfl;(first|with_reducible rfl|decide))|(apply S.condQ;apply rfl;all_goals (intro _;try (exfalso;first|omega|with_reducible contradiction)))|(apply T.gcase;apply rfl;apply rfl;all_goals (intro _;try (exfalso;first|omega|with_reducible contradiction)))|(with_reducible apply T.ofRet)|(apply T.retC;apply rfl;((repeat' first|apply RV.nil|(apply RV.tmp;apply rfl)|(apply RV.cellW;apply rfl;apply rfl;infer_instance;(first|rfl|(simp only [List.length_append,List.length_map,List.length_set,List.length_replicate,List.length_cons,List.length_nil];first|done|omega)))|(apply RV.cellP;apply rfl;apply rfl;infer_instance;apply rfl)));apply rfl)|fail)
    all_goals (exact ⟨_,PSub.drop (PSub.drop (PSub.refl _)),_,_,_,_,_,_,_,rfl,rfl,fun x hx=>by cases hx⟩)
   have hb':¬(runD s1=0∨(1 < runD s1∧bAt s1 0=48)):=by simpa [Z2b] using hb
   rw [if_neg hb] at hN
   clear hb
   have hl2:(s1.drop (runD s1)).length=s1.length - runD s1:=List.length_drop
   repeat' (first|(refine T.sidx (i:=0) rfl rfl (by omega) rfl ?_)|((first|apply T.mv|apply T.asn);apply rfl;apply rfl)|((first|apply T.gtr|apply T.eql);(iterate 3 apply rfl))|(apply T.pickT;(iterate 3 apply rfl))|(apply T.pickF;(iterate 3 apply rfl))|(with_reducible first|refine Sr.nil ?_|refine S.seq ?_|refine S.reg ?_|refine S.skip ?_)|(apply T.ungV;apply rfl;(first|with_reducible rfl|decide))|(apply T.skip;apply rfl;(first|with_reducible rfl|decide);apply rfl)|(apply S.condFV;apply rfl;(first|with_reducible rfl|decide))|(apply S.condQ;apply rfl;all_goals (intro _;try (exfalso;first|omega|with_reducible contradiction)))|(apply T.gcase;apply rfl;apply rfl;all_goals (intro _;try (exfalso;first|omega|with_reducible contradiction)))|(with_reducible apply T.ofRet)|fail)
   all_goals
    (apply S.draw;(case Hs=>exact H);(case es=>exact  [7]);(case n=>exact  9);(case hn=>rfl))
    repeat' (first|(apply T.ssliceH;apply rfl;apply rfl;omega;apply rfl)|(apply T.ssliceL;apply rfl;apply rfl;omega;apply rfl)|((first|apply T.mv|apply T.asn|apply T.fieldAddrZ);apply rfl;apply rfl)|(apply T.store;apply rfl;apply rfl;infer_instance;(first|decide|(simp;omega)|simp);apply rfl)|(with_reducible first|refine Sr.nil ?_|refine S.seq ?_|refine S.reg ?_|refine S.inBlock ?_)|(apply SA.qn;(iterate 4 apply rfl);kernel_rfl)|(apply SA.qz;(iterate 4 apply rfl);kernel_rfl)|(apply SA.qsn;(iterate 3 apply rfl);kernel_rfl;(first|exact fun _ h=>h|exact fun _ h=>St.psub h (by ((repeat (first|dsimp only [List.set_cons_zero]|dsimp only [List.set_cons_succ]));repeat' first|exact PSub.refl _|exact PSub.nil|(apply PSub.take;(repeat' first|(with_reducible exact Z0)|(with_reducible apply Z1)))|(with_reducible apply PSub.drop)|((apply PSub.take);(repeat' first|exact Z0|(apply Z1)))))))|(apply SA.en;apply rfl;apply rfl;kernel_rfl)|(apply SA.done;apply rfl;kernel_rfl)|(apply SK.intro;(first|exact fun _ h=>h|exact fun _ h=>St.psub h (by ((repeat (first|dsimp only [List.set_cons_zero]|dsimp only [List.set_cons_succ]));repeat' first|exact PSub.refl _|exact PSub.nil|(apply PSub.take;(repeat' first|(with_reducible exact Z0)|(with_reducible apply Z1)))|(with_reducible apply PSub.drop)|((apply PSub.take);(repeat' first|exact Z0|(apply Z1)))))))|fail)
    refine T.call rfl rfl (Z0L (s:=s1.drop (runD s1)) (pr:=[46]) (c:=46) rfl (by omega)) ?_
    rintro _ _ ⟨rfl,hH⟩
    have hH2:=hH.symm
    subst hH2
    generalize s1.drop (runD s1)=s2 at *
    have hc2:=Z3r 46 s2
    unfold Z6L at hN
    cases hc46:(cutP 46 s2).2 with
    | true =>
     rw [hc46,if_pos rfl] at hN
     generalize (cutP 46 s2).1=rs at *
     have hkr:=Z1y rs
     repeat' (first|((first|apply T.mv|apply T.asn);apply rfl;apply rfl)|(apply T.extract;(iterate 3 apply rfl))|(with_reducible first|refine Sr.nil ?_|refine S.seq ?_|refine S.reg ?_)|(apply S.condTV;apply rfl;(first|with_reducible rfl|decide))|(with_reducible apply T.ofRet)|fail)
     refine T.call rfl rfl (Z1O (s:=rs) (by omega)) ?_
     rintro _ _ ⟨rfl,hH⟩
     have hH2:=hH.symm
     subst hH2
     by_cases hk0:runD rs=0
     ·rw [if_pos hk0] at hN
      subst hN
      repeat' (first|((first|apply T.mv|apply T.asn);apply rfl;apply rfl)|(apply T.eql;(iterate 3 apply rfl))|(apply T.loadW;apply rfl;apply rfl;infer_instance;(first|rfl|(simp only [List.length_append,List.length_map,List.length_set,List.length_replicate,List.length_cons,List.length_nil];first|done|omega));apply rfl)|(apply T.storeW;apply rfl;apply rfl;infer_instance;(first|rfl|(simp only [List.length_append,List.length_map,List.length_set,List.length_replicate,List.length_cons,List.length_nil];first|done|omega));(first|rfl|(simp only [List.length_append,List.length_map,List.length_set,List.length_replicate,List.length_cons,List.length_nil];first|done|omega));(first|rfl|(repeat' first|apply all_nV|apply all_bV|apply all_iV|rfl|apply all_app)))|(with_reducible first|refine Sr.nil ?_|refine S.seq ?_|refine S.reg ?_)|(apply S.condQ;apply rfl;all_goals (intro _;try (exfalso;first|omega|with_reducible contradiction)))|(with_reducible apply T.ofRet)|(apply T.retC;apply rfl;((repeat' first|apply RV.nil|(apply RV.tmp;apply rfl)|(apply RV.cellW;apply rfl;apply rfl;infer_instance;(first|rfl|(simp only [List.length_append,List.length_map,List.length_set,List.length_replicate,List.length_cons,List.length_nil];first|done|omega)))|(apply RV.cellP;apply rfl;apply rfl;infer_instance;apply rfl)));apply rfl)|fail)
      (exact ⟨_,PSub.drop (PSub.drop (PSub.refl _)),_,_,_,_,_,_,_,rfl,rfl,fun x hx=>by cases hx⟩)
     ·rw [if_neg hk0] at hN
      have hl3:(rs.drop (runD rs)).length=rs.length - runD rs:=List.length_drop
      repeat' (first|((first|apply T.mv|apply T.asn);apply rfl;apply rfl)|(apply T.eql;(iterate 3 apply rfl))|(with_reducible first|refine Sr.nil ?_|refine S.seq ?_|refine S.reg ?_|refine S.skip ?_)|(apply S.condQ;apply rfl;all_goals (intro _;try (exfalso;first|omega|with_reducible contradiction)))|(with_reducible apply T.ofRet)|fail)
      (apply S.draw;(case Hs=>exact H);(case es=>exact  [7]);(case n=>exact  10);(case hn=>rfl))
      repeat' (first|(apply T.ssliceH;apply rfl;apply rfl;omega;apply rfl)|(apply T.ssliceL;apply rfl;apply rfl;omega;apply rfl)|((first|apply T.mv|apply T.asn|apply T.fieldAddrZ);apply rfl;apply rfl)|(apply T.store;apply rfl;apply rfl;infer_instance;(first|decide|(simp;omega)|simp);apply rfl)|(with_reducible first|refine Sr.nil ?_|refine S.inBlock ?_)|(apply SA.qn;(iterate 4 apply rfl);kernel_rfl)|(apply SA.qz;(iterate 4 apply rfl);kernel_rfl)|(apply SA.qsn;(iterate 3 apply rfl);kernel_rfl;(first|exact fun _ h=>h|exact fun _ h=>St.psub h (by ((repeat (first|dsimp only [List.set_cons_zero]|dsimp only [List.set_cons_succ]));repeat' first|exact PSub.refl _|exact PSub.nil|(apply PSub.take;(repeat' first|(with_reducible exact Z0)|(with_reducible apply Z1)))|(with_reducible apply PSub.drop)|((apply PSub.take);(repeat' first|exact Z0|(apply Z1)))))))|(apply SA.en;apply rfl;apply rfl;kernel_rfl)|(apply SA.done;apply rfl;kernel_rfl)|(apply SK.intro;(first|exact fun _ h=>h|exact fun _ h=>St.psub h (by ((repeat (first|dsimp only [List.set_cons_zero]|dsimp only [List.set_cons_succ]));repeat' first|exact PSub.refl _|exact PSub.nil|(apply PSub.take;(repeat' first|(with_reducible exact Z0)|(with_reducible apply Z1)))|(with_reducible apply PSub.drop)|((apply PSub.take);(repeat' first|exact Z0|(apply Z1)))))))|fail)
      exact hmid _ _ _ ⟨mi,s1.take (runD s1),rs.drop (runD rs),rs.take (runD rs),false,rfl,rfl,by rw [List.length_take];omega,by rw [List.length_take];omega,by omega,hN⟩ (by repeat' first|exact trivial|refine And.intro rfl ?_)
    | false =>
     have hs2:s2.length≤2200000:=by omega
     rw [hc46,if_neg (by simp)] at hN
     repeat' (first|((first|apply T.mv|apply T.asn);apply rfl;apply rfl)|(apply T.extract;(iterate 3 apply rfl))|(with_reducible first|refine Sr.nil ?_|refine S.seq ?_|refine S.reg ?_|refine S.skip ?_|refine S.inBlock ?_)|(apply S.condFV;apply rfl;(first|with_reducible rfl|decide))|(with_reducible apply T.ofRet)|fail)
     exact hmid _ _ _ ⟨mi,s1.take (runD s1),s2,[],true,rfl,rfl,by rw [List.length_take];omega,by simp,hs2,hN⟩ (by repeat' first|exact trivial|refine And.intro rfl ?_)
  ·rintro _ _ ⟨mi,w,s3,bh,pl,rfl,rfl,hw,hbh,hs3,hN⟩
   by_cases he:s3.getD 0 0|||32=101
   ·have hl3:0 < s3.length:=by
     rcases Nat.eq_zero_or_pos s3.length with h|h
     ·rw [Z27 h] at he
      exact absurd he (by decide)
     ·exact h
    have hn3:¬s3=[]:=fun h=>by rw [h] at hl3;exact absurd hl3 (by decide)
    have he':((s3.getD 0 0|||32).toNat:Int)=101:=by rw [he];rfl
    rw [Z7w he] at hN
    have hl4:(s3.drop 1).length=s3.length - 1:=List.length_drop
    obtain ⟨s4,e4⟩:∃ s4,s3.drop 1=s4:=⟨_,rfl⟩
    rw [e4] at hN hl4
    by_cases hs:(s4.getD 0 0).toNat=43∨(s4.getD 0 0).toNat=45
    ·have h04:0 < s4.length:=by
      rcases Nat.eq_zero_or_pos s4.length with h|h
      ·rw [Z27 h] at hs
       exact absurd hs (by decide)
      ·exact h
     have hn4:¬s4=[]:=fun h=>by rw [h] at h04;exact absurd h04 (by decide)
     rw [Z6d hs] at hN
     obtain ⟨s5,e5⟩:∃ s5,s4.drop 1=s5:=⟨_,rfl⟩
     have hl5:s5.length=s4.length - 1:=by rw [←e5];exact List.length_drop
     rw [e5] at hN
     by_cases h5:s5=[]
     ·rw [if_pos (.inl h5)] at hN
      subst hN
      repeat' (first|(refine T.sidx (i:=0) rfl rfl (by omega) rfl ?_)|(refine T.ssliceL (i:=1) rfl rfl (by omega) rfl ?_;rw [e4])|(refine T.bor (b:=32) _ rfl rfl rfl ?_)|(apply T.sneq;(iterate 3 apply rfl))|((first|apply T.mv|apply T.asn);apply rfl;apply rfl)|(apply T.eql;(iterate 3 apply rfl))|(apply T.pickT;(iterate 3 apply rfl))|(apply T.pickF;(iterate 3 apply rfl))|(with_reducible first|refine Sr.nil ?_|refine S.seq ?_|refine S.reg ?_)|(apply T.ungV;apply rfl;(first|with_reducible rfl|decide))|(apply T.skip;apply rfl;(first|with_reducible rfl|decide);apply rfl)|(apply S.condTV;apply rfl;(first|with_reducible rfl|decide))|(apply S.condQ;apply rfl;all_goals (intro _;try (exfalso;first|omega|with_reducible contradiction)))|(apply T.gcase;apply rfl;apply rfl;all_goals (intro _;try (exfalso;first|omega|with_reducible contradiction)))|fail)
      all_goals
       (apply S.draw;(case Hs=>exact H);(case es=>exact  [6]);(case n=>exact  8);(case hn=>rfl))
       repeat' (first|(refine T.sidx (i:=0) rfl rfl (by omega) rfl ?_)|(refine T.ssliceL (i:=1) rfl rfl (by omega) rfl ?_;rw [e5])|(apply T.seql;(iterate 3 apply rfl))|((first|apply T.mv|apply T.asn|apply T.fieldAddrZ);apply rfl;apply rfl)|(apply T.eql;(iterate 3 apply rfl))|(apply T.pickT;(iterate 3 apply rfl))|(apply T.loadW;apply rfl;apply rfl;infer_instance;(first|rfl|(simp only [List.length_append,List.length_map,List.length_set,List.length_replicate,List.length_cons,List.length_nil];first|done|omega));apply rfl)|(apply T.storeW;apply rfl;apply rfl;infer_instance;(first|rfl|(simp only [List.length_append,List.length_map,List.length_set,List.length_replicate,List.length_cons,List.length_nil];first|done|omega));(first|rfl|(simp only [List.length_append,List.length_map,List.length_set,List.length_replicate,List.length_cons,List.length_nil];first|done|omega));(first|rfl|(repeat' first|apply all_nV|apply all_bV|apply all_iV|rfl|apply all_app)))|(apply T.store;apply rfl;apply rfl;infer_instance;(first|decide|(simp;omega)|simp);apply rfl)|(with_reducible first|refine Sr.nil ?_|refine S.seq ?_|refine S.reg ?_)|(apply T.skip;apply rfl;(first|with_reducible rfl|decide);apply rfl)|(apply S.condTV;apply rfl;(first|with_reducible rfl|decide))|(apply T.gcase;apply rfl;apply rfl;all_goals (intro _;try (exfalso;first|omega|with_reducible contradiction)))|(apply T.retC;apply rfl;((repeat' first|apply RV.nil|(apply RV.tmp;apply rfl)|(apply RV.cellW;apply rfl;apply rfl;infer_instance;(first|rfl|(simp only [List.length_append,List.length_map,List.length_set,List.length_replicate,List.length_cons,List.length_nil];first|done|omega)))|(apply RV.cellP;apply rfl;apply rfl;infer_instance;apply rfl)));apply rfl)|(apply SA.qn;(iterate 4 apply rfl);kernel_rfl)|(apply SA.qz;(iterate 4 apply rfl);kernel_rfl)|(apply SA.qsn;(iterate 3 apply rfl);kernel_rfl;(first|exact fun _ h=>h|exact fun _ h=>St.psub h (by ((repeat (first|dsimp only [List.set_cons_zero]|dsimp only [List.set_cons_succ]));repeat' first|exact PSub.refl _|exact PSub.nil|(apply PSub.take;(repeat' first|(with_reducible exact Z0)|(with_reducible apply Z1)))|(with_reducible apply PSub.drop)|((apply PSub.take);(repeat' first|exact Z0|(apply Z1)))))))|(apply SA.en;apply rfl;apply rfl;kernel_rfl)|(apply SA.done;apply rfl;kernel_rfl)|(apply SK.intro;(first|exact fun _ h=>h|exact fun _ h=>St.psub h (by ((repeat (first|dsimp only [List.set_cons_zero]|dsimp only [List.set_cons_succ]));repeat' first|exact PSub.refl _|exact PSub.nil|(apply PSub.take;(repeat' first|(with_reducible exact Z0)|(with_reducible apply Z1)))|(with_reducible apply PSub.drop)|((apply PSub.take);(repeat' first|exact Z0|(apply Z1)))))))|fail)
       (exact ⟨_,PSub.drop (PSub.drop (PSub.refl _)),_,_,_,_,_,_,_,rfl,rfl,fun x hx=>by cases hx⟩)
     ·have h05:0 < s5.length:=by
       rcases Nat.eq_zero_or_pos s5.length with h|h
       ·exact absurd (Z27 h) h5
       ·exact h
      have hr5:=Z1y s5
      repeat' (first|(refine T.sidx (i:=0) rfl rfl (by omega) rfl ?_)|(refine T.ssliceL (i:=1) rfl rfl (by omega) rfl ?_;rw [e4])|(refine T.bor (b:=32) _ rfl rfl rfl ?_)|(apply T.sneq;(iterate 3 apply rfl))|((first|apply T.mv|apply T.asn);apply rfl;apply rfl)|(apply T.eql;(iterate 3 apply rfl))|(apply T.pickT;(iterate 3 apply rfl))|(apply T.pickF;(iterate 3 apply rfl))|(with_reducible first|refine Sr.nil ?_|refine S.seq ?_|refine S.reg ?_)|(apply T.ungV;apply rfl;(first|with_reducible rfl|decide))|(apply T.skip;apply rfl;(first|with_reducible rfl|decide);apply rfl)|(apply S.condTV;apply rfl;(first|with_reducible rfl|decide))|(apply S.condQ;apply rfl;all_goals (intro _;try (exfalso;first|omega|with_reducible contradiction)))|(apply T.gcase;apply rfl;apply rfl;all_goals (intro _;try (exfalso;first|omega|with_reducible contradiction)))|fail)
      all_goals
       (apply S.draw;(case Hs=>exact H);(case es=>exact  [6]);(case n=>exact  8);(case hn=>rfl))
       repeat' (first|(refine T.sidx (i:=0) rfl rfl (by omega) rfl ?_)|(refine T.ssliceL (i:=1) rfl rfl (by omega) rfl ?_;rw [e5])|(apply T.seql;(iterate 3 apply rfl))|((first|apply T.mv|apply T.asn|apply T.fieldAddrZ);apply rfl;apply rfl)|(apply T.eql;(iterate 3 apply rfl))|(apply T.store;apply rfl;apply rfl;infer_instance;(first|decide|(simp;omega)|simp);apply rfl)|(with_reducible first|refine Sr.nil ?_|refine S.seq ?_|refine S.reg ?_)|(apply T.ungV;apply rfl;(first|with_reducible rfl|decide))|(apply T.gcase;apply rfl;apply rfl;all_goals (intro _;try (exfalso;first|omega|with_reducible contradiction)))|(apply SA.qn;(iterate 4 apply rfl);kernel_rfl)|(apply SA.qz;(iterate 4 apply rfl);kernel_rfl)|(apply SA.qsn;(iterate 3 apply rfl);kernel_rfl;(first|exact fun _ h=>h|exact fun _ h=>St.psub h (by ((repeat (first|dsimp only [List.set_cons_zero]|dsimp only [List.set_cons_succ]));repeat' first|exact PSub.refl _|exact PSub.nil|(apply PSub.take;(repeat' first|(with_reducible exact Z0)|(with_reducible apply Z1)))|(with_reducible apply PSub.drop)|((apply PSub.take);(repeat' first|exact Z0|(apply Z1)))))))|(apply SA.en;apply rfl;apply rfl;kernel_rfl)|(apply SA.done;apply rfl;kernel_rfl)|(apply SK.intro;(first|exact fun _ h=>h|exact fun _ h=>St.psub h (by ((repeat (first|dsimp only [List.set_cons_zero]|dsimp only [List.set_cons_succ]));repeat' first|exact PSub.refl _|exact PSub.nil|(apply PSub.take;(repeat' first|(with_reducible exact Z0)|(with_reducible apply Z1)))|(with_reducible apply PSub.drop)|((apply PSub.take);(repeat' first|exact Z0|(apply Z1)))))))|fail)
       refine T.call rfl rfl (Z1O (s:=s5) (by omega)) ?_
       rintro _ _ ⟨rfl,hH⟩
       have hH2:=hH.symm
       subst hH2
       by_cases h6:runD s5=s5.length
       ·rw [if_neg (fun h=>h.elim h5 (fun h=>h h6))] at hN
        repeat' (first|((first|apply T.slen|apply T.mv);apply rfl;apply rfl)|(apply T.neq;(iterate 3 apply rfl))|(apply T.pickF;(iterate 3 apply rfl))|(with_reducible first|refine Sr.nil ?_|refine S.reg ?_|refine S.skip ?_)|(apply T.ungV;apply rfl;(first|with_reducible rfl|decide))|(apply S.condQ;apply rfl;all_goals (intro _;try (exfalso;first|omega|with_reducible contradiction)))|(with_reducible apply T.ofRet)|fail)
        refine T.call rfl rfl (Z0c (pr:=[48]) (c:=48) rfl (by decide) (by omega)) ?_
        rintro _ _ ⟨r,rfl,hH,hr⟩
        have hH2:=hH.symm
        subst hH2
        repeat' (first|((first|apply T.asn|apply T.fieldAddrZ);apply rfl;apply rfl)|(apply T.store;apply rfl;apply rfl;infer_instance;(first|decide|(simp;omega)|simp);apply rfl)|with_reducible refine Sr.nil ?_|(apply S.exit;apply rfl)|(with_reducible apply T.ofRet)|fail)
        exact hrest _ _ _ ⟨mi,w,[],bh,false,_,r,rfl,rfl,hw,hbh,by omega,by rw [hN];simp⟩ (by repeat' first|exact trivial|refine And.intro rfl ?_)
       ·rw [if_pos (.inr h6)] at hN
        subst hN
        repeat' (first|((first|apply T.slen|apply T.mv|apply T.asn);apply rfl;apply rfl)|(apply T.neq;(iterate 3 apply rfl))|(apply T.pickF;(iterate 3 apply rfl))|(apply T.loadW;apply rfl;apply rfl;infer_instance;(first|rfl|(simp only [List.length_append,List.length_map,List.length_set,List.length_replicate,List.length_cons,List.length_nil];first|done|omega));apply rfl)|(apply T.storeW;apply rfl;apply rfl;infer_instance;(first|rfl|(simp only [List.length_append,List.length_map,List.length_set,List.length_replicate,List.length_cons,List.length_nil];first|done|omega));(first|rfl|(simp only [List.length_append,List.length_map,List.length_set,List.length_replicate,List.length_cons,List.length_nil];first|done|omega));(first|rfl|(repeat' first|apply all_nV|apply all_bV|apply all_iV|rfl|apply all_app)))|(with_reducible first|refine Sr.nil ?_|refine S.seq ?_|refine S.reg ?_)|(apply T.ungV;apply rfl;(first|with_reducible rfl|decide))|(apply S.condQ;apply rfl;all_goals (intro _;try (exfalso;first|omega|with_reducible contradiction)))|(with_reducible apply T.ofRet)|(apply T.retC;apply rfl;((repeat' first|apply RV.nil|(apply RV.tmp;apply rfl)|(apply RV.cellW;apply rfl;apply rfl;infer_instance;(first|rfl|(simp only [List.length_append,List.length_map,List.length_set,List.length_replicate,List.length_cons,List.length_nil];first|done|omega)))|(apply RV.cellP;apply rfl;apply rfl;infer_instance;apply rfl)));apply rfl)|fail)
        all_goals (exact ⟨_,PSub.drop (PSub.drop (PSub.refl _)),_,_,_,_,_,_,_,rfl,rfl,fun x hx=>by cases hx⟩)
    ·rw [Z76 hs] at hN
     have hs':¬((s4.getD 0 0).toNat=43)∧¬((s4.getD 0 0).toNat=45):=not_or.1 hs
     obtain ⟨hs1,hs2⟩:=hs'
     by_cases hn4:s4=[]
     ·repeat' (first|(refine T.sidx (i:=0) rfl rfl (by omega) rfl ?_)|(refine T.ssliceL (i:=1) rfl rfl (by omega) rfl ?_;rw [e4])|(refine T.bor (b:=32) _ rfl rfl rfl ?_)|(apply T.seql;(iterate 3 apply rfl))|(apply T.sneq;(iterate 3 apply rfl))|((first|apply T.mv|apply T.asn);apply rfl;apply rfl)|(apply T.eql;(iterate 3 apply rfl))|(apply T.pickT;(iterate 3 apply rfl))|(apply T.pickF;(iterate 3 apply rfl))|(apply T.loadW;apply rfl;apply rfl;infer_instance;(first|rfl|(simp only [List.length_append,List.length_map,List.length_set,List.length_replicate,List.length_cons,List.length_nil];first|done|omega));apply rfl)|(apply T.storeW;apply rfl;apply rfl;infer_instance;(first|rfl|(simp only [List.length_append,List.length_map,List.length_set,List.length_replicate,List.length_cons,List.length_nil];first|done|omega));(first|rfl|(simp only [List.length_append,List.length_map,List.length_set,List.length_replicate,List.length_cons,List.length_nil];first|done|omega));(first|rfl|(repeat' first|apply all_nV|apply all_bV|apply all_iV|rfl|apply all_app)))|(with_reducible first|refine Sr.nil ?_|refine S.seq ?_|refine S.reg ?_|refine S.skip ?_)|(apply T.ungV;apply rfl;(first|with_reducible rfl|decide))|(apply T.skip;apply rfl;(first|with_reducible rfl|decide);apply rfl)|(apply T.skipU;apply rfl;apply rfl)|(apply S.condTV;apply rfl;(first|with_reducible rfl|decide))|(apply S.condFV;apply rfl;(first|with_reducible rfl|decide))|(apply S.condQ;apply rfl;all_goals (intro _;try (exfalso;first|omega|with_reducible contradiction)))|(apply T.gcase;apply rfl;apply rfl;all_goals (intro _;try (exfalso;first|omega|with_reducible contradiction)))|(apply T.retC;apply rfl;((repeat' first|apply RV.nil|(apply RV.tmp;apply rfl)|(apply RV.cellW;apply rfl;apply rfl;infer_instance;(first|rfl|(simp only [List.length_append,List.length_map,List.length_set,List.length_replicate,List.length_cons,List.length_nil];first|done|omega)))|(apply RV.cellP;apply rfl;apply rfl;infer_instance;apply rfl)));apply rfl)|fail)
      rw [if_pos (.inl hn4)] at hN
      subst hN
      (exact ⟨_,PSub.drop (PSub.drop (PSub.refl _)),_,_,_,_,_,_,_,rfl,rfl,fun x hx=>by cases hx⟩)
     ·have h04:0 < s4.length:=by
       rcases Nat.eq_zero_or_pos s4.length with h|h
       ·exact absurd (Z27 h) hn4
       ·exact h
      have hr7:=Z1y s4
      have h7:=hn4
      repeat' (first|(refine T.sidx (i:=0) rfl rfl (by omega) rfl ?_)|(refine T.ssliceL (i:=1) rfl rfl (by omega) rfl ?_;rw [e4])|(refine T.bor (b:=32) _ rfl rfl rfl ?_)|(apply T.seql;(iterate 3 apply rfl))|(apply T.sneq;(iterate 3 apply rfl))|((first|apply T.mv|apply T.asn);apply rfl;apply rfl)|(apply T.eql;(iterate 3 apply rfl))|(apply T.pickT;(iterate 3 apply rfl))|(apply T.pickF;(iterate 3 apply rfl))|(with_reducible first|refine Sr.nil ?_|refine S.seq ?_|refine S.reg ?_|refine S.skip ?_)|(apply T.ungV;apply rfl;(first|with_reducible rfl|decide))|(apply S.condQ;apply rfl;all_goals (intro _;try (exfalso;first|omega|with_reducible contradiction)))|(apply T.gcase;apply rfl;apply rfl;all_goals (intro _;try (exfalso;first|omega|with_reducible contradiction)))|fail)
      refine T.call rfl rfl (Z1O (s:=s4) (by omega)) ?_
      rintro _ _ ⟨rfl,hH⟩
      have hH2:=hH.symm
      subst hH2
      by_cases h6:runD s4=s4.length
      ·rw [if_neg (fun h=>h.elim h7 (fun h=>h h6))] at hN
       repeat' (first|((first|apply T.slen|apply T.mv);apply rfl;apply rfl)|(apply T.neq;(iterate 3 apply rfl))|(apply T.pickF;(iterate 3 apply rfl))|(with_reducible first|refine Sr.nil ?_|refine S.reg ?_|refine S.skip ?_)|(apply T.ungV;apply rfl;(first|with_reducible rfl|decide))|(apply S.condQ;apply rfl;all_goals (intro _;try (exfalso;first|omega|with_reducible contradiction)))|(with_reducible apply T.ofRet)|fail)
       refine T.call rfl rfl (Z0c (pr:=[48]) (c:=48) rfl (by decide) (by omega)) ?_
       rintro _ _ ⟨r,rfl,hH,hr⟩
       have hH2:=hH.symm
       subst hH2
       repeat' (first|((first|apply T.asn|apply T.fieldAddrZ);apply rfl;apply rfl)|(apply T.store;apply rfl;apply rfl;infer_instance;(first|decide|(simp;omega)|simp);apply rfl)|with_reducible refine Sr.nil ?_|(apply S.exit;apply rfl)|(with_reducible apply T.ofRet)|fail)
       exact hrest _ _ _ ⟨mi,w,[],bh,false,_,r,rfl,rfl,hw,hbh,by omega,by rw [hN];simp⟩ (by repeat' first|exact trivial|refine And.intro rfl ?_)
      ·rw [if_pos (.inr h6)] at hN
       subst hN
       repeat' (first|((first|apply T.slen|apply T.mv|apply T.asn);apply rfl;apply rfl)|(apply T.neq;(iterate 3 apply rfl))|(apply T.pickF;(iterate 3 apply rfl))|(apply T.loadW;apply rfl;apply rfl;infer_instance;(first|rfl|(simp only [List.length_append,List.length_map,List.length_set,List.length_replicate,List.length_cons,List.length_nil];first|done|omega));apply rfl)|(apply T.storeW;apply rfl;apply rfl;infer_instance;(first|rfl|(simp only [List.length_append,List.length_map,List.length_set,List.length_replicate,List.length_cons,List.length_nil];first|done|omega));(first|rfl|(simp only [List.length_append,List.length_map,List.length_set,List.length_replicate,List.length_cons,List.length_nil];first|done|omega));(first|rfl|(repeat' first|apply all_nV|apply all_bV|apply all_iV|rfl|apply all_app)))|(with_reducible first|refine Sr.nil ?_|refine S.seq ?_|refine S.reg ?_)|(apply T.ungV;apply rfl;(first|with_reducible rfl|decide))|(apply S.condQ;apply rfl;all_goals (intro _;try (exfalso;first|omega|with_reducible contradiction)))|(with_reducible apply T.ofRet)|(apply T.retC;apply rfl;((repeat' first|apply RV.nil|(apply RV.tmp;apply rfl)|(apply RV.cellW;apply rfl;apply rfl;infer_instance;(first|rfl|(simp only [List.length_append,List.length_map,List.length_set,List.length_replicate,List.length_cons,List.length_nil];first|done|omega)))|(apply RV.cellP;apply rfl;apply rfl;infer_instance;apply rfl)));apply rfl)|fail)
       all_goals (exact ⟨_,PSub.drop (PSub.drop (PSub.refl _)),_,_,_,_,_,_,_,rfl,rfl,fun x hx=>by cases hx⟩)
   ·have he':¬((s3.getD 0 0|||32).toNat:Int)=101:=fun h=>he (UInt8.toNat_inj.1 (Int.ofNat.inj h))
    rw [Z8a he] at hN
    by_cases hn3:s3=[]
    ·repeat' (first|(apply T.sneq;(iterate 3 apply rfl))|(apply T.mv;apply rfl;apply rfl)|(apply T.pickF;(iterate 3 apply rfl))|(with_reducible first|refine Sr.nil ?_|refine S.seq ?_|refine S.reg ?_|refine S.skip ?_)|(apply S.exit;apply rfl)|(apply T.skip;apply rfl;(first|with_reducible rfl|decide);apply rfl)|(apply S.condFV;apply rfl;(first|with_reducible rfl|decide))|(apply T.gcase;apply rfl;apply rfl;all_goals (intro _;try (exfalso;first|omega|with_reducible contradiction)))|fail)
     exact hrest _ _ _ ⟨mi,w,s3,bh,pl,false,[],rfl,rfl,hw,hbh,by simp,by rw [hN];simp only [Bool.and_true]⟩ (by repeat' first|exact trivial|refine And.intro rfl ?_)
    ·have hl3:0 < s3.length:=by
      rcases Nat.eq_zero_or_pos s3.length with h|h
      ·exact absurd (Z27 h) hn3
      ·exact h
     repeat' (first|(refine T.sidx (i:=0) rfl rfl (by omega) rfl ?_)|(refine T.bor (b:=32) _ rfl rfl rfl ?_)|(apply T.sneq;(iterate 3 apply rfl))|(apply T.mv;apply rfl;apply rfl)|(apply T.eql;(iterate 3 apply rfl))|(apply T.pickT;(iterate 3 apply rfl))|(with_reducible first|refine Sr.nil ?_|refine S.seq ?_|refine S.reg ?_|refine S.skip ?_)|(apply S.exit;apply rfl)|(apply T.ungV;apply rfl;(first|with_reducible rfl|decide))|(apply S.condQ;apply rfl;all_goals (intro _;try (exfalso;first|omega|with_reducible contradiction)))|(apply T.gcase;apply rfl;apply rfl;all_goals (intro _;try (exfalso;first|omega|with_reducible contradiction)))|fail)
     exact hrest _ _ _ ⟨mi,w,s3,bh,pl,false,[],rfl,rfl,hw,hbh,by simp,by rw [hN];simp only [Bool.and_true]⟩ (by repeat' first|exact trivial|refine And.intro rfl ?_)
 ·rintro _ _ ⟨mi,w,s6,bh,pl,dn,ex,rfl,rfl,h1,h2,h3,h4⟩
  repeat' (first|(apply T.sadd;apply rfl;apply rfl;omega;apply rfl)|((first|apply T.mv|apply T.asn|apply T.fieldAddrZ);apply rfl;apply rfl)|(apply T.load;apply rfl;apply rfl;infer_instance;apply rfl;apply rfl)|(with_reducible first|refine Sr.nil ?_|refine S.seq ?_|refine S.reg ?_)|fail)
  refine T.call rfl rfl (Z0c (c:=48) rfl (by decide) (by rw [List.length_append];omega)) ?_
  rintro _ _ ⟨d,rfl,rfl,hd⟩
  rw [List.length_append] at hd
  have hla:(w++bh).length=w.length+bh.length:=List.length_append
  repeat' (first|((first|apply T.slen|apply T.mv|apply T.fieldAddrZ);apply rfl;apply rfl)|(apply T.load;apply rfl;apply rfl;infer_instance;apply rfl;apply rfl)|(apply T.subI;apply rfl;apply rfl;omega;apply rfl)|(apply T.store;apply rfl;apply rfl;infer_instance;(first|decide|(simp;omega)|simp);apply rfl)|(with_reducible first|refine Sr.nil ?_|refine S.seq ?_|refine S.reg ?_)|(with_reducible apply T.ofRet)|fail)
  refine T.call rfl rfl (Z1U (c:=48) rfl (by decide) (by omega)) ?_
  rintro _ _ ⟨d2,rfl,rfl,hd2⟩
  repeat' (first|(apply T.seql;(iterate 3 apply rfl))|((first|apply T.mv|apply T.asn|apply T.fieldAddrZ);apply rfl;apply rfl)|(apply T.load;apply rfl;apply rfl;infer_instance;apply rfl;apply rfl)|(apply T.loadW;apply rfl;apply rfl;infer_instance;(first|rfl|(simp only [List.length_append,List.length_map,List.length_set,List.length_replicate,List.length_cons,List.length_nil];first|done|omega));apply rfl)|(apply T.storeW;apply rfl;apply rfl;infer_instance;(first|rfl|(simp only [List.length_append,List.length_map,List.length_set,List.length_replicate,List.length_cons,List.length_nil];first|done|omega));(first|rfl|(simp only [List.length_append,List.length_map,List.length_set,List.length_replicate,List.length_cons,List.length_nil];first|done|omega));(first|rfl|(repeat' first|apply all_nV|apply all_bV|apply all_iV|rfl|apply all_app)))|(apply T.store;apply rfl;apply rfl;infer_instance;(first|decide|(simp;omega)|simp);apply rfl)|(with_reducible first|refine Sr.nil ?_|refine S.seq ?_|refine S.reg ?_|refine S.skip ?_)|(apply S.condQ;apply rfl;all_goals (intro _;try (exfalso;first|omega|with_reducible contradiction)))|(with_reducible apply T.ofRet)|(apply T.retC;apply rfl;((repeat' first|apply RV.nil|(apply RV.tmp;apply rfl)|(apply RV.cellW;apply rfl;apply rfl;infer_instance;(first|rfl|(simp only [List.length_append,List.length_map,List.length_set,List.length_replicate,List.length_cons,List.length_nil];first|done|omega)))|(apply RV.cellP;apply rfl;apply rfl;infer_instance;apply rfl)));apply rfl)|fail)
  all_goals
   by_cases h5:s6=[]
   ·rw [if_pos h5] at h4
    subst h4
    rw [decide_eq_true h5]
    exact ⟨_,PSub.drop (PSub.drop (PSub.refl _)),mi,w,d2,_,pl,_,ex,rfl,rfl,fun x hx=>by cases hx;rfl⟩
   ·rw [if_neg h5] at h4
    subst h4
    rw [decide_eq_false h5]
    exact ⟨_,PSub.drop (PSub.drop (PSub.refl _)),mi,w,d2,_,pl,_,ex,rfl,rfl,fun x hx=>by cases hx⟩
end
end Go.Proofs.YthomgjihagigcaaGreatDoor
