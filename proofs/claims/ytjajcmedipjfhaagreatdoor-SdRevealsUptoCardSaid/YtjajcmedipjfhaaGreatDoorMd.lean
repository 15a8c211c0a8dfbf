/- Texts put together by a program: JsnD JsnK JsnE JsnF DecP DecA. -/
import Derived.Test.YtjajcmedipjfhaaGreatDoorMc
import Derived.Shelf.Utf8.AppendRunePlain
import Derived.Shelf.Unicode.DecodeAny
import Derived.Test.YtjajcmedipjfhaaGreatDoorProg
import Derived.Test.YtjajcmedipjfhaaGreatDoorMa
/- The walks of the program's reader of JSON: escapes. -/
namespace Go.Proofs.YtjajcmedipjfhaaGreatDoor
open Sg Go.IntWalk
set_option maxRecDepth 100000
set_option maxHeartbeats 4000000
section
variable {F:World} {M:List Nat} {H:List Res} {p:Nat} {t:List UInt8} {o n m:Value} {s:Nat} {k:List UInt8} {c b:Int}
theorem Z7w {fr:Nat} (ha:fr < t.length) (hl:t.length≤1000000000):Meets Tryz.prog 132 [.pointer (some ⟨p,0,none⟩)] F M (.blk p (jrV t o n m fr s k c b) 98::H) (JrR p t o n m s k c b 100000000 H (escX t fr)):=by
 refine Meets.enter Tryz.func132 rfl rfl ?_
 have hu:=Z2k t (fr+1)
 repeat' (first|refine Sg.Y1 ?_|fail)
 refine T.call rfl rfl (ZV (a:=fr+1)) ?_
 rintro _ _ ⟨rfl,rfl⟩
 by_cases h1:fr+1 < t.length
 ·rw [Z7x h1]
  by_cases h2:bAt t (fr+1)=117
  ·rw [if_pos h2]
   repeat' (first|refine Sg.Y3 ?_|(apply S.condQ;apply rfl;all_goals intro _)|fail)
   refine T.call rfl rfl (Z8S (a:=fr+2) (fr:=fr) (by omega) hl) ?_
   cases Z1G t fr (fr+2) with
   | bad e1 q1 =>
    rintro _ _ ⟨a1,z,hz,rfl,rfl⟩
    repeat' (first|refine Sg.Y2 ?_|fail)
    exact ⟨_,PSub.refl _,a1,z,hz,rfl,rfl⟩
   | ok a1 u =>
    rintro _ _ ⟨rfl,rfl⟩
    repeat' (first|refine Sg.Y2 ?_|fail)
    exact ⟨_,PSub.refl _,rfl,rfl⟩
  ·rw [if_neg h2]
   repeat' (first|refine Sg.Y3 ?_|(apply S.condQ;apply rfl;all_goals intro _)|fail)
   refine S.unroll ?_
   repeat' (first|(apply T.alloc;apply rfl;intro nb)|refine Sg.Y4 ?_|(apply S.condQ;apply rfl;all_goals intro _)|fail)
   ·rw [show bAt t (fr+1)=34 by omega]
    exact ⟨_,PSub.drop (PSub.refl _),rfl,rfl⟩
   refine S.again ?_
   repeat' (first|(apply T.alloc;apply rfl;intro nb)|refine Sg.Y4 ?_|(apply S.condQ;apply rfl;all_goals intro _)|fail)
   ·rw [show bAt t (fr+1)=92 by omega]
    exact ⟨_,PSub.drop (PSub.drop (PSub.refl _)),rfl,rfl⟩
   refine S.again ?_
   repeat' (first|(apply T.alloc;apply rfl;intro nb)|refine Sg.Y4 ?_|(apply S.condQ;apply rfl;all_goals intro _)|fail)
   ·rw [show bAt t (fr+1)=47 by omega]
    exact ⟨_,PSub.drop (PSub.drop (PSub.drop (PSub.refl _))),rfl,rfl⟩
   refine S.again ?_
   repeat' (first|(apply T.alloc;apply rfl;intro nb)|refine Sg.Y4 ?_|(apply S.condQ;apply rfl;all_goals intro _)|fail)
   ·rw [show bAt t (fr+1)=98 by omega]
    exact ⟨_,PSub.drop (PSub.drop (PSub.drop (PSub.drop (PSub.refl _)))),rfl,rfl⟩
   refine S.again ?_
   repeat' (first|(apply T.alloc;apply rfl;intro nb)|refine Sg.Y4 ?_|(apply S.condQ;apply rfl;all_goals intro _)|fail)
   ·rw [show bAt t (fr+1)=102 by omega]
    exact ⟨_,PSub.drop (PSub.drop (PSub.drop (PSub.drop (PSub.drop (PSub.refl _))))),rfl,rfl⟩
   refine S.again ?_
   repeat' (first|(apply T.alloc;apply rfl;intro nb)|refine Sg.Y4 ?_|(apply S.condQ;apply rfl;all_goals intro _)|fail)
   ·rw [show bAt t (fr+1)=110 by omega]
    exact ⟨_,PSub.drop (PSub.drop (PSub.drop (PSub.drop (PSub.drop (PSub.drop (PSub.refl _)))))),rfl,rfl⟩
   refine S.again ?_
   repeat' (first|(apply T.alloc;apply rfl;intro nb)|refine Sg.Y4 ?_|(apply S.condQ;apply rfl;all_goals intro _)|fail)
   ·rw [show bAt t (fr+1)=114 by omega]
    exact ⟨_,PSub.drop (PSub.drop (PSub.drop (PSub.drop (PSub.drop (PSub.drop (PSub.drop (PSub.refl _))))))),rfl,rfl⟩
   refine S.again ?_
   repeat' (first|(apply T.alloc;apply rfl;intro nb)|refine Sg.Y4 ?_|(apply S.condQ;apply rfl;all_goals intro _)|fail)
   ·rw [show bAt t (fr+1)=116 by omega]
    exact ⟨_,PSub.drop (PSub.drop (PSub.drop (PSub.drop (PSub.drop (PSub.drop (PSub.drop (PSub.drop (PSub.refl _)))))))),rfl,rfl⟩
   refine S.again ?_
   repeat' (first|refine Sg.Y1 ?_|fail)
   refine Sr.front p ?_
   refine T.call rfl rfl ZX ?_
   rintro _ _ ⟨rfl,rfl⟩
   repeat' (first|refine Sg.Y2 ?_|fail)
   have e9:escN (bAt t (fr+1))=none:=by
    unfold escN
    repeat' (split;· omega)
    rfl
   rw [e9]
   exact ⟨_,by ((repeat (first|dsimp only [List.set_cons_zero]|dsimp only [List.set_cons_succ]));repeat' first|exact PSub.refl _|exact PSub.nil|(apply PSub.take;(repeat' first|(with_reducible exact Z0)|(with_reducible apply Z1)))|(with_reducible apply PSub.drop)|((apply PSub.take);(repeat' first|exact Z0|(apply Z1)))),fr+1,0,by omega,rfl,rfl⟩
 ·rw [Z8q h1]
  repeat' (first|refine Sg.Y3 ?_|(apply S.condQ;apply rfl;all_goals intro _)|fail)
  refine T.call rfl rfl (ZG (a:=fr+1)) ?_
  rintro _ _ ⟨rfl,rfl⟩
  repeat' (first|refine Sg.Y2 ?_|fail)
  exact ⟨_,PSub.refl _,fr+1,0,by omega,rfl,rfl⟩
end
end Go.Proofs.YtjajcmedipjfhaaGreatDoor
/- The library's contracts, laid at this program (printed by the kit's tools lay-shelf and lay-plain, cut out by a program). -/
namespace Go.Proofs
open Go.Shelf
def Tryz.lays197_ren:Go.Shelf.Ren:=⟨fun|197=>162|260=>177|n=>n,fun|9=>9|21=>21|3=>3|4=>4|5=>5|105=>213|119=>120|0=>0|46=>124|139=>123|138=>122|n=>n,fun|3=>0|4=>1|n=>n⟩
theorem Tryz.lays197:Go.Proofs.Lays.n197 Tryz.prog Tryz.lays197_ren:={
 mixed:=by kernel_rfl
 f197:=Tryz.func162.trans (congrArg some (by kernel_rfl))
 f260:=Tryz.func177.trans (congrArg some (by kernel_rfl))
 t0:=Tryz.underlying0
 a0:=Tryz.isAgg0
 z0:=Tryz.sizeOf0
 v0:=Tryz.zeroValue0
 t3:=Tryz.underlying3
 a3:=Tryz.isAgg3
 z3:=Tryz.sizeOf3
 v3:=Tryz.zeroValue3
 t4:=Tryz.underlying4
 a4:=Tryz.isAgg4
 z4:=Tryz.sizeOf4
 v4:=Tryz.zeroValue4
 t5:=Tryz.underlying5
 a5:=Tryz.isAgg5
 z5:=Tryz.sizeOf5
 v5:=Tryz.zeroValue5
 t9:=Tryz.underlying9
 a9:=Tryz.isAgg9
 z9:=Tryz.sizeOf9
 v9:=Tryz.zeroValue9
 t21:=Tryz.underlying21
 a21:=Tryz.isAgg21
 z21:=Tryz.sizeOf21
 v21:=Tryz.zeroValue21
 t46:=Tryz.underlying124
 a46:=Tryz.isAgg124
 z46:=Tryz.sizeOf124
 v46:=Tryz.zeroValue124
 t105:=Tryz.underlying213
 a105:=Tryz.isAgg213
 z105:=Tryz.sizeOf213
 v105:=Tryz.zeroValue213
 t119:=Tryz.underlying120
 a119:=Tryz.isAgg120
 z119:=Tryz.sizeOf120
 t138:=Tryz.underlying122
 a138:=Tryz.isAgg122
 z138:=Tryz.sizeOf122
 v138:=Tryz.zeroValue122
 t139:=Tryz.underlying123
 a139:=Tryz.isAgg123
 z139:=Tryz.sizeOf123
 v139:=Tryz.zeroValue123
 g3:=by kernel_rfl
 g4:=by kernel_rfl }
open Go.RowKit Go.Lib in
theorem Tryz.utf8_DecodeRuneInString (s:ByteArray) (w:World) (hT:Lib.Utf8Tabs 0 1 w) :
  Calls Tryz.prog 162 #[.string s] w fun e w'=>e=.returned (.tuple #[.int .i32 (Lib.decodeGo s).1,.int .i64 (Lib.decodeGo s).2])∧Below w.heap.size w w':=Any.utf8_DecodeRuneInString Tryz.lays197 s w hT
end Go.Proofs
/- The walks of the program's reader of JSON: sequences of UTF-8. -/
namespace Go.Proofs.YtjajcmedipjfhaaGreatDoor
open Sg Go.IntWalk Go.Lib
set_option maxRecDepth 100000
set_option maxHeartbeats 2000000
def Z8o:List Value:=(List.range 256).map fun c=>.int .u8 (firstT c:Nat)
def accL:List Value:=(List.range 16).flatMap fun i=>[.int .u8 (accLo i:Nat),.int .u8 (accHi i:Nat)]
structure Tabs (F:World) (M:List Nat):Prop where
 fst:∀ H,Rd F M H (some ⟨0,0,none⟩) Z8o
 acc:∀ H,Rd F M H (some ⟨1,0,none⟩) accL
theorem Z8n {c:Nat} (h:c < 256):Z8o[c]?=some (.int .u8 (firstT c:Nat)):=by simp [Z8o,h]
theorem Z7K:∀ i:Fin 16,(accL.drop (i.val*2)).take 2=[.int .u8 (accLo i.val:Nat),.int .u8 (accHi i.val:Nat)]:=by
 intro i
 have h1:=Z5J (g:=fun i=>[Value.int .u8 (accLo i:Nat),.int .u8 (accHi i:Nat)]) (sz:=2) (xs:=List.range 16) (i:=i.val) (fun _=>rfl) (by simp)
 unfold accL
 rw [h1]
 have h2:(List.range 16).getD i.val default=i.val:=by simp [List.getD,i.isLt]
 rw [h2]
 rfl
theorem Tabs.met {F:World} {M:List Nat} (h:Tabs F M) {w:World} {H:List Res} (hw:St F M w H):Utf8Tabs 0 1 w:=by
 have h1:=(h.fst H).h w hw
 have h2:=(h.acc H).h w hw
 have hlen:accL.length=32:=by decide
 refine ⟨fun c hc=>?_,fun i hi=>?_⟩
 ·obtain ⟨ad,e1,e2⟩:=h1 c _ (Z8n hc)
  simp only [Option.some.injEq] at e1
  subst e1
  simpa [Zm] using e2
 ·have h3:=Z7K ⟨i,hi⟩
  simp only at h3
  have g0:accL[2*i]?=some (.int .u8 (accLo i:Nat)):=by
   have:=congrArg (fun l=>l[0]?) h3
   simpa [List.getElem?_take,List.getElem?_drop,Nat.mul_comm] using this
  have g1:accL[2*i+1]?=some (.int .u8 (accHi i:Nat)):=by
   have:=congrArg (fun l=>l[1]?) h3
   simpa [List.getElem?_take,List.getElem?_drop,Nat.mul_comm] using this
  obtain ⟨ad,e1,e2⟩:=h2 _ _ g0
  obtain ⟨ad',e1',e2'⟩:=h2 _ _ g1
  simp only [Option.some.injEq] at e1 e1'
  subst e1 e1'
  refine ⟨?_,?_⟩
  ·simpa [Zm] using e2
  ·simpa [Zm] using e2'
theorem ZaG (b:Nat):firstT b < 256:=by
 have:=firstT_cases b
 omega
theorem ZaB {F:World} {M:List Nat} {H:List Res} (hT:Tabs F M) {l:List UInt8} (h0:0 < l.length) (hl:l.length≤1000000000) :
  Meets Tryz.prog 163 [sV l] F M H (fun e H'=>e=.returned (.bool (Z4o l.length (bAt l 0) (bAt l 1) (bAt l 2)))∧H'=H):=by
 refine Meets.enter Tryz.func163 rfl rfl ?_
 have i1:=hT.fst
 have i2:=hT.acc
 have hb0:=Z2k l 0
 have hx:=ZaG (bAt l 0)
 have g1:=Z8n hb0
 have g2:=Z7K ⟨firstT (bAt l 0) / 2 ^ 4,by omega⟩
 simp only at g2
 have hfull:Z4o l.length (bAt l 0) (bAt l 1) (bAt l 2)=decide (firstT (bAt l 0) % 8≤l.length∨(1 < l.length∧(bAt l 1 < accLo (firstT (bAt l 0) / 2 ^ 4)∨accHi (firstT (bAt l 0) / 2 ^ 4) < bAt l 1))∨(2 < l.length∧(bAt l 2 < 128∨191 < bAt l 2))):=by
  unfold Z4o
  simp only [Bool.decide_or,Bool.decide_and]
 rw [hfull]
 have hlen:accL.length=32:=by decide
 have e7:firstT (bAt l 0)&&&7=firstT (bAt l 0) % 8:=by
  rw [show 7=2 ^ 3 - 1 from rfl,Nat.and_two_pow_sub_one_eq_mod]
 have g3:(accL.drop (0+((firstT (bAt l 0) / 2 ^ 4:Nat):Int).toNat*2)).take 2=[.int .u8 (accLo (firstT (bAt l 0) / 2 ^ 4):Nat),.int .u8 (accHi (firstT (bAt l 0) / 2 ^ 4):Nat)]:=by
  rw [Nat.zero_add,Int.toNat_natCast]
  exact g2
 have u0:(l.getD 0 0).toNat=bAt l 0:=rfl
 have u1:(l.getD 1 0).toNat=bAt l 1:=rfl
 have u2:(l.getD 2 0).toNat=bAt l 2:=rfl
 repeat' (first|(refine T.sidx (i:=0) rfl rfl (by omega) rfl ?_)|(refine T.sidx (i:=1) rfl rfl (by omega) rfl ?_)|(refine T.sidx (i:=2) rfl rfl (by omega) rfl ?_)|(apply T.loadG;apply rfl;apply rfl;exact i1 _;exact g1;apply rfl)|(apply T.loadGN;apply rfl;apply rfl;exact i2 _;omega;omega;exact g3;apply rfl)|((with_reducible apply T.andU8 (n:=7));apply rfl;apply rfl;omega;omega;apply rfl;rw [e7])|((with_reducible apply T.shrU8 (n:=4));apply rfl;apply rfl;omega;apply rfl)|(apply T.alloc;apply rfl;intro nb)|refine Sg.Y3 ?_|(apply S.condQ;apply rfl;all_goals intro _)|(apply T.gcase;apply rfl;apply rfl;all_goals intro _)|fail)
 all_goals first
  | exact ⟨_,PSub.refl _,by rw [decide_eq_true (by omega)],rfl⟩
  | exact ⟨_,PSub.drop (PSub.refl _),by rw [decide_eq_true (by omega)],rfl⟩
  | exact ⟨_,PSub.drop (PSub.refl _),by rw [decide_eq_false (by omega)],rfl⟩
section
variable {F:World} {M:List Nat} {H:List Res} {p:Nat} {t:List UInt8} {o n m:Value} {a s:Nat} {k:List UInt8} {c b:Int}
theorem Z7G (hT:Tabs F M) (l:List UInt8) {H:List Res}:Meets Tryz.prog 162 [sV l] F M H (fun e H'=>e=.returned (.tuple ⟨[.int .i32 ((decodeGo (ByteArray.mk l.toArray)).1:Nat),.int .i64 ((decodeGo (ByteArray.mk l.toArray)).2:Nat)]⟩)∧H'=H):=fun w hw =>
 (Tryz.utf8_DecodeRuneInString (ByteArray.mk l.toArray) w (hT.met hw)).mono fun e w' ⟨h1,h2⟩=>⟨H,⟨h1,rfl⟩,hw.below h2⟩
theorem get!_bAt (l:List UInt8) (j:Nat):((ByteArray.mk l.toArray).get! j).toNat=bAt l j:=by
 show (l.toArray[j]!).toNat=_
 simp [bAt,List.getD,getElem!_def]
 cases l[j]?<;>rfl
theorem Z7H {l:List UInt8} (h:0 < l.length):decodeGo (ByteArray.mk l.toArray)=decodeN l.length (bAt l 0) (bAt l 1) (bAt l 2) (bAt l 3):=by
 have hs:(ByteArray.mk l.toArray).size=l.length:=rfl
 unfold decodeGo
 rw [if_neg (by omega),decode_at,get!_bAt,get!_bAt,get!_bAt,get!_bAt,hs,Nat.sub_zero]
theorem Z0r (t:List UInt8) (p j:Nat):bAt (t.drop p) j=bAt t (p+j):=by
 unfold bAt
 simp [List.getD,List.getElem?_drop]
def JrQ (p:Nat) (t:List UInt8) (o n m:Value) (a s:Nat) (k:List UInt8) (c b:Int) (H:List Res):Gt Unit→Ending→List Res→Prop
 | .ok a' _=>fun e H'=>e=.returned (.tuple ⟨[.int .i64 ((a' - a:Nat):Int),.bool true]⟩)∧H'=.blk p (jrV t o n m a s k c b) 98::H
 | .bad c' b'=>fun e H'=>e=.returned (.tuple ⟨[.int .i64 0,.bool false]⟩)∧H'=.blk p (jrV t o n m a s k c' b') 98::H
theorem Z5n (hT:Tabs F M) {ch:UInt8} (hc:t[a]?=some ch) (h128:128≤ch.toNat) (hl:t.length≤1000000000):Meets Tryz.prog 134 [.pointer (some ⟨p,0,none⟩)] F M (.blk p (jrV t o n m a s k c b) 98::H) (JrQ p t o n m a s k c b H (Z0G t a ch)):=by
 refine Meets.enter Tryz.func134 rfl rfl ?_
 have hlt:=(List.getElem?_eq_some_iff.1 hc).1
 have hsay:=Z5o hc h128
 have hch:bAt t a=ch.toNat:=Z2j hc
 have hne:0 < (t.drop a).length:=by rw [List.length_drop];omega
 have d0:=Z7H hne
 rw [Z0r,Z0r,Z0r,Z0r,List.length_drop,Nat.add_zero,hch] at d0
 have d1:∀ {X:List Res},Meets Tryz.prog 162 [sV (t.drop a)] F M X (fun e H'=>e=.returned (.tuple ⟨[.int .i32 ((decodeGo (ByteArray.mk (t.drop a).toArray)).1:Nat),.int .i64 ((decodeGo (ByteArray.mk (t.drop a).toArray)).2:Nat)]⟩)∧H'=X):=Z7G hT _
 have d2:∀ {X:List Res},Meets Tryz.prog 163 [sV (t.drop a)] F M X (fun e H'=>e=.returned (.bool (Z4o (t.length - a) ch.toNat (bAt t (a+1)) (bAt t (a+2))))∧H'=X):=by
  intro X
  have:=ZaB (H:=X) hT (l:=t.drop a) hne (by rw [List.length_drop];omega)
  rw [Z0r,Z0r,Z0r,List.length_drop,Nat.add_zero,hch] at this
  exact this
 rw [d0] at d1
 unfold Z30 at hsay
 generalize decodeN (t.length - a) ch.toNat (bAt t (a+1)) (bAt t (a+2)) (bAt t (a+3))=dd at *
 generalize Z4o (t.length - a) ch.toNat (bAt t (a+1)) (bAt t (a+2))=ff at *
 repeat' (first|refine Sg.Y1 ?_|fail)
 cases hx:Z0G t a ch with
 | ok a' u =>
  rw [hx] at hsay
  simp only at hsay
  obtain ⟨h1,h2,h3⟩:=hsay
  (apply S.draw;(case Hs=>exact .blk p (jrV t o n m a s k c b) 98::H);(case es=>exact  [9]);(case n=>exact  15);(case hn=>rfl))
  repeat' (first|(apply T.call;apply rfl;apply rfl;with_reducible exact d1;rintro _ _ ⟨rfl,rfl⟩)|(apply SA.qn;(iterate 4 apply rfl);kernel_rfl)|(apply SA.done;apply rfl;kernel_rfl)|(apply SK.intro;(first|exact fun _ h=>h|exact fun _ h=>St.psub h (by ((repeat (first|dsimp only [List.set_cons_zero]|dsimp only [List.set_cons_succ]));repeat' first|exact PSub.refl _|exact PSub.nil|(apply PSub.take;(repeat' first|(with_reducible exact Z0)|(with_reducible apply Z1)))|(with_reducible apply PSub.drop)|((apply PSub.take);(repeat' first|exact Z0|(apply Z1)))))))|refine Sg.Y4 ?_|(apply S.condQ;apply rfl;all_goals intro _)|(apply T.gcase;apply rfl;apply rfl;all_goals intro _)|fail)
  all_goals
   rw [h1]
   exact ⟨_,PSub.refl _,rfl,rfl⟩
 | bad e q =>
  rw [hx] at hsay
  simp only at hsay
  obtain ⟨rfl,h2⟩:=hsay
  (apply S.draw;(case Hs=>exact .blk p (jrV t o n m a s k c b) 98::H);(case es=>exact  [9]);(case n=>exact  15);(case hn=>rfl))
  repeat' (first|(apply T.call;apply rfl;apply rfl;with_reducible exact d1;rintro _ _ ⟨rfl,rfl⟩)|(apply SA.qn;(iterate 4 apply rfl);kernel_rfl)|(apply SA.done;apply rfl;kernel_rfl)|(apply SK.intro;(first|exact fun _ h=>h|exact fun _ h=>St.psub h (by ((repeat (first|dsimp only [List.set_cons_zero]|dsimp only [List.set_cons_succ]));repeat' first|exact PSub.refl _|exact PSub.nil|(apply PSub.take;(repeat' first|(with_reducible exact Z0)|(with_reducible apply Z1)))|(with_reducible apply PSub.drop)|((apply PSub.take);(repeat' first|exact Z0|(apply Z1)))))))|refine Sg.Y5 ?_|fail)
  rcases h2 with ⟨rfl,rfl,rfl⟩|⟨rfl,rfl,rfl⟩
  ·(apply S.draw;(case Hs=>exact .blk p (jrV t o n m a s k c b) 98::H);(case es=>exact  [9]);(case n=>exact  11);(case hn=>rfl))
   repeat' (first|(apply T.call;apply rfl;apply rfl;with_reducible exact d2;rintro _ _ ⟨rfl,rfl⟩)|(apply T.call;apply rfl;apply rfl;with_reducible exact ZX;rintro _ _ ⟨rfl,rfl⟩)|(apply SA.qn;(iterate 4 apply rfl);kernel_rfl)|(apply SA.done;apply rfl;kernel_rfl)|(apply SK.intro;(first|exact fun _ h=>h|exact fun _ h=>St.psub h (by ((repeat (first|dsimp only [List.set_cons_zero]|dsimp only [List.set_cons_succ]));repeat' first|exact PSub.refl _|exact PSub.nil|(apply PSub.take;(repeat' first|(with_reducible exact Z0)|(with_reducible apply Z1)))|(with_reducible apply PSub.drop)|((apply PSub.take);(repeat' first|exact Z0|(apply Z1)))))))|refine Sg.Y5 ?_|fail)
   exact ⟨_,PSub.refl _,rfl,rfl⟩
  ·(apply S.draw;(case Hs=>exact .blk p (jrV t o n m q s k c b) 98::H);(case es=>exact  [9]);(case n=>exact  11);(case hn=>rfl))
   repeat' (first|(apply T.call;apply rfl;apply rfl;with_reducible exact d2;rintro _ _ ⟨rfl,rfl⟩)|(apply T.call;apply rfl;apply rfl;with_reducible exact ZX;rintro _ _ ⟨rfl,rfl⟩)|(apply SA.qn;(iterate 4 apply rfl);kernel_rfl)|(apply SA.done;apply rfl;kernel_rfl)|(apply SK.intro;(first|exact fun _ h=>h|exact fun _ h=>St.psub h (by ((repeat (first|dsimp only [List.set_cons_zero]|dsimp only [List.set_cons_succ]));repeat' first|exact PSub.refl _|exact PSub.nil|(apply PSub.take;(repeat' first|(with_reducible exact Z0)|(with_reducible apply Z1)))|(with_reducible apply PSub.drop)|((apply PSub.take);(repeat' first|exact Z0|(apply Z1)))))))|refine Sg.Y5 ?_|fail)
   exact ⟨_,PSub.refl _,rfl,rfl⟩
end
end Go.Proofs.YtjajcmedipjfhaaGreatDoor
/- The walks of the program's reader of JSON: strings. -/
namespace Go.Proofs.YtjajcmedipjfhaaGreatDoor
open Sg Go.IntWalk
set_option maxRecDepth 100000
set_option maxHeartbeats 4000000
section
variable {F:World} {M:List Nat} {H:List Res} {p:Nat} {t:List UInt8} {o n m:Value} {a s:Nat} {k:List UInt8} {c b:Int}
def JrS (p:Nat) (t:List UInt8) (o n m:Value) (s:Nat) (k:List UInt8) (c b:Int) (H:List Res):Gt (List UInt8)→Ending→List Res→Prop
 | .ok a' x=>fun e H'=>e=.returned (.tuple ⟨[sV x,.bool true]⟩)∧H'=.blk p (jrV t o n m a' s k c b) 98::H
 | .bad c' b'=>fun e H'=>∃ a':Nat,e=.returned (.tuple ⟨[sV [],.bool false]⟩)∧H'=.blk p (jrV t o n m a' s k c' b') 98::H
theorem Z3K {f q:Nat} {acc:List UInt8} {ch:UInt8} (hc:t[q]?=some ch):Z0c t (f+1) q acc=if ch.toNat < 32 then .bad 31 q else if ch.toNat=34 then .ok (q+1) acc else if ch.toNat=92 then (escX t q).bind fun a u=>Z0c t f a (acc++utfL u) else
  if ch.toNat < 128 then Z0c t f (q+1) (acc++[ch]) else (Z0G t q ch).bind fun a _=>Z0c t f a (acc++(t.drop q).take (a - q)):=by
 have e1:(ch < 32)=(ch.toNat < 32):=rfl
 have e2:(ch=34)=(ch.toNat=34):=propext UInt8.toNat_inj.symm
 have e3:(ch=92)=(ch.toNat=92):=propext UInt8.toNat_inj.symm
 have e4:(ch < 128)=(ch.toNat < 128):=rfl
 rw [Z0c,hc]
 simp only
 by_cases h1:ch.toNat < 32
 ·rw [if_pos h1,if_pos (e1 ▸ h1)]
 rw [if_neg h1,if_neg (by rw [e1];exact h1)]
 by_cases h2:ch.toNat=34
 ·rw [if_pos h2,if_pos (by rw [e2];exact h2)]
 rw [if_neg h2,if_neg (by rw [e2];exact h2)]
 by_cases h3:ch.toNat=92
 ·rw [if_pos h3,if_pos (by rw [e3];exact h3)]
 rw [if_neg h3,if_neg (by rw [e3];exact h3)]
 by_cases h4:ch.toNat < 128
 ·rw [if_pos h4,if_pos (by rw [e4];exact h4)]
 rw [if_neg h4,if_neg (by rw [e4];exact h4)]
theorem Z5g (u:Nat):1≤(utfL u).length∧(utfL u).length≤4:=by
 unfold utfL
 repeat' split
 all_goals simp
theorem Z3I (hT:Tabs F M) (ha:a < t.length) (hl:t.length≤262144):Meets Tryz.prog 106 [.pointer (some ⟨p,0,none⟩)] F M (.blk p (jrV t o n m a s k c b) 98::H) (JrS p t o n m s k c b H (ZB t (a+1))):=by
 refine Meets.enter Tryz.func106 rfl rfl ?_
 refine S.nilrow 5 1 ?_
 refine S.front p ?_
 repeat' (first|refine Sg.Y1 ?_|fail)
 refine S.loopE 2 [0] (fun R b' μ H' e=>∃ (q f:Nat) (acc:List UInt8) (ad:Option Addr) (cp nn:Nat),H'=.blk p (jrV t o n m q s k c b) 98::.row ad cp 5 1 nn (acc.map bV)::R∧e=(4,.slice ad nn cp)::b'∧(q≤t.length∧t.length < q+f∧acc.length=nn∧nn≤4*q∧ZB t (a+1)=Z0c t f q acc)∧μ=t.length - q) rfl rfl ?_ _ _ ⟨a+1,t.length+1 - (a+1),[],none,0,0,rfl,rfl,⟨by omega,by omega,rfl,by omega,rfl⟩,rfl⟩ (by repeat' first|exact trivial|refine And.intro rfl ?_)
 rintro _ _ _ ⟨q,f,acc,ad,cp,nn,rfl,rfl,⟨h1,h2,h3,h4,h5⟩,rfl⟩ ih
 subst h3
 obtain ⟨f,rfl⟩:∃ g,f=g+1:=⟨f - 1,by omega⟩
 rcases Nat.lt_or_ge q t.length with h6|h6
 ·have hq:t[q]?=some (t.getD q 0):=by simp [List.getD,h6]
  have hu:=(t.getD q 0).toNat_lt
  rw [Z3K hq] at h5
  by_cases c1:(t.getD q 0).toNat < 32
  ·rw [if_pos c1] at h5
   rw [h5]
   repeat' (first|refine Sg.Y3 ?_|(apply S.condQ;apply rfl;all_goals intro _)|fail)
   refine T.call rfl rfl ZG ?_
   rintro _ _ ⟨rfl,rfl⟩
   repeat' (first|refine Sg.Y2 ?_|fail)
   exact ⟨_,by ((repeat (first|dsimp only [List.set_cons_zero]|dsimp only [List.set_cons_succ]));repeat' first|exact PSub.refl _|exact PSub.nil|(apply PSub.take;(repeat' first|(with_reducible exact Z0)|(with_reducible apply Z1)))|(with_reducible apply PSub.drop)|((apply PSub.take);(repeat' first|exact Z0|(apply Z1)))),q,rfl,rfl⟩
  rw [if_neg c1] at h5
  by_cases c2:(t.getD q 0).toNat=34
  ·rw [if_pos c2] at h5
   rw [h5]
   repeat' (first|refine Sg.Y3 ?_|(apply S.condQ;apply rfl;all_goals intro _)|fail)
   exact ⟨_,PSub.take Z0 (PSub.drop (PSub.refl _)),rfl,rfl⟩
  rw [if_neg c2] at h5
  by_cases c3:(t.getD q 0).toNat=92
  ·rw [if_pos c3] at h5
   repeat' (first|refine Sg.Y3 ?_|(apply S.condQ;apply rfl;all_goals intro _)|fail)
   refine T.call rfl rfl (Z7w h6 (by omega)) ?_
   have hfit:=Z1h (t:=t) (fr:=q)
   have hrune:=fun a u=>Z6J (t:=t) (fr:=q) (a:=a) (u:=u)
   cases hx:escX t q with
   | bad e1 q1 =>
    rw [hx] at h5
    rw [h5]
    rintro _ _ ⟨a1,z,hz,rfl,rfl⟩
    repeat' (first|refine Sg.Y1 ?_|fail)
    exact ⟨_,by ((repeat (first|dsimp only [List.set_cons_zero]|dsimp only [List.set_cons_succ]));repeat' first|exact PSub.refl _|exact PSub.nil|(apply PSub.take;(repeat' first|(with_reducible exact Z0)|(with_reducible apply Z1)))|(with_reducible apply PSub.drop)|((apply PSub.take);(repeat' first|exact Z0|(apply Z1)))),a1,rfl,rfl⟩
   | ok a1 u =>
    rw [hx] at h5
    obtain ⟨r1,r2⟩:=hrune a1 u hx
    obtain ⟨r3,r4⟩:=hfit a1 u hx
    rintro _ _ ⟨rfl,rfl⟩
    repeat' (first|refine Sg.Y1 ?_|fail)
    refine Sr.frontR ad ?_
    refine T.call rfl rfl (Z4d (by omega) r1 r2) ?_
    rintro _ _ ⟨ad',cp',mm,rfl,rfl,rfl⟩
    repeat' (first|refine Sg.Y2 ?_|fail)
    refine S.front p ?_
    have hle:=Z5g u
    exact ih _ _ _ _ ⟨a1,f,acc++utfL u,ad',cp',_,rfl,rfl,⟨r4,by omega,by rw [List.length_append],by omega,h5⟩,rfl⟩ (by omega) (by repeat' first|exact trivial|refine And.intro rfl ?_)
  rw [if_neg c3] at h5
  by_cases c4:(t.getD q 0).toNat < 128
  ·rw [if_pos c4] at h5
   repeat' (first|(apply T.bs;(iterate 6 apply rfl);intro nb)|(apply T.appendB;apply rfl;apply rfl;infer_instance;apply rfl;(constructor<;>omega);apply rfl;intro na nc)|refine Sg.Y3 ?_|(apply S.condQ;apply rfl;all_goals intro _)|fail)
   exact ih _ _ _ _ ⟨q+1,f,acc++[t.getD q 0],na,nc,_,rfl,rfl,⟨by omega,by omega,by simp,by omega,h5⟩,rfl⟩ (by omega) (by repeat' first|exact trivial|refine And.intro rfl ?_)
  rw [if_neg c4] at h5
  repeat' (first|refine Sg.Y3 ?_|(apply S.condQ;apply rfl;all_goals intro _)|fail)
  refine T.call rfl rfl (Z5n hT hq (by omega) (by omega)) ?_
  have hfit:=Z0K (t:=t) (p:=q) (c:=t.getD q 0) h6
  cases hx:Z0G t q (t.getD q 0) with
  | bad e1 q1 =>
   rw [hx] at h5
   rw [h5]
   rintro _ _ ⟨rfl,rfl⟩
   repeat' (first|refine Sg.Y1 ?_|fail)
   exact ⟨_,by ((repeat (first|dsimp only [List.set_cons_zero]|dsimp only [List.set_cons_succ]));repeat' first|exact PSub.refl _|exact PSub.nil|(apply PSub.take;(repeat' first|(with_reducible exact Z0)|(with_reducible apply Z1)))|(with_reducible apply PSub.drop)|((apply PSub.take);(repeat' first|exact Z0|(apply Z1)))),q,rfl,rfl⟩
  | ok a1 u =>
   rw [hx] at h5
   obtain ⟨r3,r4⟩:=hfit a1 u hx
   rintro _ _ ⟨rfl,rfl⟩
   have e1:(q:Int)+((a1 - q:Nat):Int)=((a1:Nat):Int):=by omega
   have hl2:((t.drop q).take (a1 - q)).length=a1 - q:=by rw [List.length_take,List.length_drop];omega
   repeat' (first|refine Sg.Y1 ?_|fail)
   (apply S.draw;(case Hs=>exact .blk p (jrV t o n m q s k c b) 98::H);(case es=>exact  [16]);(case n=>exact  18);(case hn=>rfl))
   repeat' (first|(apply T.addI;apply rfl;apply rfl;omega;apply rfl;rw [e1])|(apply T.appendS;apply rfl;apply rfl;infer_instance;omega;apply rfl;intro na nc)|(apply SA.qn;(iterate 4 apply rfl);kernel_rfl)|(apply SA.done;apply rfl;kernel_rfl)|(apply SK.intro;(first|exact fun _ h=>h|exact fun _ h=>St.psub h (by ((repeat (first|dsimp only [List.set_cons_zero]|dsimp only [List.set_cons_succ]));repeat' first|exact PSub.refl _|exact PSub.nil|(apply PSub.take;(repeat' first|(with_reducible exact Z0)|(with_reducible apply Z1)))|(with_reducible apply PSub.drop)|((apply PSub.take);(repeat' first|exact Z0|(apply Z1)))))))|refine Sg.Y2 ?_|fail)
   exact ih _ _ _ _ ⟨a1,f,acc++(t.drop q).take (a1 - q),na,nc,_,rfl,rfl,⟨r4,by omega,by rw [List.length_append],by omega,h5⟩,rfl⟩ (by omega) (by repeat' first|exact trivial|refine And.intro rfl ?_)
 ·obtain rfl:q=t.length:=by omega
  have h7:Z0c t (f+1) t.length acc=.bad 31 t.length:=by rw [Z0c,List.getElem?_eq_none (Nat.le_refl _)]
  rw [h5,h7]
  repeat' (first|refine Sg.Y3 ?_|(apply S.condQ;apply rfl;all_goals intro _)|fail)
  refine T.call rfl rfl ZG ?_
  rintro _ _ ⟨rfl,rfl⟩
  repeat' (first|refine Sg.Y2 ?_|fail)
  exact ⟨_,by ((repeat (first|dsimp only [List.set_cons_zero]|dsimp only [List.set_cons_succ]));repeat' first|exact PSub.refl _|exact PSub.nil|(apply PSub.take;(repeat' first|(with_reducible exact Z0)|(with_reducible apply Z1)))|(with_reducible apply PSub.drop)|((apply PSub.take);(repeat' first|exact Z0|(apply Z1)))),_,rfl,rfl⟩
end
end Go.Proofs.YtjajcmedipjfhaaGreatDoor
/- Numbers of JSON texts, in plain Lean: their parts; the whole number that is spelled as one. -/
namespace Sg
def cutP (c:UInt8) (s:List UInt8):List UInt8 × Bool:=match s with
 | x::r=>if x=c then (r,true) else (x::r,false)
 | []=>([],false)
def runD (s:List UInt8):Nat:=(s.takeWhile ZQ).length
def Z7t (s:List UInt8):Option (List UInt8 × Bool):=if (cutP 46 s).2=true then (if runD (cutP 46 s).1=0 then none else some ((cutP 46 s).1.drop (runD (cutP 46 s).1),false)) else some (s,true)
def Z2y (s:List UInt8):List UInt8:=match s with
 | x::r=>if x=43∨x=45 then r else x::r
 | []=>[]
def expP (s:List UInt8):Option (List UInt8 × Bool):=match s with
 | x::r=>if x=101∨x=69 then (if Z2y r=[]∨runD (Z2y r)≠(Z2y r).length then none else some ([],false)) else some (x::r,true)
 | []=>some ([],true)
def Z2G (s:List UInt8):Bool:=decide (runD s=0) || (decide (1 < runD s)&&decide (bAt s 0=48))
def numP (t:List UInt8):Option (Bool × List UInt8 × Bool) :=
 if Z2G (cutP 45 t).1=true then none else
 match Z7t ((cutP 45 t).1.drop (runD (cutP 45 t).1)) with
 | none=>none
 | some (s3,p1)=>match expP s3 with
  | none=>none
  | some (s6,p2)=>if s6=[] then some ((cutP 45 t).2,(cutP 45 t).1.take (runD (cutP 45 t).1),p1&&p2) else none
def decV (l:List UInt8):Nat:=l.foldl (fun n c=>10*n+(c.toNat - 48)) 0
def whole64 (mi:Bool) (v:Nat):Int × Bool:=if mi=true then (if v≤9223372036854775808 then (-(v:Int),true) else (0,false)) else if v < 9223372036854775808 then ((v:Int),true) else (0,false)
def Z6 (t:List UInt8):Int × Bool:=match numP t with
 | some (mi,w,true)=>whole64 mi (decV w)
 | _=>(0,false)
theorem Zap {f:UInt8→Bool} {x:UInt8}:∀ {l:List UInt8},x∈l.takeWhile f→f x=true
 | [],h=>by cases h
 | a::r,h=>by
  by_cases ha:f a=true
  ·rw [List.takeWhile_cons_of_pos ha,List.mem_cons] at h
   rcases h with rfl|h
   ·exact ha
   ·exact Zap h
  ·rw [List.takeWhile_cons_of_neg ha] at h
   cases h
theorem Z2O (s:List UInt8):runD s≤s.length:=Z1B s
theorem Z4H {s:List UInt8} {j:Nat} (h:j < runD s):48≤bAt s j∧bAt s j≤57:=by
 have h1:j < s.length:=Nat.lt_of_lt_of_le h (Z2O s)
 have h2:(s.takeWhile ZQ)[j]?=s[j]?:=by
  have:=(List.takeWhile_prefix ZQ (l:=s))
  obtain ⟨r,hr⟩:=this
  conv=>rhs;rw [←hr]
  rw [List.getElem?_append_left h]
 have h3:s[j]∈s.takeWhile ZQ:=by
  rw [List.getElem?_eq_getElem h1] at h2
  exact List.mem_of_getElem? h2
 have h4:=Zap h3
 have h5:=digitB_iff.1 h4
 rw [←Z2j (List.getElem?_eq_getElem h1)] at h5
 exact h5
theorem Z49 (l:List UInt8) (c:UInt8):decV (l++[c])=10*decV l+(c.toNat - 48):=by simp [decV]
theorem Z6Q {l:List UInt8} {i:Nat} (h:i≤l.length):decV (l.take i)≤decV l:=by
 induction hn:l.length - i generalizing i with
 | zero=>rw [List.take_of_length_le (by omega)];exact Nat.le_refl _
 | succ n ih =>
  have h1:i < l.length:=by omega
  have h2:=ih (i:=i+1) (by omega) (by omega)
  rw [List.take_succ_eq_append_getElem h1,Z49] at h2
  omega
theorem Z5P (c:UInt8) (s:List UInt8):(cutP c s).1.length≤s.length:=by
 unfold cutP
 split
 ·split
  ·simp
  ·simp
 ·simp
set_option maxRecDepth 100000 in
theorem or32:∀ x:Fin 256,(UInt8.ofNat x.val|||32=101)=(UInt8.ofNat x.val=101∨UInt8.ofNat x.val=69):=by decide
theorem Z8c (x:UInt8):x|||32=101↔(x=101∨x=69):=by
 have:=or32 ⟨x.toNat,x.toNat_lt⟩
 simp only [UInt8.ofNat_toNat] at this
 rw [this]
end Sg
/- The walks of the program's numbers: their parts, whole ones. -/
namespace Go.Proofs.YtjajcmedipjfhaaGreatDoor
open Sg Go.IntWalk
set_option maxRecDepth 100000
set_option maxHeartbeats 2000000
section
variable {F:World} {M:List Nat} {H:List Res}
theorem Z40 {s pr:List UInt8} {c:UInt8} (hp:pr=[c]) (hl:s.length≤1000000000):Meets Tryz.prog 172 [sV s,sV pr] F M H (fun e H'=>e=.returned (.bool (cutP c s).2)∧H'=H):=by
 refine Meets.enter Tryz.func172 rfl rfl ?_
 have h1:pr.length=1:=by rw [hp];rfl
 have e2:s.length≠0→decide (s.take pr.length=pr)=(cutP c s).2:=by
  intro h0
  cases s with
  | nil=>exact absurd rfl h0
  | cons x r =>
   rw [hp]
   unfold cutP
   by_cases h:x=c
   ·simp [h]
   ·simp [h]
 have e3:s.length=0→(cutP c s).2=false:=by
  intro h0
  rw [List.length_eq_zero_iff.1 h0]
  rfl
 by_cases h0:s.length=0
 ·rw [e3 h0]
  repeat' (first|refine Sg.Y3 ?_|(apply T.gcase;apply rfl;apply rfl;all_goals intro _)|fail)
  exact ⟨_,PSub.refl _,rfl,rfl⟩
 ·rw [←e2 h0]
  repeat' (first|(refine T.ssliceH (j:=pr.length) rfl rfl (by omega) rfl ?_)|refine Sg.Y3 ?_|(apply T.gcase;apply rfl;apply rfl;all_goals intro _)|fail)
  all_goals exact ⟨_,PSub.refl _,rfl,rfl⟩
theorem Z1O {s pr:List UInt8} {c:UInt8} (hp:pr=[c]) (hl:s.length≤1000000000):Meets Tryz.prog 126 [sV s,sV pr] F M H (fun e H'=>e=.returned (.tuple ⟨[sV (cutP c s).1,.bool (cutP c s).2]⟩)∧H'=H):=by
 have h1:pr.length=1:=by rw [hp];rfl
 have inner:Meets Tryz.prog 150 [sV s,sV pr] F M H (fun e H'=>e=.returned (.tuple ⟨[sV (cutP c s).1,.bool (cutP c s).2]⟩)∧H'=H):=by
  refine Meets.enter Tryz.func150 rfl rfl ?_
  have c1:=Z40 (F:=F) (M:=M) (H:=H) hp hl
  cases hc:(cutP c s).2 with
  | false =>
   have h2:(cutP c s).1=s:=by
    unfold cutP at hc ⊢
    split at hc
    ·split at hc
     ·cases hc
     ·rename_i h
      rw [if_neg h]
    ·rfl
   rw [hc] at c1
   rw [h2]
   repeat' (first|refine Sg.Y1 ?_|fail)
   refine T.call rfl rfl c1 ?_
   rintro _ _ ⟨rfl,hH⟩
   have hH2:=hH.symm
   subst hH2
   repeat' (first|refine Sg.Y1 ?_|fail)
   exact ⟨_,PSub.refl _,rfl,rfl⟩
  | true =>
   have h2:(cutP c s).1=s.drop pr.length∧pr.length≤s.length:=by
    rw [h1]
    unfold cutP at hc ⊢
    split at hc
    ·split at hc
     ·rename_i h
      rw [if_pos h]
      exact ⟨rfl,by simp⟩
     ·cases hc
    ·cases hc
   rw [hc] at c1
   rw [h2.1]
   have h3:=h2.2
   repeat' (first|refine Sg.Y1 ?_|fail)
   refine T.call rfl rfl c1 ?_
   rintro _ _ ⟨rfl,hH⟩
   have hH2:=hH.symm
   subst hH2
   repeat' (first|(refine T.ssliceL (i:=pr.length) rfl rfl h3 rfl ?_)|refine Sg.Y1 ?_|fail)
   exact ⟨_,PSub.refl _,rfl,rfl⟩
 refine Meets.enter Tryz.func126 rfl rfl ?_
 repeat' (first|refine Sg.Y1 ?_|fail)
 refine T.call rfl rfl inner ?_
 rintro _ _ ⟨rfl,hH⟩
 have hH2:=hH.symm
 subst hH2
 repeat' (first|refine Sg.Y2 ?_|fail)
 exact ⟨_,PSub.refl _,rfl,rfl⟩
theorem Z2N {s:List UInt8} {c:UInt8} (hl:s.length≤1000000000):Meets Tryz.prog 151 [sV s,.int .u8 (c.toNat:Nat)] F M H (fun e H'=>∃ r,e=.returned (sV r)∧H'=H∧r.length≤s.length):=by
 refine Meets.enter Tryz.func151 rfl rfl ?_
 repeat' (first|refine Sg.Y1 ?_|fail)
 refine S.loopE 0 [1] (fun R b' μ H' e=>∃ r:List UInt8,H'=R∧e=(0,sV r)::b'∧r.length≤s.length∧μ=r.length) rfl rfl ?_ _ _ ⟨s,rfl,rfl,Nat.le_refl _,rfl⟩ (by repeat' first|exact trivial|refine And.intro rfl ?_)
 rintro _ _ _ ⟨r,rfl,rfl,h1,rfl⟩ ih
 by_cases h0:r.length=0
 ·repeat' (first|refine Sg.Y3 ?_|(apply T.gcase;apply rfl;apply rfl;all_goals intro _)|fail)
  exact ⟨_,PSub.refl _,r,rfl,rfl,h1⟩
 ·repeat' (first|(refine T.sidx (i:=0) rfl rfl (by omega) rfl ?_)|(refine T.ssliceL (i:=1) rfl rfl (by omega) rfl ?_)|refine Sg.Y3 ?_|(apply S.condQ;apply rfl;all_goals intro _)|(apply T.gcase;apply rfl;apply rfl;all_goals intro _)|fail)
  all_goals first
   | exact ⟨_,PSub.refl _,r,rfl,rfl,h1⟩
   | exact ih _ _ _ _ ⟨r.drop 1,rfl,rfl,by rw [List.length_drop];omega,rfl⟩ (by rw [List.length_drop];omega) (by repeat' first|exact trivial|refine And.intro rfl ?_)
theorem Z2u {s:List UInt8} {c:UInt8} (hl:s.length≤1000000000):Meets Tryz.prog 155 [sV s,.int .u8 (c.toNat:Nat)] F M H (fun e H'=>∃ r,e=.returned (sV r)∧H'=H∧r.length≤s.length):=by
 refine Meets.enter Tryz.func155 rfl rfl ?_
 repeat' (first|refine Sg.Y1 ?_|fail)
 refine S.loopE 0 [1] (fun R b' μ H' e=>∃ r:List UInt8,H'=R∧e=(0,sV r)::b'∧r.length≤s.length∧μ=r.length) rfl rfl ?_ _ _ ⟨s,rfl,rfl,Nat.le_refl _,rfl⟩ (by repeat' first|exact trivial|refine And.intro rfl ?_)
 rintro _ _ _ ⟨r,rfl,rfl,h1,rfl⟩ ih
 by_cases h0:r.length=0
 ·repeat' (first|refine Sg.Y3 ?_|(apply T.gcase;apply rfl;apply rfl;all_goals intro _)|fail)
  exact ⟨_,PSub.refl _,r,rfl,rfl,h1⟩
 ·have e1:(r.length:Int) - 1=((r.length - 1:Nat):Int):=by omega
  repeat' (first|(apply T.subI;apply rfl;apply rfl;omega;apply rfl;rw [e1])|(refine T.ssliceH (j:=r.length - 1) rfl rfl (by omega) rfl ?_)|refine Sg.Y3 ?_|(apply S.condQ;apply rfl;all_goals intro _)|(apply T.gcase;apply rfl;apply rfl;all_goals intro _)|fail)
  all_goals first
   | exact ⟨_,PSub.refl _,r,rfl,rfl,h1⟩
   | exact ih _ _ _ _ ⟨r.take (r.length - 1),rfl,rfl,by rw [List.length_take];omega,rfl⟩ (by rw [List.length_take];omega) (by repeat' first|exact trivial|refine And.intro rfl ?_)
theorem Z0Y {s pr:List UInt8} {c:UInt8} (hp:pr=[c]) (hc:c.toNat < 128) (hl:s.length≤1000000000):Meets Tryz.prog 128 [sV s,sV pr] F M H (fun e H'=>∃ r,e=.returned (sV r)∧H'=H∧r.length≤s.length):=by
 refine Meets.enter Tryz.func128 rfl rfl ?_
 have h1:pr.length=1:=by rw [hp];rfl
 have h2:¬pr=[]:=by rw [hp];simp
 have h3:pr.getD 0 0=c:=by rw [hp];rfl
 by_cases h0:s=[]
 ·repeat' (first|refine Sg.Y3 ?_|(apply T.gcase;apply rfl;apply rfl;all_goals intro _)|fail)
  exact ⟨_,PSub.refl _,s,rfl,rfl,Nat.le_refl _⟩
 ·repeat' (first|(refine T.sidx (i:=0) rfl rfl (by omega) rfl ?_;rw [h3])|refine Sg.Y3 ?_|(apply S.condQ;apply rfl;all_goals intro _)|(apply T.gcase;apply rfl;apply rfl;all_goals intro _)|fail)
  all_goals
   refine T.call rfl rfl (Z2N hl) ?_
   rintro _ _ ⟨r,rfl,hH,hr⟩
   have hH2:=hH.symm
   subst hH2
   repeat' (first|refine Sg.Y2 ?_|fail)
   exact ⟨_,PSub.refl _,r,rfl,rfl,hr⟩
theorem Z3u {s pr:List UInt8} {c:UInt8} (hp:pr=[c]) (hc:c.toNat < 128) (hl:s.length≤1000000000):Meets Tryz.prog 129 [sV s,sV pr] F M H (fun e H'=>∃ r,e=.returned (sV r)∧H'=H∧r.length≤s.length):=by
 refine Meets.enter Tryz.func129 rfl rfl ?_
 have h1:pr.length=1:=by rw [hp];rfl
 have h2:¬pr=[]:=by rw [hp];simp
 have h3:pr.getD 0 0=c:=by rw [hp];rfl
 by_cases h0:s=[]
 ·repeat' (first|refine Sg.Y3 ?_|(apply T.gcase;apply rfl;apply rfl;all_goals intro _)|fail)
  exact ⟨_,PSub.refl _,s,rfl,rfl,Nat.le_refl _⟩
 ·repeat' (first|(refine T.sidx (i:=0) rfl rfl (by omega) rfl ?_;rw [h3])|refine Sg.Y3 ?_|(apply S.condQ;apply rfl;all_goals intro _)|(apply T.gcase;apply rfl;apply rfl;all_goals intro _)|fail)
  all_goals
   refine T.call rfl rfl (Z2u hl) ?_
   rintro _ _ ⟨r,rfl,hH,hr⟩
   have hH2:=hH.symm
   subst hH2
   repeat' (first|refine Sg.Y2 ?_|fail)
   exact ⟨_,PSub.refl _,r,rfl,rfl,hr⟩
theorem Z3h {s:List UInt8} (hl:s.length≤1000000000):Meets Tryz.prog 127 [sV s] F M H (fun e H'=>e=.returned (.int .i64 (runD s:Nat))∧H'=H):=by
 refine Meets.enter Tryz.func127 rfl rfl ?_
 have hr:runD s=Zt s 0:=by unfold runD Zt;simp
 rw [hr]
 repeat' (first|refine Sg.Y1 ?_|fail)
 refine S.loopE 0 [0] (fun R b' μ H' e=>∃ q:Nat,H'=R∧e=(3,.int .i64 q)::b'∧(q≤s.length∧Zt s 0=Zt s q)∧μ=s.length - q) rfl rfl ?_ _ _ ⟨0,rfl,rfl,⟨Nat.zero_le _,rfl⟩,rfl⟩ (by repeat' first|exact trivial|refine And.intro rfl ?_)
 rintro _ _ _ ⟨q,rfl,rfl,⟨h1,h2⟩,rfl⟩ ih
 have hb:bAt s q=(s.getD q 0).toNat:=rfl
 by_cases h3:q < s.length
 ·by_cases h4:48≤bAt s q∧bAt s q≤57
  ·have h5:=Z1N h4
   repeat' (first|refine Sg.Y3 ?_|(apply S.condQ;apply rfl;all_goals intro _)|(apply T.gcase;apply rfl;apply rfl;all_goals intro _)|fail)
   exact ih _ _ _ _ ⟨q+1,rfl,rfl,⟨by omega,h2.trans h5⟩,rfl⟩ (by omega) (by repeat' first|exact trivial|refine And.intro rfl ?_)
  ·rw [h2,Z28 h4]
   repeat' (first|refine Sg.Y3 ?_|(apply S.condQ;apply rfl;all_goals intro _)|(apply T.gcase;apply rfl;apply rfl;all_goals intro _)|fail)
   all_goals exact ⟨_,PSub.refl _,rfl,rfl⟩
 ·rw [h2,Z28 (by rw [Z14 (by omega)];omega)]
  repeat' (first|refine Sg.Y3 ?_|(apply T.gcase;apply rfl;apply rfl;all_goals intro _)|fail)
  exact ⟨_,PSub.refl _,rfl,rfl⟩
end
end Go.Proofs.YtjajcmedipjfhaaGreatDoor
