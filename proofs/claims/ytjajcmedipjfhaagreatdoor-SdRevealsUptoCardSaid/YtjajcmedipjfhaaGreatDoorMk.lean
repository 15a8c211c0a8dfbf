/- Texts put together by a program: ShaF SdA MapN DrawG ShpC. -/
import Derived.Test.YtjajcmedipjfhaaGreatDoorMj
import Derived.Test.YtjajcmedipjfhaaGreatDoorMi
import Derived.Test.YtjajcmedipjfhaaGreatDoorMa
import Derived.Laws.Cover3
import Derived.Test.YtjajcmedipjfhaaGreatDoorMh
import Derived.Test.YtjajcmedipjfhaaGreatDoorMb
import Derived.Test.YtjajcmedipjfhaaGreatDoorMg
/- The document's sum by words of 32 bits. -/
namespace Go.Proofs.YtjajcmedipjfhaaGreatDoor
open Sg Go.IntWalk
set_option maxRecDepth 100000
set_option maxHeartbeats 4000000
theorem ZdG {all:List UInt8} {n j:Nat} (h:j < 64):((all.drop (64*n)).take 64).getD j 0=all.getD (64*n+j) 0:=by rw [Z1c h,Z1d]
theorem Zb5 {V U:V8} {i:Nat} (h:i < 8):(Z4s V U i).list.set i ((Z4s V U i).list.getD i 0+U.list.getD i 0)=(Z4s V U (i+1)).list:=by
 rw [←Z5c h,V8.of_list]
 simp [V8.list]
theorem Z8M {F:World} {M:List Nat} {H:List Res} {sa:Option Addr} {bs:List UInt8} {c:Nat} (hR:Rd F M H sa (bs.map bV)) (hn:bs.length≤140737488355000) (hK:∀ H,Rd F M H (some ⟨9,0,none⟩) (k256.map wV)) (hG:∀ H,Rd F M H (some ⟨8,0,none⟩) (start256.list.map wV)) :
  Meets Tryz.prog 123 [.slice sa bs.length c] F M H (fun e H'=>∃ ad cp,e=.returned (.slice ad (sha256 bs).length cp)∧H'=.row ad cp 5 1 (sha256 bs).length ((sha256 bs).map bV)::H):=by
 refine Meets.enter Tryz.func123 rfl rfl ?_
 repeat' (first|(apply T.loadGA;apply rfl;apply rfl;exact hG _;apply rfl;decide;apply rfl)|(apply T.alloc;apply rfl;intro nb)|refine Sg.Y11 ?_|fail)
 refine T.call rfl rfl (Z7u inferInstance hn) ?_
 rintro _ _ ⟨fa,fc,rfl,rfl⟩
 have hlen:=Z4P bs
 have hmod:=Z8W bs
 have hzz:=(Z1T bs.length).2
 have hsum:sha256 bs=(absorb (padded bs) ((padded bs).length / 64)).list.flatMap bytes4:=rfl
 generalize padded bs=all at *
 repeat' (first|refine Sg.Y11 ?_|fail)
 refine S.front nb ?_
 refine S.loopE 1 [3,4] (fun R b' μ H' e=>∃ n:Nat,H'=.blk nb ((absorb all n).list.map wV) 156::R∧e=(5,.int .i64 ((64*n:Nat):Int))::b'∧n≤all.length / 64∧μ=all.length / 64 - n) rfl rfl ?_ _ _ ⟨0,rfl,rfl,by omega,rfl⟩ (by repeat' first|exact trivial|refine And.intro rfl ?_)
 rintro _ _ _ ⟨n,rfl,rfl,hnl,rfl⟩ ih
 by_cases h0:n < all.length / 64
 ·have hab:absorb all (n+1)=(absorb all n).block ((all.drop (64*n)).take 64):=rfl
  have hat:∀ j,j < 64→((all.drop (64*n)).take 64).getD j 0=all.getD (64*n+j) 0:=fun j h=>ZdG h
  generalize absorb all n=V at *
  generalize (all.drop (64*n)).take 64=bk at *
  repeat' (first|(apply T.alloc;apply rfl;intro nb)|refine Sg.Y12 ?_|(apply S.condQ;apply rfl;all_goals intro _)|fail)
  rename_i hb
  refine S.loopE 1 [3,4,5,6] (fun R b' μ H' e=>∃ (i:Nat) (W:List UInt32),H'=.blk nb ((W++List.replicate (64 - i) 0).map wV) 197::R∧e=(7,.int .i64 i)::b'∧W.length=i∧(i≤16→W=Z0T bk i)∧(16≤i→W=sched (Z0T bk 16) (i - 16))∧i≤64∧μ=64 - i) rfl rfl ?_ _ _ ⟨0,[],rfl,rfl,rfl,fun _=>rfl,fun h=>absurd h (by decide),by omega,rfl⟩ (by repeat' first|exact trivial|refine And.intro rfl ?_)
  rintro _ _ _ ⟨i,W,rfl,rfl,hW,hW1,hW2,hi,rfl⟩ ih2
  by_cases h1:i < 16
  ·have hw:=hW1 (by omega)
   repeat' (first|((with_reducible apply T.mulKN (n:=4));apply rfl;apply rfl;omega;apply rfl)|refine Sg.Y12 ?_|(apply S.condQ;apply rfl;all_goals intro _)|fail)
   (apply S.draw;(case Hs=>exact [.row fa fc 5 1 all.length (all.map bV)]);(case es=>exact  [31]);(case n=>exact  32);(case hn=>rfl))
   repeat' (first|(apply SA.qn;(iterate 4 apply rfl);kernel_rfl)|(apply SA.done;apply rfl;kernel_rfl)|(apply SK.intro;(first|exact fun _ h=>h|exact fun _ h=>St.psub h (by ((repeat (first|dsimp only [List.set_cons_zero]|dsimp only [List.set_cons_succ]));repeat' first|exact PSub.refl _|exact PSub.nil|(apply PSub.take;(repeat' first|(with_reducible exact Z0)|(with_reducible apply Z1)))|(with_reducible apply PSub.drop)|((apply PSub.take);(repeat' first|exact Z0|(apply Z1)))))))|refine Sg.Y13 ?_|fail)
   have hx:W++[Zc1 (all.getD (64*n+4*i) 0) (all.getD (64*n+4*i+1) 0) (all.getD (64*n+4*i+2) 0) (all.getD (64*n+4*i+3) 0)]=Z0T bk (i+1):=by
    rw [hw,Z0T,hat _ (by omega),hat _ (by omega),hat _ (by omega),hat _ (by omega),←Nat.add_assoc,←Nat.add_assoc,←Nat.add_assoc]
   rw [Z3k (k:=64 - (i+1)) hW rfl (by omega)]
   exact ih2 _ _ _ _ ⟨i+1,_,rfl,rfl,by rw [List.length_append,hW];rfl,fun _=>hx,fun h=>by cases (show i=15 by omega);exact hx,by omega,rfl⟩ (by omega) (by repeat' first|exact trivial|refine And.intro rfl ?_)
  ·by_cases h2:i < 64
   ·obtain ⟨k,rfl⟩:∃ k,i=16+k:=⟨i - 16,by omega⟩
    have hw:=hW2 (by omega)
    rw [show 16+k - 16=k by omega] at hw
    have hadd:∀ a b c d:UInt32,a+b+c+d=a+c+b+d:=fun a b c d=>by rw [UInt32.add_assoc a b c,UInt32.add_comm b c,←UInt32.add_assoc]
    repeat' (first|(apply T.loadGW;apply rfl;(first|infer_instance|exact hK _);(first|omega|(simp only [List.length_append,List.length_replicate,Zy,ZI];omega)|assumption|(simp;done)|(simp;omega));apply rfl)|refine Sg.Y12 ?_|(apply S.condQ;apply rfl;all_goals intro _)|fail)
    (apply S.draw;(case Hs=>exact []);(case es=>exact  [29]);(case n=>exact  30);(case hn=>rfl))
    repeat' (first|(apply SA.qcall;(iterate 3 apply rfl);kernel_rfl;apply rfl;infer_instance;apply rfl;first|with_reducible exact turn7 _|with_reducible exact turn18 _|with_reducible exact turn17 _|with_reducible exact turn19 _)|(apply T.loadGW;apply rfl;(first|infer_instance|exact hK _);(first|omega|(simp only [List.length_append,List.length_replicate,Zy,ZI];omega)|assumption|(simp;done)|(simp;omega));apply rfl)|(apply SA.qn;(iterate 4 apply rfl);kernel_rfl)|(apply SA.done;apply rfl;kernel_rfl)|(apply SK.intro;(first|exact fun _ h=>h|exact fun _ h=>St.psub h (by ((repeat (first|dsimp only [List.set_cons_zero]|dsimp only [List.set_cons_succ]));repeat' first|exact PSub.refl _|exact PSub.nil|(apply PSub.take;(repeat' first|(with_reducible exact Z0)|(with_reducible apply Z1)))|(with_reducible apply PSub.drop)|((apply PSub.take);(repeat' first|exact Z0|(apply Z1)))))))|refine Sg.Y13 ?_|fail)
    rw [show 16+k - 16=k by omega,show 16+k - 7=k+9 by omega,show 16+k - 15=k+1 by omega,show 16+k - 2=k+14 by omega,ZN (by omega),ZN (by omega),ZN (by omega),ZN (by omega),Z3k (k:=64 - (16+k+1)) hW rfl (by omega),hadd]
    exact ih2 _ _ _ _ ⟨16+k+1,_,rfl,rfl,by rw [List.length_append,hW];rfl,fun h=>absurd h (by omega),fun _=>by rw [show 16+k+1 - 16=k+1 by omega,sched,←hw];rfl,by omega,rfl⟩ (by omega) (by repeat' first|exact trivial|refine And.intro rfl ?_)
   ·obtain rfl:i=64:=by omega
    have hw:=hW2 (by omega)
    rw [show 64 - 64=0 from rfl,List.replicate_zero,List.append_nil]
    clear hW1 hW2 ih2
    repeat' (first|(apply T.alloc;apply rfl;intro nb)|refine Sg.Y11 ?_|fail)
    rename_i wb
    refine S.loopE 1 [3,4,5,6,11] (fun R b' μ H' e=>∃ (i:Nat) (v:V8),H'=.blk nb (v.list.map wV) 156::R∧e=(12,.int .i64 i)::b'∧v=rounds W V i∧i≤64∧μ=64 - i) rfl rfl ?_ _ _ ⟨0,V,rfl,rfl,rfl,by omega,rfl⟩ (by repeat' first|exact trivial|refine And.intro rfl ?_)
    rintro _ _ _ ⟨i,v,rfl,rfl,hv,hi,rfl⟩ ih2
    by_cases h3:i < 64
    ·repeat' (first|refine Sg.Y12 ?_|(apply S.condQ;apply rfl;all_goals intro _)|fail)
     (apply S.draw;(case Hs=>exact []);(case es=>exact  []);(case n=>exact  31);(case hn=>rfl))
     repeat' (first|(apply SA.qcall;(iterate 3 apply rfl);kernel_rfl;apply rfl;infer_instance;apply rfl;first|with_reducible exact turn6 _|with_reducible exact turn11 _|with_reducible exact turn25 _)|(apply T.loadGW;apply rfl;(first|infer_instance|exact hK _);(first|omega|(simp only [List.length_append,List.length_replicate,Zy,ZI];omega)|assumption|(simp;done)|(simp;omega));apply rfl)|(apply SA.qn;(iterate 4 apply rfl);kernel_rfl)|(apply SA.done;apply rfl;kernel_rfl)|refine Sg.Y11 ?_|fail)
     (apply S.draw;(case Hs=>exact []);(case es=>exact  []);(case n=>exact  25);(case hn=>rfl))
     repeat' (first|(apply SA.qcall;(iterate 3 apply rfl);kernel_rfl;apply rfl;infer_instance;apply rfl;first|with_reducible exact turn2 _|with_reducible exact turn13 _|with_reducible exact turn22 _)|(apply SA.qn;(iterate 4 apply rfl);kernel_rfl)|(apply SA.done;apply rfl;kernel_rfl)|refine Sg.Y13 ?_|fail)
     rw [ZdN,ZdM]
     skip
     exact ih2 _ _ _ _ ⟨i+1,v.step (k256.getD i 0) (W.getD i 0),rfl,rfl,by rw [hv];rfl,by omega,rfl⟩ (by omega) (by repeat' first|exact trivial|refine And.intro rfl ?_)
    ·obtain rfl:i=64:=by omega
     have hB:V.block bk=V.add v:=by rw [hv,hw,V8.block]
     rw [hB] at hab
     clear hB hv ih2
     repeat' (first|refine Sg.Y11 ?_|fail)
     refine S.front hb ?_
     refine S.loopE 1 [3,4,5,11] (fun R b' μ H' e=>∃ i:Nat,H'=.blk hb ((Z4s V v i).list.map wV) 156::R∧e=(17,.int .i64 i)::b'∧i≤8∧μ=8 - i) rfl rfl ?_ _ _ ⟨0,rfl,rfl,by omega,rfl⟩ (by repeat' first|exact trivial|refine And.intro rfl ?_)
     rintro _ _ _ ⟨i,rfl,rfl,hi,rfl⟩ ih2
     by_cases h4:i < 8
     ·have hvl:v.list.length=8:=rfl
      have hal:(Z4s V v i).list.length=8:=rfl
      repeat' (first|refine Sg.Y12 ?_|(apply S.condQ;apply rfl;all_goals intro _)|fail)
      (apply S.draw;(case Hs=>exact [.blk nb (v.list.map wV) 156]);(case es=>exact  [9]);(case n=>exact  10);(case hn=>rfl))
      repeat' (first|(apply T.loadGW;apply rfl;(first|infer_instance|exact hK _);(first|omega|(simp only [List.length_append,List.length_replicate,Zy,ZI];omega)|assumption|(simp;done)|(simp;omega));apply rfl)|(apply SA.qn;(iterate 4 apply rfl);kernel_rfl)|(apply SA.done;apply rfl;kernel_rfl)|(apply SK.intro;(first|exact fun _ h=>h|exact fun _ h=>St.psub h (by ((repeat (first|dsimp only [List.set_cons_zero]|dsimp only [List.set_cons_succ]));repeat' first|exact PSub.refl _|exact PSub.nil|(apply PSub.take;(repeat' first|(with_reducible exact Z0)|(with_reducible apply Z1)))|(with_reducible apply PSub.drop)|((apply PSub.take);(repeat' first|exact Z0|(apply Z1)))))))|refine Sg.Y13 ?_|fail)
      rw [Zb5 h4]
      skip
      exact ih2 _ _ _ _ ⟨i+1,rfl,rfl,by omega,rfl⟩ (by omega) (by repeat' first|exact trivial|refine And.intro rfl ?_)
     ·obtain rfl:i=8:=by omega
      repeat' (first|refine Sg.Y11 ?_|fail)
      rw [show Z4s V v 8=V.add v from rfl,←hab]
      refine S.sublist (H':=.blk hb ((absorb all (n+1)).list.map wV) 156::.row fa fc 5 1 all.length (all.map bV)::H) ?_ (by ((repeat (first|dsimp only [List.set_cons_zero]|dsimp only [List.set_cons_succ]));repeat' first|exact PSub.refl _|exact PSub.nil|(apply PSub.take;(repeat' first|(with_reducible exact Z0)|(with_reducible apply Z1)))|(with_reducible apply PSub.drop)|((apply PSub.take);(repeat' first|exact Z0|(apply Z1)))))
      exact ih _ _ _ _ ⟨n+1,rfl,rfl,by omega,rfl⟩ (by omega) (by repeat' first|exact trivial|refine And.intro rfl ?_)
 ·obtain rfl:n=all.length / 64:=by omega
  clear ih
  generalize hV:absorb all (all.length / 64)=V at *
  have hvl:V.list.length=8:=rfl
  have hfl:∀ i,i≤8→((V.list.take i).flatMap bytes4).length=4*i:=fun i hi=>by rw [Z45,List.length_take];omega
  repeat' (first|refine Sg.Y12 ?_|(apply S.condQ;apply rfl;all_goals intro _)|fail)
  refine S.nilrowB 5 ?_
  refine S.loopE 1 [3] (fun R b' μ H' e=>∃ (i:Nat) (o:List UInt8) (ad:Option Addr) (cp:Nat),H'=.row ad cp 5 1 o.length (o.map bV)::R∧e=(18,.slice ad o.length cp)::(19,.int .i64 i)::b'∧o=(V.list.take i).flatMap bytes4∧i≤8∧μ=8 - i) rfl rfl ?_ _ _ ⟨0,[],_,_,rfl,rfl,rfl,by omega,rfl⟩ (by repeat' first|exact trivial|refine And.intro rfl ?_)
  rintro _ _ _ ⟨i,o,ad,cp,rfl,rfl,ho,hi,rfl⟩ ih
  have hol:=hfl i hi
  rw [←ho] at hol
  by_cases h3:i < 8
  ·repeat' (first|refine Sg.Y12 ?_|(apply S.condQ;apply rfl;all_goals intro _)|fail)
   (apply S.draw;(case Hs=>exact [.blk nb (V.list.map wV) 156]);(case es=>exact  [23,24]);(case n=>exact  26);(case hn=>rfl))
   repeat' (first|(apply T.append4;apply rfl;apply rfl;infer_instance;apply rfl;(constructor<;>omega);apply rfl;intro na nc)|(apply T.loadGW;apply rfl;(first|infer_instance|exact hK _);(first|omega|(simp only [List.length_append,List.length_replicate,Zy,ZI];omega)|assumption|(simp;done)|(simp;omega));apply rfl)|(apply T.bs;(iterate 6 apply rfl);intro nb)|(apply SA.qn;(iterate 4 apply rfl);kernel_rfl)|(apply SA.qsn;(iterate 3 apply rfl);kernel_rfl;(first|exact fun _ h=>h|exact fun _ h=>St.psub h (by ((repeat (first|dsimp only [List.set_cons_zero]|dsimp only [List.set_cons_succ]));repeat' first|exact PSub.refl _|exact PSub.nil|(apply PSub.take;(repeat' first|(with_reducible exact Z0)|(with_reducible apply Z1)))|(with_reducible apply PSub.drop)|((apply PSub.take);(repeat' first|exact Z0|(apply Z1)))))))|(apply SA.done;apply rfl;kernel_rfl)|(apply SK.intro;(first|exact fun _ h=>h|exact fun _ h=>St.psub h (by ((repeat (first|dsimp only [List.set_cons_zero]|dsimp only [List.set_cons_succ]));repeat' first|exact PSub.refl _|exact PSub.nil|(apply PSub.take;(repeat' first|(with_reducible exact Z0)|(with_reducible apply Z1)))|(with_reducible apply PSub.drop)|((apply PSub.take);(repeat' first|exact Z0|(apply Z1)))))))|refine Sg.Y13 ?_|fail)
   rw [low8,low8,low8]
   have ho2:o++bytes4 (V.list.getD i 0)=(V.list.take (i+1)).flatMap bytes4:=by rw [Z5T (by omega),ho]
   have ho3:o.length+4=(o++bytes4 (V.list.getD i 0)).length:=by rw [List.length_append];rfl
   rw [ho3]
   skip
   exact ih _ _ _ _ ⟨i+1,o++bytes4 (V.list.getD i 0),_,_,rfl,rfl,ho2,by omega,rfl⟩ (by omega) (by repeat' first|exact trivial|refine And.intro rfl ?_)
  ·obtain rfl:i=8:=by omega
   rw [List.take_of_length_le (by omega),←hsum] at ho
   subst ho
   repeat' (first|refine Sg.Y11 ?_|fail)
   exact ⟨_,by ((repeat (first|dsimp only [List.set_cons_zero]|dsimp only [List.set_cons_succ]));repeat' first|exact PSub.refl _|exact PSub.nil|(apply PSub.take;(repeat' first|(with_reducible exact Z0)|(with_reducible apply Z1)))|(with_reducible apply PSub.drop)|((apply PSub.take);(repeat' first|exact Z0|(apply Z1)))),_,_,rfl,rfl⟩
theorem Z78 {F:World} {M:List Nat} {H:List Res} {sa:Option Addr} {bs:List UInt8} {c:Nat} (hR:Rd F M H sa (bs.map bV)) (hn:bs.length≤140737488355000) (hK:∀ H,Rd F M H (some ⟨9,0,none⟩) (k256.map wV)) (hG:∀ H,Rd F M H (some ⟨8,0,none⟩) (start256.list.map wV)) :
  Meets Tryz.prog 93 [.int .i64 1,.slice sa bs.length c] F M H (fun e H'=>∃ ad cp,e=.returned (.slice ad 32 cp)∧H'=.row ad cp 5 1 32 ((sha256 bs).map bV)::H):=by
 refine Meets.enter Tryz.func93 rfl rfl ?_
 repeat' (first|refine Sg.Y11 ?_|fail)
 refine T.call rfl rfl (Z8M inferInstance hn hK hG) ?_
 rintro _ _ ⟨ad,cp,rfl,rfl⟩
 rw [Z17]
 repeat' (first|refine Sg.Y13 ?_|fail)
 exact ⟨_,PSub.refl _,_,_,rfl,rfl⟩
end Go.Proofs.YtjajcmedipjfhaaGreatDoor
/- Both digests of a text. -/
namespace Go.Proofs.YtjajcmedipjfhaaGreatDoor
open Sg Go.IntWalk
set_option maxRecDepth 100000
set_option maxHeartbeats 2000000
structure ShP (F:World) (M:List Nat):Prop where
 k:∀ H,Rd F M H (some ⟨11,0,none⟩) (k256.map wV)
 g:∀ H,Rd F M H (some ⟨2,0,none⟩) (start256.list.map wV)
structure ShT (F:World) (M:List Nat):Prop extends ShP F M where
 rk:∀ H,Rd F M H (some ⟨9,0,none⟩) (k256.map wV)
 rg:∀ H,Rd F M H (some ⟨8,0,none⟩) (start256.list.map wV)
def Z03 (bs:List UInt8):List UInt8:=enc urlS (sha256 bs)
theorem Z7E {F:World} {M:List Nat} {H:List Res} {bs:List UInt8} (hT:ShP F M) (hn:bs.length≤140737488355000) :
  Meets Tryz.prog 18 [sV bs] F M H (fun e H'=>e=.returned (sV (Z03 bs))∧H'=H):=by
 refine Meets.enter Tryz.func18 rfl rfl ?_
 repeat' (first|(apply T.convSB;apply rfl;apply rfl;intro sb sc r hR hc)|(apply T.bs;(iterate 6 apply rfl);intro nb)|refine Sg.Y9 ?_|fail)
 have hp:Rd F M (.blk nb [.slice (some ⟨sb,0,none⟩) bs.length sc] 39::r::H) (some ⟨nb,0,none⟩) ([((some ⟨sb,0,none⟩:Option Addr),sc,bs)].map fun p=>.slice p.1 p.2.2.length p.2.1):=Rd.blk0
 have hf:[((some ⟨sb,0,none⟩:Option Addr),sc,bs)].flatMap (·.2.2)=bs:=by simp
 refine T.call rfl rfl (Zbc (ps:=[((some ⟨sb,0,none⟩:Option Addr),sc,bs)]) hT.k hT.g hp (fun p hp=>by
  obtain rfl:=List.mem_singleton.1 hp
  exact ⟨Rd.tl,hc⟩) (by rw [hf];omega) (show 1≤140737488355328 by decide)) ?_
 rintro _ _ ⟨ad,cp,rfl,rfl⟩
 rw [hf]
 refine Sr.capR (ad:=ad) inferInstance (fun hcap=>?_)
 skip
 have hl:(sha256 bs).length=32:=Z17 bs
 rw [←hl]
 refine T.call rfl rfl (Z7A (bs:=sha256 bs) inferInstance (by omega) (by omega)) ?_
 rintro _ _ ⟨rfl,r2,rfl⟩
 repeat' (first|refine Sg.Y10 ?_|fail)
 exact ⟨_,by ((repeat (first|dsimp only [List.set_cons_zero]|dsimp only [List.set_cons_succ]));repeat' first|exact PSub.refl _|exact PSub.nil|(apply PSub.take;(repeat' first|(with_reducible exact Z0)|(with_reducible apply Z1)))|(with_reducible apply PSub.drop)|((apply PSub.take);(repeat' first|exact Z0|(apply Z1)))),rfl,rfl⟩
theorem Z4k {F:World} {M:List Nat} {H:List Res} {bs:List UInt8} (hT:ShT F M) (hn:bs.length≤140737488355000) :
  Meets Tryz.prog 59 [sV bs] F M H (fun e H'=>e=.returned (sV (Z03 bs))∧H'=H):=by
 refine Meets.enter Tryz.func59 rfl rfl ?_
 refine S.nilrowB 5 ?_
 repeat' (first|(apply T.appendS;apply rfl;apply rfl;infer_instance;omega;apply rfl;intro na nc)|refine Sg.Y9 ?_|fail)
 rw [List.nil_append,Nat.zero_add]
 refine T.call rfl rfl (Z78 (bs:=bs) inferInstance hn hT.rk hT.rg) ?_
 rintro _ _ ⟨ad,cp,rfl,rfl⟩
 repeat' (first|(with_reducible apply T.ofRet)|fail)
 have hl:(sha256 bs).length=32:=Z17 bs
 rw [←hl]
 refine T.call rfl rfl (Z4j (bs:=sha256 bs) inferInstance (by omega)) ?_
 rintro _ _ ⟨rfl,r2,rfl⟩
 repeat' (first|refine Sg.Y10 ?_|fail)
 exact ⟨_,by ((repeat (first|dsimp only [List.set_cons_zero]|dsimp only [List.set_cons_succ]));repeat' first|exact PSub.refl _|exact PSub.nil|(apply PSub.take;(repeat' first|(with_reducible exact Z0)|(with_reducible apply Z1)))|(with_reducible apply PSub.drop)|((apply PSub.take);(repeat' first|exact Z0|(apply Z1)))),rfl,rfl⟩
end Go.Proofs.YtjajcmedipjfhaaGreatDoor
/- Rules for a map that is nil: a look into it; maps held against nil. -/
namespace Sg
open Go Go.RowKit
section
variable {c:Ctx} {ds:List Deferred} {H:List Res} {ops:Array Oper} {l:List Oper} {κ:List Res→Env→Prop} {q:Mode} {e:Env} {ty:TypeId} {pos:String} {aft:Array Edge}
theorem T.mapLook0 {x y:Operand} {d:Tmp} {kk:List UInt8} {t k E:TypeId} [HU c.P t (.map k E)] [HU c.P k .string] {sz by_:Nat} [HI c.P E (.int .i64 0) sz by_] (hx:ev e x=some (.map none)) (hy:ev e y=some (sV kk)) (hl:kk.length≤maxLen) (hlt:Nat.blt d c.fn.ntmps=true)
  (hk:Sr q c ds H ops l κ ((d,.int .i64 0)::e)):Sr q c ds H ops (⟨some d,.lookup t x y false,ty,pos,aft,none⟩::l) κ e :=
 Sr.p (fun w a _ ha=>by
  have h:=Maps.look_nil (P:=c.P) (w:=w) (t:=t) (e:=E) false (Maps.string_keyed (HU.h (P:=c.P) (t:=k))) (HU.h (P:=c.P) (t:=t)) (Z1l w) (Z63 (P:=c.P) (k:=k) HU.h hl)
  simp [execOp,ha.ev hx,ha.ev hy,h]) rfl hlt rfl hk
theorem T.eqlM {x:Operand} {d:Tmp} {t u k E:TypeId} {b:Nat} [HU c.P t (.map k E)] (hx:ev e x=some (.map (some b))) (hlt:Nat.blt d c.fn.ntmps=true) (hk:Sr q c ds H ops l κ ((d,.bool false)::e)):Sr q c ds H ops (⟨some d,.binOp .eql t x (.const (.map none)) u,ty,pos,aft,none⟩::l) κ e :=
 Sr.p (fun w ac _ ha=>by
  have h:=run_equalIn_map_nil (P:=c.P) w 9999 t k E (some b) HU.h
  have h2:ac.eval (.const (.map none))=.map none:=rfl
  simp only [execOp,ha.ev hx,h2,eqGuard,binOp,Op.equal,Op.maxDepth]
  simp [h]) rfl hlt rfl hk
theorem T.eqlM0 {x:Operand} {d:Tmp} {t u k E:TypeId} [HU c.P t (.map k E)] (hx:ev e x=some (.map none)) (hlt:Nat.blt d c.fn.ntmps=true) (hk:Sr q c ds H ops l κ ((d,.bool true)::e)):Sr q c ds H ops (⟨some d,.binOp .eql t x (.const (.map none)) u,ty,pos,aft,none⟩::l) κ e :=
 Sr.p (fun w ac _ ha=>by
  have h:=run_equalIn_map_nil (P:=c.P) w 9999 t k E none HU.h
  have h2:ac.eval (.const (.map none))=.map none:=rfl
  simp only [execOp,ha.ev hx,h2,eqGuard,binOp,Op.equal,Op.maxDepth]
  simp [h]) rfl hlt rfl hk
theorem T.neqM {x:Operand} {d:Tmp} {t u k E:TypeId} {b:Nat} [HU c.P t (.map k E)] (hx:ev e x=some (.map (some b))) (hlt:Nat.blt d c.fn.ntmps=true) (hk:Sr q c ds H ops l κ ((d,.bool true)::e)):Sr q c ds H ops (⟨some d,.binOp .neq t x (.const (.map none)) u,ty,pos,aft,none⟩::l) κ e :=
 Sr.p (fun w ac _ ha=>by
  have h:=run_equalIn_map_nil (P:=c.P) w 9999 t k E (some b) HU.h
  have h2:ac.eval (.const (.map none))=.map none:=rfl
  simp only [execOp,ha.ev hx,h2,eqGuard,binOp,Op.equal,Op.maxDepth]
  simp [h]) rfl hlt rfl hk
theorem T.neqM0 {x:Operand} {d:Tmp} {t u k E:TypeId} [HU c.P t (.map k E)] (hx:ev e x=some (.map none)) (hlt:Nat.blt d c.fn.ntmps=true) (hk:Sr q c ds H ops l κ ((d,.bool false)::e)):Sr q c ds H ops (⟨some d,.binOp .neq t x (.const (.map none)) u,ty,pos,aft,none⟩::l) κ e :=
 Sr.p (fun w ac _ ha=>by
  have h:=run_equalIn_map_nil (P:=c.P) w 9999 t k E none HU.h
  have h2:ac.eval (.const (.map none))=.map none:=rfl
  simp only [execOp,ha.ev hx,h2,eqGuard,binOp,Op.equal,Op.maxDepth]
  simp [h]) rfl hlt rfl hk
end
end Sg
/- Drawn regions: guarded operations that no effect turns come ahead of the effects, too. -/
namespace Sg
open Go Go.RowKit
section
variable {c:Ctx} {ds:List Deferred} {Hs H:List Res} {es lt:List Nat} {ops:Array Oper} {fuel:Nat} {listed:Array Bool} {κ:List Res→Env→Prop} {e:Env} {op:Op} {d j:Nat} {b b':Bool} {ty:TypeId} {pos:String} {aft:Array Edge}
theorem SA.pg (i:Nat) {v:Value} (ho:ops[i]?=some ⟨some d,op,ty,pos,aft,some (j,b)⟩) (hgl:glook ops e j=some b) (hB:(Region.noSelect ops&&Region.free .any ops listed i&&(Region.ready .any ops listed).contains i)=true) (h:Pu c H e ⟨some d,op,ty,pos,aft,none⟩ v)
  (hs:es.all (fun k=>listed.getD k true || dep ops i 6 k)=true∨lt.all (fun k=>listed.getD k true || dep ops i 6 k)=true∧Pu c Hs e ⟨some d,op,ty,pos,aft,none⟩ v∨Pu c [] e ⟨some d,op,ty,pos,aft,none⟩ v)
  (hlt:Nat.blt d c.fn.ntmps=true) (hk:SA c ds Hs es lt H ops fuel (listed.setIfInBounds i true) κ ((d,v)::e)):SA c ds Hs es lt H ops (fuel+1) listed κ e:=by
 unfold SA at hk ⊢
 intro hc w a hw ha hds
 simp only [Bool.and_eq_true] at hB
 have hr:i∈Region.ready .any ops listed:=by simpa using hB.2
 have h2:Ok c.fn.ntmps ((d,v)::e) (a.put (some d) v):=ha.put (d:=some d) hlt v
 have hwt:Region.wanted (⟨some d,op,ty,pos,aft,some (j,b)⟩:Oper) (yielded ops a.tmps)=true:=by simp [Region.wanted,Z23 ha hgl]
 refine AW.first (v:=v) ho (Region.noSelect_spec hB.1.1) (fun _ _ _=>Kq.back) fuel listed a w hc (Region.free_spec ho hB.1.2) hr (.inl ⟨hwt,.inl (h w a hw ha)⟩) ?_ (hk (hc.set hr) w _ hw h2 ((Zs _ _ _).trans hds))
 intro k hj hun
 have hdep:(listed.getD k true || dep ops i 6 k)=true→dep ops i 6 k=true:=fun h=>by rw [hun,Bool.false_or] at h;exact h
 rcases hs with hs|⟨hs0,hs⟩|hs
 ·exact .inl (hdep (List.all_eq_true.1 hs k (by simpa using hj)))
 ·by_cases hlj:lt.contains k=true
  ·exact .inl (hdep (List.all_eq_true.1 hs0 k (by simpa using hlj)))
  ·exact .inr fun w' hw'=>.inl ⟨hwt,.inl (hs w' a (hw'.resolve_left fun h=>hlj h.1) ha)⟩
 ·exact .inr fun w' hw'=>.inl ⟨hwt,.inl (hs w' a (hw'.elim (fun h=>h.2) (fun h=>h.bare)) ha)⟩
theorem Z5B {l:Array Oper} {i:Nat} {o:Oper} (h:nthO l.toList i=some o):l[i]?=some o:=by rw [←h,Z0H];simp
theorem SA.gz {i:Nat} (_hi:Z4n listed es false ops.size 0=some i) (ho:nthO ops.toList i=some ⟨some d,op,ty,pos,aft,some (j,b)⟩) (_hr:rdy listed ⟨some d,op,ty,pos,aft,some (j,b)⟩=true) (hgl:glook ops e j=some b') (hb:b'=b) (_hp:Zca op=true)
  (hB:(Region.noSelect ops&&Region.free .any ops listed i&&(Region.ready .any ops listed).contains i)=true) (h:Sr .uni c ds [] ops [⟨some d,op,ty,pos,aft,none⟩] (fun _ e'=>SA c ds Hs es lt H ops fuel (listed.setIfInBounds i true) κ e') e):SA c ds Hs es lt H ops (fuel+1) listed κ e:=by
 subst hb
 unfold Sr at h
 obtain ⟨v,d',h1,h2,h3,h4,h5⟩:=h
 cases h2
 exact SA.pg i (Z5B ho) hgl hB (fun w a hw ha=>h1 w a hw.bare ha) (.inr (.inr h1)) h3 h5
theorem SA.gn {i:Nat} (_hi:Z4n listed es false ops.size 0=some i) (ho:nthO ops.toList i=some ⟨some d,op,ty,pos,aft,some (j,b)⟩) (_hr:rdy listed ⟨some d,op,ty,pos,aft,some (j,b)⟩=true) (hgl:glook ops e j=some b') (hb:b'=b) (hd:es.all (fun k=>listed.getD k true || dep ops i 6 k)=true)
  (hB:(Region.noSelect ops&&Region.free .any ops listed i&&(Region.ready .any ops listed).contains i)=true) (h:Sr .uni c ds H ops [⟨some d,op,ty,pos,aft,none⟩] (fun _ e'=>SA c ds Hs es lt H ops fuel (listed.setIfInBounds i true) κ e') e):SA c ds Hs es lt H ops (fuel+1) listed κ e:=by
 subst hb
 unfold Sr at h
 obtain ⟨v,d',h1,h2,h3,h4,h5⟩:=h
 cases h2
 exact SA.pg i (Z5B ho) hgl hB h1 (.inl hd) h3 h5
theorem SA.gx {i:Nat} (_hi:Z4n listed es false ops.size 0=some i) (ho:nthO ops.toList i=some ⟨some d,op,ty,pos,aft,some (j,b)⟩) (_hr:rdy listed ⟨some d,op,ty,pos,aft,some (j,b)⟩=true) (hno:gundef ops e j=true∨∃ b',glook ops e j=some b'∧(b'==b)=false)
  (hB:(Region.noSelect ops&&Region.free .any ops listed i&&(Region.ready .any ops listed).contains i)=true) (hlt:Nat.blt d c.fn.ntmps=true) (hk:SA c ds Hs es lt H ops fuel (listed.setIfInBounds i true) κ ((d,undef)::e)):SA c ds Hs es lt H ops (fuel+1) listed κ e:=by
 unfold SA at hk ⊢
 intro hc w a hw ha hds
 simp only [Bool.and_eq_true] at hB
 have hr:i∈Region.ready .any ops listed:=by simpa using hB.2
 have h2:Ok c.fn.ntmps ((d,undef)::e) (a.put (some d) undef):=ha.put (d:=some d) hlt undef
 have hwt:Region.wanted (⟨some d,op,ty,pos,aft,some (j,b)⟩:Oper) (yielded ops a.tmps)=false:=by
  rcases hno with h|⟨b',h,hne⟩
  ·have:=Z41 ha h
   simp [Region.wanted,this]
  ·have:=Z23 ha h
   simpa [Region.wanted,this] using hne
 refine AW.first (v:=undef) (Z5B ho) (Region.noSelect_spec hB.1.1) (fun _ _ _=>Kq.back) fuel listed a w hc (Region.free_spec (Z5B ho) hB.1.2) hr (.inr ⟨hwt,rfl⟩) ?_ (hk (hc.set hr) w _ hw h2 ((Zs _ _ _).trans hds))
 intro k hj hun
 exact .inr fun w' hw'=>.inr ⟨hwt,rfl⟩
theorem SA.gxu {i:Nat} (hi:Z4n listed es false ops.size 0=some i) (ho:nthO ops.toList i=some ⟨some d,op,ty,pos,aft,some (j,b)⟩) (hr:rdy listed ⟨some d,op,ty,pos,aft,some (j,b)⟩=true) (hno:gundef ops e j=true)
  (hB:(Region.noSelect ops&&Region.free .any ops listed i&&(Region.ready .any ops listed).contains i)=true) (hlt:Nat.blt d c.fn.ntmps=true) (hk:SA c ds Hs es lt H ops fuel (listed.setIfInBounds i true) κ ((d,undef)::e)):SA c ds Hs es lt H ops (fuel+1) listed κ e:=SA.gx hi ho hr (.inl hno) hB hlt hk
theorem SA.gxv {i:Nat} (hi:Z4n listed es false ops.size 0=some i) (ho:nthO ops.toList i=some ⟨some d,op,ty,pos,aft,some (j,b)⟩) (hr:rdy listed ⟨some d,op,ty,pos,aft,some (j,b)⟩=true) (hgl:glook ops e j=some b') (hne:(b'==b)=false)
  (hB:(Region.noSelect ops&&Region.free .any ops listed i&&(Region.ready .any ops listed).contains i)=true) (hlt:Nat.blt d c.fn.ntmps=true) (hk:SA c ds Hs es lt H ops fuel (listed.setIfInBounds i true) κ ((d,undef)::e)):SA c ds Hs es lt H ops (fuel+1) listed κ e:=SA.gx hi ho hr (.inr ⟨b',hgl,hne⟩) hB hlt hk
end
end Sg
/- The walk of the program's look at a value: is it well shaped. -/
namespace Go.Proofs.YtjajcmedipjfhaaGreatDoor
open Sg Go.IntWalk
set_option maxRecDepth 100000
set_option maxHeartbeats 4000000
section
variable {F:World} {M:List Nat} {H:List Res} {oa:Option Addr} {oc n:Nat} {v:List Nd}
theorem Z0d:∀ (st:Stk) (H:List Res),PSub H (ZC st H)
 | [],_=>PSub.refl _
 | (_,none)::r,H=>Z0d r H
 | (_,some _)::r,H=>PSub.drop (Z0d r H)
theorem Z7c {a:Option Addr} {vs:List Value}:∀ (st:Stk),Rd F M H a vs→Rd F M (ZC st H) a vs
 | [],h=>h
 | (_,none)::r,h=>Z7c r h
 | (_,some _)::r,h=>have:=Z7c r h;Rd.tl
instance Rd.maps {st:Stk} {a:Option Addr} {vs:List Value} [h:Rd F M H a vs]:Rd F M (ZC st H) a vs:=Z7c st h
theorem Z8b:∀ l:List Lv,(popL l).length≤l.length
 | []=>Nat.le_refl _
 | (k,nm)::l=>by
  have:=Z8b l
  unfold popL
  split<;>simp only [List.length_cons]<;>omega
theorem Zbs {k:Nat} {nm:Option (List (List UInt8))} {l:List Lv} (h:popL ((k,nm)::l)=(k,nm)::l):k≠0:=by
 rintro rfl
 rw [Z6g] at h
 have:=Z8b l
 rw [h] at this
 simp only [List.length_cons] at this
 omega
def mlen (z:Nat × Option (Nat × Ents)):Nat:=match z.2 with
 | none=>0
 | some y=>y.2.length
abbrev lv2 (n:Nd):Option (List (List UInt8)):=if n.kind=7 then some [] else none
def Z9P (n:Nd) (r:List Nd) (x:Lv) (s:List Lv):Bool:=if Z0u n then (if 32 < s.length+1 then false else shM Lib.validD r (popL ((n.kids.toNat,lv2 n)::x::s))) else shM Lib.validD r (popL (x::s))
theorem ZcH {n:Nd} {r:List Nd} {k:Nat} {nm:Option (List (List UInt8))} {s:List Lv} (hp:Zk Lib.validD n=true):shM Lib.validD (n::r) ((k,nm)::s)=if (nm=none∧n.key≠[])∨hasN nm n.key=true∨Lib.validD n.key=false then false else Z9P n r (k - 1,nm.map (n.key::·)) s:=by
 have h:¬Zk Lib.validD n=false:=by rw [hp];simp
 simp only [shM]
 rw [if_neg h]
 rfl
theorem _root_.Sg.Y15 {P R:Prop} (k:R) (h:Sg.Kp R→P:=by intro k;(first|(apply T.nilCheckS;apply rfl;apply rfl)|(apply T.fieldAddrS;apply rfl;apply rfl)|(apply T.convBU64;apply rfl;apply rfl)|(apply T.addNN;apply rfl;apply rfl;omega;apply rfl)|(apply T.sslice;(iterate 3 apply rfl);omega;apply rfl)|(apply T.mapLook;apply rfl;apply rfl;infer_instance;(first|assumption|(simp only [maxLen];omega)|omega);apply rfl)|(apply T.seql;(iterate 3 apply rfl))|(apply T.sidx;apply rfl;apply rfl;omega;apply rfl)|(apply T.loadS;apply rfl;infer_instance;(first|omega|(simp only [List.length_map];omega));apply rfl)|(apply T.convS;apply rfl;infer_instance;(first|rfl|assumption|exact beN_len _ _|(simp;done)|(simp;omega));apply rfl)|(apply T.neqP;apply rfl;apply rfl)|(apply T.neqP0;apply rfl;apply rfl)|(apply T.mv;apply rfl;apply rfl)|(apply T.asn;apply rfl;apply rfl)|(apply T.len;apply rfl;apply rfl)|(apply T.nilCheck;apply rfl;apply rfl)|(apply T.fieldAddrZ;apply rfl;apply rfl)|(apply T.load;apply rfl;apply rfl;infer_instance;apply rfl;apply rfl)|(apply T.lss;(iterate 3 apply rfl))|(apply T.eql;(iterate 3 apply rfl))|(apply T.addI;apply rfl;apply rfl;omega;apply rfl)|(apply T.subI;apply rfl;apply rfl;omega;apply rfl)|(apply T.extract;(iterate 3 apply rfl))|(apply T.ixN;apply rfl;apply rfl;infer_instance;omega;(first|omega|(simp only [List.length_map];omega)|(simp;omega));apply rfl)|(apply T.ixF;apply rfl;apply rfl;infer_instance;exact (fun _=>rfl);apply rfl;omega;omega;apply rfl)|(apply T.fieldAddrF;apply rfl;infer_instance;exact (fun _=>rfl);apply rfl;omega;apply rfl)|(apply T.loadF;apply rfl;apply rfl;infer_instance;exact (fun _=>rfl);apply rfl;exact Zb (by omega);apply rfl;apply rfl)|(apply T.notB;apply rfl;apply rfl)|(apply T.pickT;(iterate 3 apply rfl))|(apply T.pickF;(iterate 3 apply rfl))|(apply T.convI64;apply rfl;omega;apply rfl)|(apply T.buildL;(iterate 3 apply rfl))|(apply T.loadW;apply rfl;apply rfl;infer_instance;(first|rfl|(simp only [List.length_append,List.length_map,List.length_set,List.length_replicate,List.length_cons,List.length_nil];first|done|omega));apply rfl)|(apply T.sliceLC;apply rfl;omega;apply rfl)|(apply T.storeW;apply rfl;apply rfl;infer_instance;(first|rfl|(simp only [List.length_append,List.length_map,List.length_set,List.length_replicate,List.length_cons,List.length_nil];first|done|omega));(first|rfl|(simp only [List.length_append,List.length_map,List.length_set,List.length_replicate,List.length_cons,List.length_nil];first|done|omega));(first|rfl|(repeat' first|apply all_nV|apply Z0s|apply all_iV|rfl|apply all_app)))|(apply T.store;apply rfl;apply rfl;infer_instance;(first|decide|(simp;omega)|simp);apply rfl)|(with_reducible refine Sr.nil ?_)|(with_reducible refine S.reg ?_)|(with_reducible refine S.skip ?_)|(with_reducible refine S.inBlock ?_)|(apply S.exit;apply rfl)|(apply T.ungV;apply rfl;(first|with_reducible rfl|decide))|(apply T.skip;apply rfl;(first|with_reducible rfl|decide);apply rfl)|(apply S.condTV;apply rfl;(first|with_reducible rfl|decide))|(apply S.condFV;apply rfl;(first|with_reducible rfl|decide))|(apply T.retW;apply rfl)|(apply T.doneW;apply rfl)|(with_reducible apply T.diesW)|(with_reducible apply T.ofRet)|(with_reducible apply T.ofPan)|(apply T.retC;apply rfl;((repeat' first|apply RV.nil|(apply RV.tmp;apply rfl)|(apply RV.cellW;apply rfl;apply rfl;infer_instance;(first|rfl|(simp only [List.length_append,List.length_map,List.length_set,List.length_replicate,List.length_cons,List.length_nil];first|done|omega)))|(apply RV.cellP;apply rfl;apply rfl;infer_instance;apply rfl)));apply rfl)|(apply SA.en;apply rfl;apply rfl;kernel_rfl)|fail);exact k.h):P:=h ⟨k⟩
theorem _root_.Sg.Y16 {P R:Prop} (k:R) (h:Sg.Kp R→P:=by intro k;(first|((with_reducible apply T.mulNK 6);apply rfl;apply rfl;omega;apply rfl)|(apply T.nilCheckS;apply rfl;apply rfl)|(apply T.fieldAddrS;apply rfl;apply rfl)|(apply T.orU64;apply rfl;apply rfl;omega;omega;apply rfl)|((with_reducible apply T.mulNK 3);apply rfl;apply rfl;omega;apply rfl)|((with_reducible apply T.addKN 2);apply rfl;apply rfl;omega;apply rfl)|((with_reducible apply T.mulNK 4);apply rfl;apply rfl;omega;apply rfl)|(apply T.sadd;apply rfl;apply rfl;omega;apply rfl)|(apply T.sslice;(iterate 3 apply rfl);omega;apply rfl)|(apply T.mapLook;apply rfl;apply rfl;infer_instance;(first|assumption|(simp only [maxLen];omega)|omega);apply rfl)|(apply T.slen;apply rfl;apply rfl)|(apply T.sidx;apply rfl;apply rfl;omega;apply rfl)|(apply T.convS;apply rfl;infer_instance;(first|rfl|assumption|exact beN_len _ _|(simp;done)|(simp;omega));apply rfl)|(apply T.eqlP;apply rfl;apply rfl)|(apply T.eqlP0;apply rfl;apply rfl)|(apply T.neqP0;apply rfl;apply rfl)|(apply T.mapLook0;apply rfl;apply rfl;(first|assumption|(simp only [maxLen];omega)|omega);apply rfl)|(apply T.eqlM;apply rfl;apply rfl)|(apply T.eqlM0;apply rfl;apply rfl)|(apply T.neqM;apply rfl;apply rfl)|(apply T.neqM0;apply rfl;apply rfl)|(apply T.ptrLook;apply rfl;apply rfl;infer_instance;(first|assumption|(simp only [maxLen];omega)|omega);apply rfl)|(apply T.mv;apply rfl;apply rfl)|(apply T.asn;apply rfl;apply rfl)|(apply T.len;apply rfl;apply rfl)|(apply T.nilCheck;apply rfl;apply rfl)|(apply T.fieldAddrZ;apply rfl;apply rfl)|(apply T.load;apply rfl;apply rfl;infer_instance;apply rfl;apply rfl)|(apply T.lss;(iterate 3 apply rfl))|(apply T.gtr;(iterate 3 apply rfl))|(apply T.geq;(iterate 3 apply rfl))|(apply T.eql;(iterate 3 apply rfl))|(apply T.neq;(iterate 3 apply rfl))|(apply T.addI;apply rfl;apply rfl;omega;apply rfl)|(apply T.subI;apply rfl;apply rfl;omega;apply rfl)|(apply T.mulI;apply rfl;apply rfl;omega;apply rfl)|(apply T.extract;(iterate 3 apply rfl))|(apply T.ixC;apply rfl;infer_instance;omega;(first|omega|(simp only [List.length_map];omega)|(simp;omega));apply rfl)|(apply T.ixN;apply rfl;apply rfl;infer_instance;omega;(first|omega|(simp only [List.length_map];omega)|(simp;omega));apply rfl)|(apply T.ixF;apply rfl;apply rfl;infer_instance;exact (fun _=>rfl);apply rfl;omega;omega;apply rfl)|(apply T.fieldAddrF;apply rfl;infer_instance;exact (fun _=>rfl);apply rfl;omega;apply rfl)|(apply T.loadF;apply rfl;apply rfl;infer_instance;exact (fun _=>rfl);apply rfl;exact Zb (by omega);apply rfl;apply rfl)|(apply T.loadFN;apply rfl;apply rfl;infer_instance;exact (fun _=>rfl);apply rfl;exact Zb (by omega);apply rfl)|(apply T.loadB;apply rfl;infer_instance;omega;apply rfl)|(apply T.loadNat;apply rfl;infer_instance;(first|omega|(simp only [List.length_map];omega)|(simp;omega));apply rfl)|(apply T.not;apply rfl;apply rfl)|(apply T.notB;apply rfl;apply rfl)|(apply T.pickT;(iterate 3 apply rfl))|(apply T.pickF;(iterate 3 apply rfl))|(apply T.convI64;apply rfl;omega;apply rfl)|(apply T.buildL;(iterate 3 apply rfl))|(apply T.loadW;apply rfl;apply rfl;infer_instance;(first|rfl|(simp only [List.length_append,List.length_map,List.length_set,List.length_replicate,List.length_cons,List.length_nil];first|done|omega));apply rfl)|(apply T.sliceHK;apply rfl;apply rfl;omega;apply rfl)|(apply T.assert;(iterate 4 apply rfl))|(apply T.neqIf;apply rfl;apply rfl)|(apply T.neqNil;apply rfl;apply rfl)|(apply T.storeW;apply rfl;apply rfl;infer_instance;(first|rfl|(simp only [List.length_append,List.length_map,List.length_set,List.length_replicate,List.length_cons,List.length_nil];first|done|omega));(first|rfl|(simp only [List.length_append,List.length_map,List.length_set,List.length_replicate,List.length_cons,List.length_nil];first|done|omega));(first|rfl|(repeat' first|apply all_nV|apply Z0s|apply all_iV|rfl|apply all_app)))|(apply T.store;apply rfl;apply rfl;infer_instance;(first|decide|(simp;omega)|simp);apply rfl)|(apply T.makeI;(iterate 3 apply rfl))|(with_reducible refine Sr.nil ?_)|(with_reducible refine S.seq ?_)|(with_reducible refine S.block ?_)|(with_reducible refine S.reg ?_)|(with_reducible refine S.skip ?_)|(with_reducible refine S.inBlock ?_)|(apply S.exit;apply rfl)|(apply S.quiet;apply rfl;kernel_rfl)|(apply T.ungV;apply rfl;(first|with_reducible rfl|decide))|(apply T.skip;apply rfl;(first|with_reducible rfl|decide);apply rfl)|(apply T.skipU;apply rfl;apply rfl)|(apply S.condTV;apply rfl;(first|with_reducible rfl|decide))|(apply S.condFV;apply rfl;(first|with_reducible rfl|decide))|(apply T.retW;apply rfl)|(apply T.doneW;apply rfl)|(with_reducible apply T.ofRet)|(apply T.retC;apply rfl;((repeat' first|apply RV.nil|(apply RV.tmp;apply rfl)|(apply RV.cellW;apply rfl;apply rfl;infer_instance;(first|rfl|(simp only [List.length_append,List.length_map,List.length_set,List.length_replicate,List.length_cons,List.length_nil];first|done|omega)))|(apply RV.cellP;apply rfl;apply rfl;infer_instance;apply rfl)));apply rfl)|(apply SA.en;apply rfl;apply rfl;kernel_rfl)|(apply T.ung;apply rfl)|fail);exact k.h):P:=h ⟨k⟩
theorem _root_.Sg.Y17 {P R:Prop} (k:R) (h:Sg.Kp R→P:=by intro k;(first|(apply T.shrI64;apply rfl;apply rfl;omega;apply rfl)|((with_reducible apply T.mulKN 6);apply rfl;apply rfl;omega;apply rfl)|(apply T.fieldAddrS;apply rfl;apply rfl)|(apply T.convBU64;apply rfl;apply rfl)|((with_reducible apply T.mulKN 2);apply rfl;apply rfl;omega;apply rfl)|(apply T.addNN;apply rfl;apply rfl;omega;apply rfl)|((with_reducible apply T.mulKN 8);apply rfl;apply rfl;omega;apply rfl)|(apply T.shrGU8;apply rfl;apply rfl;omega;apply rfl)|(apply T.sadd;apply rfl;apply rfl;omega;apply rfl)|(apply T.sslice;(iterate 3 apply rfl);omega;apply rfl)|(apply T.loadE;apply rfl;apply rfl;infer_instance;apply rfl;apply rfl)|(apply T.convM;apply rfl;apply rfl)|(apply T.convI32;apply rfl;omega;apply rfl)|(apply T.mapLook;apply rfl;apply rfl;infer_instance;(first|assumption|(simp only [maxLen];omega)|omega);apply rfl)|(apply T.seql;(iterate 3 apply rfl))|(apply T.sneq;(iterate 3 apply rfl))|(apply T.slen;apply rfl;apply rfl)|(apply T.sidx;apply rfl;apply rfl;omega;apply rfl)|(apply T.loadS;apply rfl;infer_instance;(first|omega|(simp only [List.length_map];omega));apply rfl)|(apply T.convS;apply rfl;infer_instance;(first|rfl|assumption|exact beN_len _ _|(simp;done)|(simp;omega));apply rfl)|(apply T.mv;apply rfl;apply rfl)|(apply T.asn;apply rfl;apply rfl)|(apply T.len;apply rfl;apply rfl)|(apply T.nilCheck;apply rfl;apply rfl)|(apply T.fieldAddrZ;apply rfl;apply rfl)|(apply T.load;apply rfl;apply rfl;infer_instance;apply rfl;apply rfl)|(apply T.lss;(iterate 3 apply rfl))|(apply T.leq;(iterate 3 apply rfl))|(apply T.gtr;(iterate 3 apply rfl))|(apply T.geq;(iterate 3 apply rfl))|(apply T.eql;(iterate 3 apply rfl))|(apply T.neq;(iterate 3 apply rfl))|(apply T.addI;apply rfl;apply rfl;omega;apply rfl)|(apply T.subI;apply rfl;apply rfl;omega;apply rfl)|(apply T.mulI;apply rfl;apply rfl;omega;apply rfl)|(apply T.extract;(iterate 3 apply rfl))|(apply T.ixC;apply rfl;infer_instance;omega;(first|omega|(simp only [List.length_map];omega)|(simp;omega));apply rfl)|(apply T.ixN;apply rfl;apply rfl;infer_instance;omega;(first|omega|(simp only [List.length_map];omega)|(simp;omega));apply rfl)|(apply T.ixK;apply rfl;apply rfl;infer_instance;decide;decide;apply rfl)|(apply T.ixF;apply rfl;apply rfl;infer_instance;exact (fun _=>rfl);apply rfl;omega;omega;apply rfl)|(apply T.fieldAddrF;apply rfl;infer_instance;exact (fun _=>rfl);apply rfl;omega;apply rfl)|(apply T.ixAZ;apply rfl;apply rfl;omega;apply rfl)|(apply T.ixA;apply rfl;apply rfl;omega;apply rfl)|(apply T.loadF;apply rfl;apply rfl;infer_instance;exact (fun _=>rfl);apply rfl;exact Zb (by omega);apply rfl;apply rfl)|(apply T.loadFN;apply rfl;apply rfl;infer_instance;exact (fun _=>rfl);apply rfl;exact Zb (by omega);apply rfl)|(apply T.loadB;apply rfl;infer_instance;omega;apply rfl)|(apply T.loadNat;apply rfl;infer_instance;(first|omega|(simp only [List.length_map];omega)|(simp;omega));apply rfl)|(apply T.notB;apply rfl;apply rfl)|(apply T.pickT;(iterate 3 apply rfl))|(apply T.pickF;(iterate 3 apply rfl))|(apply T.convI64;apply rfl;omega;apply rfl)|(apply T.convU32;apply rfl;omega;apply rfl)|(apply T.convU64;apply rfl;(constructor<;>omega);apply rfl)|(apply T.convU64;apply rfl;omega;apply rfl)|(apply T.buildL;(iterate 3 apply rfl))|(apply T.buildAL;(iterate 3 apply rfl))|(apply T.loadW;apply rfl;apply rfl;infer_instance;(first|rfl|(simp only [List.length_append,List.length_map,List.length_set,List.length_replicate,List.length_cons,List.length_nil];first|done|omega));apply rfl)|(apply T.sliceLK;apply rfl;apply rfl;omega;apply rfl)|(apply T.sliceHK;apply rfl;apply rfl;omega;apply rfl)|(apply T.sliceLHK;(iterate 3 apply rfl);omega;apply rfl)|(apply T.storeW;apply rfl;apply rfl;infer_instance;(first|rfl|(simp only [List.length_append,List.length_map,List.length_set,List.length_replicate,List.length_cons,List.length_nil];first|done|omega));(first|rfl|(simp only [List.length_append,List.length_map,List.length_set,List.length_replicate,List.length_cons,List.length_nil];first|done|omega));(first|rfl|(repeat' first|apply all_nV|apply Z0s|apply all_iV|rfl|apply all_app)))|(apply T.store;apply rfl;apply rfl;infer_instance;(first|decide|(simp;omega)|simp);apply rfl)|(apply T.storeE;apply rfl;apply rfl;infer_instance;(first|omega|(simp only [List.length_map];omega)|(simp;omega));apply rfl)|(apply S.deferM;apply rfl;apply rfl)|(with_reducible refine Sr.nil ?_)|(with_reducible refine S.seq ?_)|(with_reducible refine S.block ?_)|(with_reducible refine S.reg ?_)|(with_reducible refine S.skip ?_)|(with_reducible refine S.inBlock ?_)|(apply S.exit;apply rfl)|(apply S.quiet;apply rfl;kernel_rfl)|(apply T.ungV;apply rfl;(first|with_reducible rfl|decide))|(apply T.skip;apply rfl;(first|with_reducible rfl|decide);apply rfl)|(apply T.skipU;apply rfl;apply rfl)|(apply S.condTV;apply rfl;(first|with_reducible rfl|decide))|(apply S.condFV;apply rfl;(first|with_reducible rfl|decide))|(apply T.retW;apply rfl)|(apply T.doneW;apply rfl)|(with_reducible apply T.ofRet)|(apply T.retC;apply rfl;((repeat' first|apply RV.nil|(apply RV.tmp;apply rfl)|(apply RV.cellW;apply rfl;apply rfl;infer_instance;(first|rfl|(simp only [List.length_append,List.length_map,List.length_set,List.length_replicate,List.length_cons,List.length_nil];first|done|omega)))|(apply RV.cellP;apply rfl;apply rfl;infer_instance;apply rfl)));apply rfl)|(apply SA.en;apply rfl;apply rfl;kernel_rfl)|(apply S.condQ;apply rfl;intro _;rotate_left;intro _;exfalso;(first|omega|with_reducible contradiction))|(apply S.condQ;apply rfl;intro _;exfalso;(first|omega|with_reducible contradiction);intro _)|(apply T.gcase;apply rfl;apply rfl;intro _;rotate_left;intro _;exfalso;(first|omega|with_reducible contradiction))|(apply T.gcase;apply rfl;apply rfl;intro _;exfalso;(first|omega|with_reducible contradiction);intro _)|fail);exact k.h):P:=h ⟨k⟩
theorem Z3A (hT:Tabs F M) [Rd F M H oa (v.flatMap ndV)] (hn:v.length=n) (hl:n≤2200000) (htx:∀ x∈v,(x.kind=4→x.text.length≤2200000)∧x.text.length≤9223372036854775807∧x.key.length≤2200000∧x.kids≤9223372036854775807) :
  Meets Tryz.prog 17 [.slice oa n oc] F M H (fun e H'=>e=.returned (.bool (ZH Lib.validD v))∧H'=H):=by
 subst hn
 refine Meets.enter Tryz.func17 rfl rfl ?_
 unfold ZH
 generalize hQ:shM Lib.validD v [(1,none)]=Q
 repeat' (first|(apply T.bsL;(iterate 5 apply rfl);intro nb)|refine Sg.Y1 ?_|fail)
 refine S.rowOfN (n:=1) (sz:=2) rfl (by decide) ?_
 refine S.loopE 1 [10,11] (fun R b' μ H' e=>∃ (i:Nat) (a:Option Addr) (cp k:Nat) (st:Stk) (l:List Lv),H'=.row a cp 86 2 k (st.reverse.flatMap lvV)::ZC st R∧e=(3,.slice a k cp)::(12,.int .i64 i)::b'∧(i≤v.length∧k=st.length∧k≤33∧(∀ z∈st,z.1≤9223372036854775807∧mlen z≤i)∧LvOf st l∧popL l=l∧shM Lib.validD (v.drop i) l=Q)∧μ=v.length - i) rfl rfl ?_ _ _ ⟨0,_,_,1,[(1,none)],[(1,none)],rfl,rfl,⟨Nat.zero_le _,rfl,by decide,by simp [mlen],.list .nil,rfl,hQ⟩,rfl⟩ (by repeat' first|exact trivial|refine And.intro rfl ?_)
 rintro _ _ _ ⟨i,a,cp,k,st,l,rfl,rfl,⟨h1,h2,h3,hb,h4,h5,h6⟩,rfl⟩ ih
 by_cases h7:i < v.length
 ·have e1:v.drop i=v.getD i default::v.drop (i+1):=by
   rw [List.drop_eq_getElem_cons h7,List.getD_eq_getElem?_getD,List.getElem?_eq_getElem h7,Option.getD_some]
  have hx:=htx (v.getD i default) (by rw [List.getD_eq_getElem?_getD,List.getElem?_eq_getElem h7,Option.getD_some];exact List.getElem_mem h7)
  rw [e1] at h6
  obtain ⟨x1,x2,x3,x4⟩:=hx
  cases st with
  | nil =>
   cases h4
   have h8:Q=false:=by rw [←h6];rfl
   subst h8
   subst h2
   repeat' (first|(apply T.alloc;apply rfl;intro nb)|refine Sg.Y3 ?_|(apply S.condQ;apply rfl;all_goals intro _)|fail)
   exact ⟨_,PSub.drop (PSub.drop (Z0d _ _)),rfl,rfl⟩
  | cons y s =>
   refine S.rowSome (by rw [h2];simp) ?_
   rintro g rfl
   have hs:(y::s).length=s.length+1:=rfl
   cases hp:Zk Lib.validD (v.getD i default) with
   | false =>
    have h9:Q=false:=by
     rw [←h6]
     cases l with
     | nil=>rfl
     | cons z r=>simp only [shM];rw [if_pos hp]
    subst h9
    subst h2
    repeat' (first|(apply T.alloc;apply rfl;intro nb)|refine Sg.Y3 ?_|(apply S.condQ;apply rfl;all_goals intro _)|(apply T.gcase;apply rfl;apply rfl;all_goals intro _)|fail)
    refine T.call rfl rfl (Z4L hT x1 x2) ?_
    rintro _ _ ⟨rfl,rfl⟩
    rw [hp]
    repeat' (first|refine Sg.Y1 ?_|fail)
    exact ⟨_,PSub.drop (PSub.drop (Z0d _ _)),rfl,rfl⟩
   | true =>
    subst h2
    obtain ⟨k0,y2⟩:=y
    obtain ⟨nm,l',rfl,hs',hrel⟩:=h4.inv
    dsimp only at hrel h5 h6
    have hk:=Zbs h5
    obtain ⟨hb0,hml⟩:k0≤9223372036854775807∧mlen (k0,y2)≤i:=hb (k0,y2) (List.mem_cons_self ..)
    have hbs:∀ z∈s,z.1≤9223372036854775807∧mlen z≤i:=fun z hz=>hb z (List.mem_cons_of_mem _ hz)
    have hsl:=hs'.len
    rw [ZcH hp] at h6
    clear hb
    have hrl:((k0,y2)::s:Stk).reverse.length=s.length+1:=by rw [List.length_reverse,hs]
    have hget:((k0,y2)::s:Stk).reverse[s.length]?=some (k0,y2):=by simp
    have i1:((((k0,y2)::s:Stk).length:Nat):Int) - 1=(s.length:Nat):=by rw [hs];omega
    have i2:((k0:Nat):Int) - 1=((k0 - 1:Nat):Int):=by omega
    have hset:((k0,y2)::s:Stk).reverse.set s.length (k0 - 1,y2)=((k0 - 1,y2)::s:Stk).reverse:=by
     rw [List.reverse_cons,List.reverse_cons,List.set_append_right _ _ (by simp)]
     simp
    have hget2:((k0 - 1,y2)::s:Stk).reverse[s.length]?=some (k0 - 1,y2):=by simp
    have hrl2:((k0 - 1,y2)::s:Stk).reverse.length=s.length+1:=by simp
    generalize hnd:v.getD i default=nd0 at *
    repeat' (first|(apply T.alloc;apply rfl;intro nb)|refine Sg.Y3 ?_|(apply S.condQ;apply rfl;all_goals intro _)|(apply T.gcase;apply rfl;apply rfl;all_goals intro _)|fail)
    rw [hnd]
    refine T.call rfl rfl (Z4L hT x1 x2) ?_
    rintro _ _ ⟨rfl,rfl⟩
    rw [hp]
    repeat' (first|refine Sg.Y2 ?_|fail)
    refine S.seq ?_
    repeat' (first|(apply T.subI;apply rfl;apply rfl;(first|omega|(dsimp only;omega));apply rfl;(first|rw [i1]|rw [i2]))|refine Sg.Y2 ?_|fail)
    refine S.seq ?_
    repeat' (first|(apply T.subI;apply rfl;apply rfl;(first|omega|(dsimp only;omega));apply rfl;(first|rw [i1]|rw [i2]))|(refine T.storeF (g:=lvV) (k0 - 1,y2) rfl rfl inferInstance (fun _=>rfl) rfl hget rfl rfl ?_;rw [hset])|(refine T.loadF (g:=lvV) (v:=.int .i64 (k0:Int)) rfl rfl inferInstance (fun _=>rfl) rfl hget rfl rfl ?_)|refine Sg.Y15 ?_|fail)
    refine S.seq ?_
    refine S.cut (fun H' e'=>∃ (z:Nat × Option (Nat × Ents)) (lv0:Lv),H'=.blk nb (ndV nd0) 34::.row (some ⟨g,0,none⟩) cp 86 2 (s.length+1) ((z::s:Stk).reverse.flatMap lvV)::ZC (z::s) H ∧
     e'=[(3,.slice (some ⟨g,0,none⟩) (s.length+1) cp),(5,.pointer (some ⟨nb,0,none⟩)),(10,.slice oa v.length oc),(11,.int .i64 v.length),(12,.int .i64 i)]∧z.1≤9223372036854775807∧mlen z≤i+1∧LvOf (z::s) (lv0::l')∧Z9P nd0 (v.drop (i+1)) lv0 l'=Q) ?_ ?_
    ·intro k' hrest
     rcases hrel with ⟨rfl,rfl⟩|⟨b,m,ns,rfl,rfl,hkn⟩
     ·dsimp only [ZC]
      by_cases hkey:nd0.key=[]
      ·have hvk:Lib.validD nd0.key=true:=by rw [hkey];rfl
       have hk2:decide (¬nd0.key=[])=false:=by simp [hkey]
       rw [if_neg (by rw [hvk];simp [hkey,hasN])] at h6
       repeat' (first|with_reducible refine S.seq ?_|with_reducible refine S.block ?_|fail)
       (apply S.draw;(case Hs=>exact .blk nb (ndV nd0) 34::.row (some ⟨g,0,none⟩) cp 86 2 ((k0,none)::s:Stk).length (((k0 - 1,none)::s:Stk).reverse.flatMap lvV)::ZC s H);(case es=>exact  [23]);(case n=>exact  27);(case hn=>rfl))
       repeat' (first|(apply T.sneq;(iterate 3 apply rfl);rw [hk2])|(apply Sr.same;refine T.loadF (g:=lvV) (v:=.map none) rfl rfl inferInstance (fun _=>rfl) rfl hget2 rfl rfl ?_)|(apply Sr.same;refine T.call rfl rfl (Z0f hT (by omega)) ?_;rintro _ _ ⟨rfl,rfl⟩;rw [hvk])|(apply SA.gz;(iterate 4 apply rfl);(first|with_reducible rfl|decide);apply rfl;kernel_rfl)|(apply SA.gn;(iterate 4 apply rfl);(first|with_reducible rfl|decide);apply rfl;kernel_rfl)|(apply SA.qn;(iterate 4 apply rfl);kernel_rfl)|(apply SA.qz;(iterate 4 apply rfl);kernel_rfl)|(apply SA.done;apply rfl;kernel_rfl)|(apply SK.intro;(first|exact fun _ h=>h|exact fun _ h=>St.psub h (by ((repeat (first|dsimp only [List.set_cons_zero]|dsimp only [List.set_cons_succ]));repeat' first|exact PSub.refl _|exact PSub.nil|(apply PSub.take;(repeat' first|(with_reducible exact Z0)|(with_reducible apply Z1)))|(with_reducible apply PSub.drop)|((apply PSub.take);(repeat' first|exact Z0|(apply Z1)))))))|refine Sg.Y16 ?_|fail)
       all_goals
        skip
        exact hrest _ _ _ ⟨(k0 - 1,none),(k0 - 1,none),rfl,rfl,by omega,by simp [mlen],.list hs',h6⟩ (by repeat' first|exact trivial|refine And.intro rfl ?_)
      ·have hk2:decide (¬nd0.key=[])=true:=by simp [hkey]
       rw [if_pos (.inl ⟨rfl,hkey⟩)] at h6
       subst h6
       repeat' (first|with_reducible refine S.seq ?_|with_reducible refine S.block ?_|fail)
       (apply S.draw;(case Hs=>exact .blk nb (ndV nd0) 34::.row (some ⟨g,0,none⟩) cp 86 2 ((k0,none)::s:Stk).length (((k0 - 1,none)::s:Stk).reverse.flatMap lvV)::ZC s H);(case es=>exact  [23]);(case n=>exact  27);(case hn=>rfl))
       repeat' (first|(apply T.sneq;(iterate 3 apply rfl);rw [hk2])|(apply Sr.same;refine T.loadF (g:=lvV) (v:=.map none) rfl rfl inferInstance (fun _=>rfl) rfl hget2 rfl rfl ?_)|(apply SA.gxv;(iterate 5 apply rfl);kernel_rfl;apply rfl)|(apply SA.gz;(iterate 4 apply rfl);(first|with_reducible rfl|decide);apply rfl;kernel_rfl)|(apply SA.gn;(iterate 4 apply rfl);(first|with_reducible rfl|decide);apply rfl;kernel_rfl)|(apply SA.qn;(iterate 4 apply rfl);kernel_rfl)|(apply SA.qz;(iterate 4 apply rfl);kernel_rfl)|(apply SA.done;apply rfl;kernel_rfl)|(apply SK.intro;(first|exact fun _ h=>h|exact fun _ h=>St.psub h (by ((repeat (first|dsimp only [List.set_cons_zero]|dsimp only [List.set_cons_succ]));repeat' first|exact PSub.refl _|exact PSub.nil|(apply PSub.take;(repeat' first|(with_reducible exact Z0)|(with_reducible apply Z1)))|(with_reducible apply PSub.drop)|((apply PSub.take);(repeat' first|exact Z0|(apply Z1)))))))|refine Sg.Y16 ?_|fail)
       all_goals
        skip
        exact ⟨_,PSub.drop (PSub.drop (Z0d _ _)),rfl,rfl⟩
     ·dsimp only [ZC]
      have hml2:m.length≤i:=hml
      by_cases hmem:nd0.key∈ns
      ·have hg:(eget m nd0.key).getD 0=1:=by rw [hkn,if_pos hmem]
       rw [if_pos (.inr (.inl (by simp [hasN,hmem])))] at h6
       subst h6
       repeat' (first|with_reducible refine S.seq ?_|with_reducible refine S.block ?_|fail)
       (apply S.draw;(case Hs=>exact .blk nb (ndV nd0) 34::.row (some ⟨g,0,none⟩) cp 86 2 ((k0,some (b,m))::s:Stk).length (((k0 - 1,some (b,m))::s:Stk).reverse.flatMap lvV)::mpR b m::ZC s H);(case es=>exact  [23]);(case n=>exact  27);(case hn=>rfl))
       repeat' (first|(apply Sr.same;refine T.loadF (g:=lvV) (v:=.map (some b)) rfl rfl inferInstance (fun _=>rfl) rfl hget2 rfl rfl ?_)|(apply T.mapLook;apply rfl;apply rfl;infer_instance;(simp only [maxLen];omega);apply rfl;rw [hg])|(apply SA.gxv;(iterate 5 apply rfl);kernel_rfl;apply rfl)|(apply SA.gz;(iterate 4 apply rfl);(first|with_reducible rfl|decide);apply rfl;kernel_rfl)|(apply SA.gn;(iterate 4 apply rfl);(first|with_reducible rfl|decide);apply rfl;kernel_rfl)|(apply SA.qn;(iterate 4 apply rfl);kernel_rfl)|(apply SA.qz;(iterate 4 apply rfl);kernel_rfl)|(apply SA.done;apply rfl;kernel_rfl)|(apply SK.intro;(first|exact fun _ h=>h|exact fun _ h=>St.psub h (by ((repeat (first|dsimp only [List.set_cons_zero]|dsimp only [List.set_cons_succ]));repeat' first|exact PSub.refl _|exact PSub.nil|(apply PSub.take;(repeat' first|(with_reducible exact Z0)|(with_reducible apply Z1)))|(with_reducible apply PSub.drop)|((apply PSub.take);(repeat' first|exact Z0|(apply Z1)))))))|refine Sg.Y16 ?_|fail)
       all_goals
        skip
        exact ⟨_,PSub.drop (PSub.drop (PSub.drop (Z0d _ _))),rfl,rfl⟩
      ·have hg:(eget m nd0.key).getD 0=0:=by rw [hkn,if_neg hmem]
       cases hvk:Lib.validD nd0.key with
       | false =>
        rw [if_pos (.inr (.inr hvk))] at h6
        subst h6
        repeat' (first|with_reducible refine S.seq ?_|with_reducible refine S.block ?_|fail)
        (apply S.draw;(case Hs=>exact .blk nb (ndV nd0) 34::.row (some ⟨g,0,none⟩) cp 86 2 ((k0,some (b,m))::s:Stk).length (((k0 - 1,some (b,m))::s:Stk).reverse.flatMap lvV)::mpR b m::ZC s H);(case es=>exact  [23]);(case n=>exact  27);(case hn=>rfl))
        repeat' (first|(apply Sr.same;refine T.loadF (g:=lvV) (v:=.map (some b)) rfl rfl inferInstance (fun _=>rfl) rfl hget2 rfl rfl ?_)|(apply T.mapLook;apply rfl;apply rfl;infer_instance;(simp only [maxLen];omega);apply rfl;rw [hg])|(apply Sr.same;refine T.call rfl rfl (Z0f hT (by omega)) ?_;rintro _ _ ⟨rfl,rfl⟩;rw [hvk])|(apply SA.gxv;(iterate 5 apply rfl);kernel_rfl;apply rfl)|(apply SA.gz;(iterate 4 apply rfl);(first|with_reducible rfl|decide);apply rfl;kernel_rfl)|(apply SA.gn;(iterate 4 apply rfl);(first|with_reducible rfl|decide);apply rfl;kernel_rfl)|(apply SA.qn;(iterate 4 apply rfl);kernel_rfl)|(apply SA.qz;(iterate 4 apply rfl);kernel_rfl)|(apply SA.done;apply rfl;kernel_rfl)|(apply SK.intro;(first|exact fun _ h=>h|exact fun _ h=>St.psub h (by ((repeat (first|dsimp only [List.set_cons_zero]|dsimp only [List.set_cons_succ]));repeat' first|exact PSub.refl _|exact PSub.nil|(apply PSub.take;(repeat' first|(with_reducible exact Z0)|(with_reducible apply Z1)))|(with_reducible apply PSub.drop)|((apply PSub.take);(repeat' first|exact Z0|(apply Z1)))))))|refine Sg.Y16 ?_|fail)
        all_goals
         skip
         exact ⟨_,PSub.drop (PSub.drop (PSub.drop (Z0d _ _))),rfl,rfl⟩
       | true =>
        rw [if_neg (by rw [hvk];simp [hasN,hmem])] at h6
        have hel:=Z0R m nd0.key 1
        repeat' (first|with_reducible refine S.seq ?_|with_reducible refine S.block ?_|fail)
        (apply S.draw;(case Hs=>exact .blk nb (ndV nd0) 34::.row (some ⟨g,0,none⟩) cp 86 2 ((k0,some (b,m))::s:Stk).length (((k0 - 1,some (b,m))::s:Stk).reverse.flatMap lvV)::mpR b m::ZC s H);(case es=>exact  [23]);(case n=>exact  27);(case hn=>rfl))
        repeat' (first|(apply Sr.same;refine T.loadF (g:=lvV) (v:=.map (some b)) rfl rfl inferInstance (fun _=>rfl) rfl hget2 rfl rfl ?_)|(apply T.mapLook;apply rfl;apply rfl;infer_instance;(simp only [maxLen];omega);apply rfl;rw [hg])|(apply Sr.same;refine T.call rfl rfl (Z0f hT (by omega)) ?_;rintro _ _ ⟨rfl,rfl⟩;rw [hvk])|(apply SA.gxv;(iterate 5 apply rfl);kernel_rfl;apply rfl)|(apply SA.gz;(iterate 4 apply rfl);(first|with_reducible rfl|decide);apply rfl;kernel_rfl)|(apply SA.gn;(iterate 4 apply rfl);(first|with_reducible rfl|decide);apply rfl;kernel_rfl)|(apply SA.qn;(iterate 4 apply rfl);kernel_rfl)|(apply SA.qz;(iterate 4 apply rfl);kernel_rfl)|(apply SA.done;apply rfl;kernel_rfl)|(apply SK.intro;(first|exact fun _ h=>h|exact fun _ h=>St.psub h (by ((repeat (first|dsimp only [List.set_cons_zero]|dsimp only [List.set_cons_succ]));repeat' first|exact PSub.refl _|exact PSub.nil|(apply PSub.take;(repeat' first|(with_reducible exact Z0)|(with_reducible apply Z1)))|(with_reducible apply PSub.drop)|((apply PSub.take);(repeat' first|exact Z0|(apply Z1)))))))|refine Sg.Y16 ?_|fail)
        all_goals
         skip
         (apply S.draw;(case Hs=>exact []);(case es=>exact  [6]);(case n=>exact  7);(case hn=>rfl))
         repeat' (first|(apply Sr.same;refine T.loadF (g:=lvV) (v:=.map (some b)) rfl rfl inferInstance (fun _=>rfl) rfl hget2 rfl rfl ?_)|(apply SA.qn;(iterate 4 apply rfl);kernel_rfl)|refine Sg.Y15 ?_|fail)
         refine Sr.front b ?_
         refine T.mapPutT rfl rfl rfl (by simp only [maxLen];omega) (by simp only [maxLen];omega) rfl ?_
         refine Sr.frontR (some ⟨g,0,none⟩) ?_
         refine Sr.front nb ?_
         repeat' (first|with_reducible refine Sr.nil ?_|with_reducible refine S.inBlock ?_|(apply SA.done;apply rfl;kernel_rfl)|(apply SK.intro;(first|exact fun _ h=>h|exact fun _ h=>St.psub h (by ((repeat (first|dsimp only [List.set_cons_zero]|dsimp only [List.set_cons_succ]));repeat' first|exact PSub.refl _|exact PSub.nil|(apply PSub.take;(repeat' first|(with_reducible exact Z0)|(with_reducible apply Z1)))|(with_reducible apply PSub.drop)|((apply PSub.take);(repeat' first|exact Z0|(apply Z1)))))))|fail)
         skip
         rw [show ((k0 - 1,some (b,m))::s:Stk).reverse.flatMap lvV=((k0 - 1,some (b,eput m nd0.key 1))::s:Stk).reverse.flatMap lvV by rw [List.reverse_cons,List.reverse_cons,List.flatMap_append,List.flatMap_append];rfl]
         exact hrest _ _ _ ⟨(k0 - 1,some (b,eput m nd0.key 1)),(k0 - 1,some (nd0.key::ns)),rfl,rfl,by omega,by show (eput m nd0.key 1).length≤_;omega,.obj (hkn.put _) hs',h6⟩ (by repeat' first|exact trivial|refine And.intro rfl ?_)
    ·rintro _ _ ⟨z,lv0,rfl,rfl,hz,hzm,hlv,hQ2⟩
     clear h6 hget2 hrl2 hset hrl hget i1 i2 hrel h4 h5 hk hml hb0
     have hlen:l'.length+1=s.length+1:=by omega
     refine S.seq ?_
     refine S.cut (fun H' e'=>∃ (st2:Stk) (l2:List Lv) (a2:Option Addr) (cp2:Nat),H'=.row a2 cp2 86 2 st2.length (st2.reverse.flatMap lvV)::ZC st2 H∧e'=[(3,.slice a2 st2.length cp2),(10,.slice oa v.length oc),(11,.int .i64 v.length),(12,.int .i64 i)] ∧
      st2.length≤33∧(∀ z∈st2,z.1≤9223372036854775807∧mlen z≤i+1)∧LvOf st2 l2∧shM Lib.validD (v.drop (i+1)) (popL l2)=Q) ?_ ?_
     ·intro k' hrest
      have hbz:∀ y∈(z::s:Stk),y.1≤9223372036854775807∧mlen y≤i+1:=fun y hy=>by
       rcases List.mem_cons.1 hy with rfl|hy
       ·exact ⟨hz,hzm⟩
       ·have:=hbs y hy
        exact ⟨this.1,by omega⟩
      have hzl:(z::s:Stk).reverse.length=s.length+1:=by rw [List.length_reverse];rfl
      unfold Z9P at hQ2
      by_cases hrow:Z0u nd0
      ·rw [if_pos hrow] at hQ2
       obtain ⟨kk,hkk⟩:∃ kk:Nat,nd0.kids=(kk:Int):=⟨_,(Int.toNat_of_nonneg (Z5x hp).2).symm⟩
       rw [hkk,Int.toNat_natCast] at hQ2
       have hkl:kk≤9223372036854775807:=by omega
       by_cases hd:32 < l'.length+1
       ·rw [if_pos hd] at hQ2
        subst hQ2
        rcases hrow with h6' | h7'
        ·repeat' (first|refine Sg.Y3 ?_|(apply S.condQ;apply rfl;all_goals intro _)|(apply T.gcase;apply rfl;apply rfl;all_goals intro _)|fail)
         exact ⟨_,PSub.drop (PSub.drop (Z0d _ _)),rfl,rfl⟩
        ·have h6':¬nd0.kind=6:=by omega
         repeat' (first|refine Sg.Y3 ?_|(apply S.condQ;apply rfl;all_goals intro _)|(apply T.gcase;apply rfl;apply rfl;all_goals intro _)|fail)
         exact ⟨_,PSub.drop (PSub.drop (Z0d _ _)),rfl,rfl⟩
       ·rw [if_neg hd] at hQ2
        rcases hrow with h6' | h7'
        ·have h7':¬nd0.kind=7:=by omega
         rw [show lv2 nd0=none from if_neg h7'] at hQ2
         repeat' (first|(apply Sr.same;refine T.appendF (g:=lvV) (kk,none) rfl rfl (by show [Value.int .i64 nd0.kids,_]=_;rw [hkk];rfl) inferInstance (fun _=>rfl) rfl rfl rfl (by constructor<;>omega) rfl ?_;intro a2 cp2;rw [←List.reverse_cons])|(apply T.alloc;apply rfl;intro nb)|(apply T.bsL;(iterate 5 apply rfl);intro nb)|refine Sg.Y3 ?_|(apply S.condQ;apply rfl;all_goals intro _)|(apply T.gcase;apply rfl;apply rfl;all_goals intro _)|fail)
         refine S.sublist ?_ (PSub.drop (PSub.drop (PSub.refl _)))
         exact hrest _ _ _ ⟨(kk,none)::z::s,(kk,none)::lv0::l',a2,cp2,rfl,rfl,by show s.length+1+1≤33;omega,fun y hy=>(List.mem_cons.1 hy).elim (fun h=>by subst h;exact ⟨hkl,Nat.zero_le _⟩) (hbz y),.list hlv,hQ2⟩ (by repeat' first|exact trivial|refine And.intro rfl ?_)
        ·have h6':¬nd0.kind=6:=by omega
         rw [show lv2 nd0=some [] from if_pos h7'] at hQ2
         repeat' (first|(apply Sr.same;refine T.appendF (g:=lvV) (kk,some (mb,[])) rfl rfl (by show [Value.int .i64 nd0.kids,_]=_;rw [hkk];rfl) inferInstance (fun _=>rfl) rfl rfl rfl (by constructor<;>omega) rfl ?_;intro a2 cp2;rw [←List.reverse_cons])|(apply T.mapMake;apply rfl;intro mb)|(apply T.alloc;apply rfl;intro nb)|(apply T.bsL;(iterate 5 apply rfl);intro nb)|refine Sg.Y3 ?_|(apply S.condQ;apply rfl;all_goals intro _)|(apply T.gcase;apply rfl;apply rfl;all_goals intro _)|fail)
         refine S.sublist (H':=.row a2 cp2 86 2 (s.length+1+1) (((kk,some (mb,[]))::z::s:Stk).reverse.flatMap lvV)::mpR mb []::ZC (z::s) H) ?_ (by first|exact PSub.take (Z1 (Z1 (Z1 Z0))) (PSub.take Z0 (PSub.drop (PSub.drop (PSub.refl _))))|exact PSub.take (Z1 (Z1 (Z1 Z0))) (PSub.take (Z1 Z0) (PSub.drop (PSub.drop (PSub.refl _))))|exact PSub.take (Z1 (Z1 Z0)) (PSub.drop (PSub.drop (PSub.refl _))))
         exact hrest _ _ _ ⟨(kk,some (mb,[]))::z::s,(kk,some [])::lv0::l',a2,cp2,rfl,rfl,by show s.length+1+1≤33;omega,fun y hy=>(List.mem_cons.1 hy).elim (fun h=>by subst h;exact ⟨hkl,Nat.zero_le _⟩) (hbz y),.obj KN.nil hlv,hQ2⟩ (by repeat' first|exact trivial|refine And.intro rfl ?_)
      ·rw [if_neg hrow] at hQ2
       have h6':¬nd0.kind=6:=fun h=>hrow (.inl h)
       have h7':¬nd0.kind=7:=fun h=>hrow (.inr h)
       repeat' (first|refine Sg.Y3 ?_|(apply S.condQ;apply rfl;all_goals intro _)|(apply T.gcase;apply rfl;apply rfl;all_goals intro _)|fail)
       refine S.sublist ?_ (PSub.drop (PSub.refl _))
       exact hrest _ _ _ ⟨z::s,lv0::l',_,_,rfl,rfl,by show s.length+1≤33;omega,hbz,hlv,hQ2⟩ (by repeat' first|exact trivial|refine And.intro rfl ?_)
     ·rintro _ _ ⟨st2,l2,a2,cp2,rfl,rfl,hl2,hb2,hlv2,hQ3⟩
      clear hQ2 hlv hzm hz hlen
      refine S.block ?_
      refine S.loopE 0 [10,11,12] (fun R b' μ H' e=>∃ (k:Nat) (st:Stk) (l:List Lv),H'=.row a2 cp2 86 2 k (st.reverse.flatMap lvV)::ZC st H∧e=(3,.slice a2 k cp2)::b' ∧
       (k=st.length∧k≤33∧(∀ z∈st,z.1≤9223372036854775807∧mlen z≤i+1)∧LvOf st l∧shM Lib.validD (v.drop (i+1)) (popL l)=Q)∧μ=k) rfl rfl ?_ _ _ ⟨_,st2,l2,rfl,rfl,⟨rfl,hl2,hb2,hlv2,hQ3⟩,rfl⟩ (by repeat' first|exact trivial|refine And.intro rfl ?_)
      rintro _ _ _ ⟨k,st,l,rfl,rfl,⟨c1,c2,c3,c4,c5⟩,rfl⟩ ih2
      cases st with
      | nil =>
       cases c4
       subst c1
       repeat' (first|refine Sg.Y1 ?_|fail)
       exact ih _ _ _ _ ⟨i+1,a2,cp2,0,[],[],rfl,rfl,⟨h7,rfl,by omega,by simp,.nil,rfl,c5⟩,rfl⟩ (by omega) (by repeat' first|exact trivial|refine And.intro rfl ?_)
      | cons y s2 =>
       subst c1
       obtain ⟨k0,y2⟩:=y
       obtain ⟨nm2,l3,rfl,c6,c7⟩:=c4.inv
       refine S.rowSome (by simp) ?_
       rintro g2 rfl
       have c8:((k0,y2)::s2:Stk).length=s2.length+1:=rfl
       have j1:((((k0,y2)::s2:Stk).length:Nat):Int) - 1=(s2.length:Nat):=by rw [c8];omega
       have jrl:((k0,y2)::s2:Stk).reverse.length=s2.length+1:=by rw [List.length_reverse,c8]
       have jget:((k0,y2)::s2:Stk).reverse[s2.length]?=some (k0,y2):=by simp
       by_cases hk0:k0=0
       ·subst hk0
        refine S.capR (ad:=some ⟨g2,0,none⟩) inferInstance fun hcap=>?_
        repeat' (first|(apply T.subI;apply rfl;apply rfl;(first|omega|(dsimp only;omega));apply rfl;rw [j1])|(apply Sr.same;refine T.loadF (g:=lvV) (v:=.int .i64 ((0:Nat):Int)) rfl rfl inferInstance (fun _=>rfl) rfl jget rfl rfl ?_)|refine Sg.Y17 ?_|(apply T.gcase;apply rfl;apply rfl;all_goals intro _)|fail)
        refine S.weaken (H':=lvR (some ⟨g2,0,none⟩) cp2 s2::ZC s2 H) ?_ (fun w h=>Zdv h)
        exact ih2 _ _ _ _ ⟨s2.length,s2,l3,rfl,rfl,⟨rfl,by rw [c8] at c2;omega,fun z hz=>c3 z (List.mem_cons_of_mem _ hz),c6,c5⟩,rfl⟩ (by rw [c8];omega) (by repeat' first|exact trivial|refine And.intro rfl ?_)
       ·repeat' (first|(apply T.subI;apply rfl;apply rfl;(first|omega|(dsimp only;omega));apply rfl;rw [j1])|(apply Sr.same;refine T.loadF (g:=lvV) (v:=.int .i64 ((k0:Nat):Int)) rfl rfl inferInstance (fun _=>rfl) rfl jget rfl rfl ?_)|refine Sg.Y17 ?_|(apply S.condQ;apply rfl;all_goals intro _)|(apply T.gcase;apply rfl;apply rfl;all_goals intro _)|fail)
        have e5:popL ((k0,nm2)::l3)=(k0,nm2)::l3:=by
         obtain ⟨k,rfl⟩:∃ k,k0=k+1:=⟨k0 - 1,by omega⟩
         rfl
        dsimp only at c5
        rw [e5] at c5
        exact ih _ _ _ _ ⟨i+1,_,cp2,_,(k0,y2)::s2,(k0,nm2)::l3,rfl,rfl,⟨h7,rfl,c2,c3,c4,e5,c5⟩,rfl⟩ (by omega) (by repeat' first|exact trivial|refine And.intro rfl ?_)
 ·obtain rfl:i=v.length:=by omega
  rw [List.drop_length] at h6
  have h8:=h4.len
  have h9:(decide ((k:Int)=0))=Q:=by
   rw [←h6,h2,h8]
   cases l with
   | nil=>simp [shM]
   | cons x r =>
    simp only [shM,List.length_cons,List.isEmpty_cons,decide_eq_false_iff_not]
    omega
  subst h2
  repeat' (first|refine Sg.Y3 ?_|(apply S.condQ;apply rfl;all_goals intro _)|fail)
  exact ⟨_,PSub.drop (Z0d _ _),by rw [←h9],rfl⟩
end
end Go.Proofs.YtjajcmedipjfhaaGreatDoor
