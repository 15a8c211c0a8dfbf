/- Texts put together by a program: ShaA ShaB ShaC ShaD ShaE ShaF SdA MapN DrawG. -/
import Derived.Test.YtophlopiigpbgaaGreatDoorFacts
import Derived.Test.YtophlopiigpbgaaGreatDoorMb
import Derived.Test.YtophlopiigpbgaaGreatDoorMc
import Derived.Test.YtophlopiigpbgaaGreatDoorMi
import Derived.Laws.Cover3
set_option linter.unusedVariables false
set_option linter.unusedSimpArgs false
/- The program's sum: turns, sizes, and one block by words of 32 bits. -/
namespace Go.Proofs.YtophlopiigpbgaaGreatDoor
open Sg Go Go.RowKit Go.IntWalk
set_option maxRecDepth 100000
set_option maxHeartbeats 1000000
theorem Z9F (x:UInt32) (n k:Nat) (h:n+k=32) (h0:0 < n) (hk:0 < k):PCall Tryz.prog 163 [wV x,.int .i64 (-(n:Int))] (wV (rot n x)):=by
 intro w
 unfold wV
 have e1:bits BinOp.and IntKind.u64 (IntKind.u64.wrap (-(n:Int))) 31=(k:Int):=by
  have h2:IntKind.u64.wrap (-(n:Int))=((18446744073709551616 - n:Nat):Int):=by rw [IntKind.wrap_u64];omega
  rw [h2]
  have h3:=ZaQ (m:=18446744073709551616 - n) (n:=31) (by omega) (by omega)
  refine Eq.trans h3 ?_
  rw [show 31=2 ^ 5 - 1 from rfl,Nat.and_two_pow_sub_one_eq_mod]
  omega
 have e2:=Zbg x h h0 hk
 have hx:=UInt32.toNat_lt x
 generalize (rot (n:Int) x).toNat=r at *
 generalize x.toNat=m at *
 have e3:(32 - (k:Int))=n:=by omega
 rw [Z9S] at e2
 go_enter Tryz.func163,Tryz.ntmps163
 go_wp2
 go_ret
 exact ⟨rfl,rfl⟩
theorem Z14 (x:UInt32) (n:Int) (h:0 < n∧n < 32):PCall Tryz.prog 163 [wV x,.int .i64 (-n)] (wV (rot n x)):=by
 obtain ⟨m,rfl⟩:∃ m:Nat,n=(m:Int):=⟨n.toNat,by omega⟩
 exact Z9F x m (32 - m) (by omega) (by omega) (by omega)
theorem rotl7 (x:UInt32):PCall Tryz.prog 163 [wV x,.int .i64 (-7)] (wV (rot 7 x)):=Z14 x 7 (by decide)
theorem rotl18 (x:UInt32):PCall Tryz.prog 163 [wV x,.int .i64 (-18)] (wV (rot 18 x)):=Z14 x 18 (by decide)
theorem rotl17 (x:UInt32):PCall Tryz.prog 163 [wV x,.int .i64 (-17)] (wV (rot 17 x)):=Z14 x 17 (by decide)
theorem rotl19 (x:UInt32):PCall Tryz.prog 163 [wV x,.int .i64 (-19)] (wV (rot 19 x)):=Z14 x 19 (by decide)
theorem rotl6 (x:UInt32):PCall Tryz.prog 163 [wV x,.int .i64 (-6)] (wV (rot 6 x)):=Z14 x 6 (by decide)
theorem rotl11 (x:UInt32):PCall Tryz.prog 163 [wV x,.int .i64 (-11)] (wV (rot 11 x)):=Z14 x 11 (by decide)
theorem rotl25 (x:UInt32):PCall Tryz.prog 163 [wV x,.int .i64 (-25)] (wV (rot 25 x)):=Z14 x 25 (by decide)
theorem rotl2 (x:UInt32):PCall Tryz.prog 163 [wV x,.int .i64 (-2)] (wV (rot 2 x)):=Z14 x 2 (by decide)
theorem rotl13 (x:UInt32):PCall Tryz.prog 163 [wV x,.int .i64 (-13)] (wV (rot 13 x)):=Z14 x 13 (by decide)
theorem rotl22 (x:UInt32):PCall Tryz.prog 163 [wV x,.int .i64 (-22)] (wV (rot 22 x)):=Z14 x 22 (by decide)
theorem Z93 (w:World):Calls Tryz.prog 105 ⟨[.int .i64 1]⟩ w fun e w'=>e=.returned (.int .i64 64)∧w'=w:=by
 go_enter Tryz.func105,Tryz.ntmps105
 go_wp2
 go_ret
 exact ⟨rfl,rfl⟩
theorem Z58:PCall Tryz.prog 105 [.int .i64 1] (.int .i64 64):=Z93
def stC (V:V8) (rest:List UInt8) (n:Nat):List Value:=.int .i64 1::(V.list.map wV++(List.replicate 8 (.int .u64 0)++(rest.map bV++[.int .u64 (n:Int)])))
abbrev stR (b:Nat) (V:V8) (rest:List UInt8) (n:Nat):Res:=.blk b (stC V rest n) 165
theorem Zdz {V:V8} {rest:List UInt8} {n j:Nat} (h:j < rest.length):(stC V rest n)[17+j]?=some (.int .u8 ((rest.getD j 0).toNat:Int)):=by
 have h1:(rest.map bV)[j]?=some (.int .u8 ((rest.getD j 0).toNat:Int)):=getB h
 rw [stC,show 17+j=(16+j)+1 by omega,List.getElem?_cons_succ,List.getElem?_append_right (by simp [V8.list];omega),List.getElem?_append_right (by simp [V8.list];omega),List.getElem?_append_left (by simp [V8.list];omega)]
 simp only [V8.list,List.length_map,List.length_cons,List.length_nil,List.length_replicate]
 rw [show 16+j - (0+1+1+1+1+1+1+1+1) - 8=j by omega]
 exact h1
theorem Ze9 {V:V8} {rest:List UInt8} {n:Nat} (h:rest.length=128):(stC V rest n)[145]?=some (.int .u64 (n:Int)):=by
 rw [stC,List.getElem?_cons_succ,List.getElem?_append_right (by simp [V8.list]),List.getElem?_append_right (by simp [V8.list]),List.getElem?_append_right (by simp [V8.list,h])]
 simp [V8.list,h]
theorem Z6N {V:V8} {rest:List UInt8} {n:Nat} (h:rest.length=128):(stC V rest n).length=146:=by simp [stC,V8.list,h]
theorem ZcF {V:V8} {rest:List UInt8} {n:Nat}:(stC V rest n).all (·.oneCell')=true:=by
 simp [stC,wV,Value.oneCell']
theorem Zb7 {V:V8} {rest:List UInt8} {n m:Nat} (h:rest.length=128):(stC V rest n).set 145 (.int .u64 (m:Int))=stC V rest m:=by
 rw [stC,stC,List.set_cons_succ,List.set_append_right _ _ (by simp [V8.list]),List.set_append_right _ _ (by simp [V8.list]),List.set_append_right _ _ (by simp [V8.list,h])]
 simp [V8.list,h]
def V8.of (l:List UInt32):V8:=⟨l.getD 0 0,l.getD 1 0,l.getD 2 0,l.getD 3 0,l.getD 4 0,l.getD 5 0,l.getD 6 0,l.getD 7 0⟩
theorem V8.of_list {l:List UInt32} (h:l.length=8):(V8.of l).list=l:=by
 match l,h with
 | [a,b,c,d,e,f,g,h],_=>rfl
theorem ZcE {V:V8} {rest:List UInt8} {n i:Nat} {a:UInt32} (h:i < 8):(stC V rest n).set (1+i) (wV a)=stC (V8.of (V.list.set i a)) rest n:=by
 rw [stC,stC,V8.of_list (by simp [V8.list]),show 1+i=i+1 by omega,List.set_cons_succ,List.set_append_left _ _ (by simpa [V8.list] using h),List.map_set]
theorem Zb6 {V:V8} {rest:List UInt8} {n i:Nat} (h:i < 8):(stC V rest n)[1+i]?=some (wV (V.list.getD i 0)):=by
 rw [stC,show 1+i=i+1 by omega,List.getElem?_cons_succ,List.getElem?_append_left (by simpa [V8.list] using h)]
 exact getW (by simpa [V8.list] using h)
instance stC_rest {F:World} {M:List Nat} {H:List Res} {b:Nat} {V:V8} {rest:List UInt8} {n o:Nat}:Rd F M (stR b V rest n::H) (some ⟨b,17+o,none⟩) ((rest.drop o).map bV):=⟨fun w hw j u hu=>by
 refine ⟨_,rfl,?_⟩
 have hj:o+j < rest.length:=by have:=(List.getElem?_eq_some_iff.1 hu).1;simp only [List.length_map,List.length_drop] at this;omega
 rw [Zo,hw.cell (List.mem_cons_self ..),Nat.add_assoc,Zdz hj]
 rw [List.getElem?_map,List.getElem?_drop,List.getElem?_eq_getElem hj] at hu
 simp only [Option.map_some,Option.some.injEq] at hu
 rw [←hu]
 simp [List.getD,hj]⟩
section
variable {q:Mode} {c:Ctx} {ds:List Deferred} {H:List Res} {ops:Array Oper} {l:List Oper} {κ:List Res→Env→Prop} {dr:Bool} {e:Env} {ty:TypeId} {pos:String} {aft:Array Edge}
theorem T.stWord {x y:Operand} {b i n:Nat} {V:V8} {rest:List UInt8} {a:UInt32} {t E:TypeId} {z:Value} {by_:Nat} [HI c.P t z 1 by_] {f:Res→List Res} (hx:ev e x=some (.pointer (some ⟨b,1+i,none⟩))) (hy:ev e y=some (wV a))
  (hb:AtB H b (stC V rest n) E f) (hi:i < 8) (hk:Sr (.eff dr) c ds (f (.blk b (stC (V8.of (V.list.set i a)) rest n) E)) ops l κ e):Sr (.eff dr) c ds H ops (⟨none,.store t x y,ty,pos,aft,none⟩::l) κ e:=by
 refine Sr.store (z:=z) (by_:=by_) hx hy (by simp [stC,V8.list];omega) rfl ?_
 rw [ZcE hi]
 exact hk
end
end Go.Proofs.YtophlopiigpbgaaGreatDoor
/- The program's sum: one block taken by words of 32 bits. -/
namespace Go.Proofs.YtophlopiigpbgaaGreatDoor
open Sg Go.IntWalk
set_option maxRecDepth 100000
set_option maxHeartbeats 2000000
theorem Z2c {l:List UInt8} {n j:Nat} (h:j < n):(l.take n).getD j 0=l.getD j 0:=by simp [List.getD,List.getElem?_take_of_lt h]
theorem Z3B (l:List UInt8):∀ n,n≤16→Z2j (l.take 64) n=Z2j l n
 | 0,_=>rfl
 | n+1,h=>by rw [Z2j,Z2j,Z3B l n (by omega),Z2c (by omega),Z2c (by omega),Z2c (by omega),Z2c (by omega)]
theorem Z2d {l:List UInt8} {o j:Nat}:(l.drop o).getD j 0=l.getD (o+j) 0:=by simp [List.getD]
theorem Z3v {xs ys:List UInt32} {j:Nat} (h:j < xs.length):(xs++ys).getD j 0=xs.getD j 0:=by simp [List.getD,List.getElem?_append_left h]
theorem Z84 {xs:List UInt32} {i k:Nat} (h:xs.length=i) (hk:k=64 - (i+1)) (hi:i < 64) (a:UInt32):(xs++List.replicate (64 - i) 0).set i a=(xs++[a])++List.replicate k 0:=by
 subst hk
 obtain ⟨j,hj⟩:∃ j,64 - i=j+1:=⟨63 - i,by omega⟩
 rw [hj,List.replicate_succ,List.set_append_right _ _ (by omega),h,Nat.sub_self,List.set_cons_zero,show 64 - (i+1)=j by omega,List.append_assoc]
 rfl
def Zc3 (V U:V8) (i:Nat):V8:=V8.of ((V.add U).list.take i++V.list.drop i)
theorem Z99 {V U:V8}:∀ {i:Nat},i < 8→V8.of ((Zc3 V U i).list.set i ((Zc3 V U i).list.getD i 0+U.list.getD i 0))=Zc3 V U (i+1)
 | 0,_=>rfl
 | 1,_=>rfl
 | 2,_=>rfl
 | 3,_=>rfl
 | 4,_=>rfl
 | 5,_=>rfl
 | 6,_=>rfl
 | 7,_=>rfl
theorem _root_.Sg.Y11 {P R:Prop} (k:R) (h:Sg.Kp R→P:=by intro k;(first|(apply T.wadd;(iterate 3 apply rfl))|(apply T.wxor;(iterate 3 apply rfl))|(apply T.wand;(iterate 3 apply rfl))|(apply T.eqlP;apply rfl;apply rfl)|(apply T.mv;apply rfl;apply rfl)|(apply T.asn;apply rfl;apply rfl)|(apply T.len;apply rfl;apply rfl)|(apply T.nilCheck;apply rfl;apply rfl)|(apply T.fieldAddrZ;apply rfl;apply rfl)|(apply T.load;apply rfl;apply rfl;infer_instance;apply rfl;apply rfl)|(apply T.lss;(iterate 3 apply rfl))|(apply T.geq;(iterate 3 apply rfl))|(apply T.eql;(iterate 3 apply rfl))|(apply T.ixAZ;apply rfl;apply rfl;omega;apply rfl)|(apply T.ixA;apply rfl;apply rfl;omega;apply rfl)|(apply T.buildL;(iterate 3 apply rfl))|(apply T.buildAL;(iterate 3 apply rfl))|(apply T.loadN;apply rfl;apply rfl;infer_instance;(first|rfl|(simp;done));apply rfl)|(with_reducible refine Sr.nil ?_)|(with_reducible refine S.seq ?_)|(with_reducible refine S.block ?_)|(with_reducible refine S.reg ?_)|(with_reducible refine S.skip ?_)|(apply S.exit;apply rfl)|(apply S.quiet;apply rfl;kernel_rfl)|(apply T.retW;apply rfl)|(apply T.doneW;apply rfl)|(with_reducible apply T.ofRet)|(apply S.condT;apply rfl)|(apply S.condF;apply rfl)|fail);exact k.h):P:=h ⟨k⟩
theorem _root_.Sg.Y12 {P R:Prop} (k:R) (h:Sg.Kp R→P:=by intro k;(first|(apply T.shrGU64;apply rfl;apply rfl;omega;apply rfl)|(apply T.addNN;apply rfl;apply rfl;omega;apply rfl)|((with_reducible apply T.subKN 15);apply rfl;apply rfl;omega;apply rfl)|((with_reducible apply T.subKN 2);apply rfl;apply rfl;omega;apply rfl)|(apply T.sliceAN;apply rfl;apply rfl;omega;apply rfl)|(apply T.convBU64;apply rfl;apply rfl)|(apply T.ixN;apply rfl;apply rfl;infer_instance;omega;(first|omega|(simp only [List.length_map];omega)|(simp;omega));apply rfl)|(apply T.wshr;apply rfl;apply rfl;omega;apply rfl)|(apply T.wbyte;apply rfl;apply rfl)|(apply T.widx;apply rfl;apply rfl;(first|omega|(simp only [List.length_append,List.length_replicate,Z09,Z0r];omega)|assumption|(simp;done)|(simp;omega));apply rfl)|(apply T.mv;apply rfl;apply rfl)|(apply T.asn;apply rfl;apply rfl)|(apply T.len;apply rfl;apply rfl)|(apply T.nilCheck;apply rfl;apply rfl)|(apply T.fieldAddrZ;apply rfl;apply rfl)|(apply T.lss;(iterate 3 apply rfl))|(apply T.geq;(iterate 3 apply rfl))|(apply T.neq;(iterate 3 apply rfl))|(apply T.addI;apply rfl;apply rfl;omega;apply rfl)|(apply T.subI;apply rfl;apply rfl;omega;apply rfl)|(apply T.mulI;apply rfl;apply rfl;omega;apply rfl)|(apply T.ixAZ;apply rfl;apply rfl;omega;apply rfl)|(apply T.convI64;apply rfl;omega;apply rfl)|(apply T.convU64;apply rfl;omega;apply rfl)|(with_reducible refine Sr.nil ?_)|(with_reducible refine S.seq ?_)|(with_reducible refine S.block ?_)|(with_reducible refine S.reg ?_)|(with_reducible refine S.skip ?_)|(with_reducible refine S.inBlock ?_)|(apply S.exit;apply rfl)|(apply S.quiet;apply rfl;kernel_rfl)|(apply S.condQ;apply rfl;intro _;rotate_left;intro _;exfalso;(first|omega|with_reducible contradiction))|(apply S.condQ;apply rfl;intro _;exfalso;(first|omega|with_reducible contradiction);intro _)|fail);exact k.h):P:=h ⟨k⟩
theorem _root_.Sg.Y13 {P R:Prop} (k:R) (h:Sg.Kp R→P:=by intro k;(first|(apply T.stWord;apply rfl;apply rfl;infer_instance;omega)|((with_reducible apply T.subKN 16);apply rfl;apply rfl;omega;apply rfl)|((with_reducible apply T.subKN 7);apply rfl;apply rfl;omega;apply rfl)|(apply T.wadd;(iterate 3 apply rfl))|(apply T.wxor;(iterate 3 apply rfl))|(apply T.wand;(iterate 3 apply rfl))|(apply T.wor;(iterate 3 apply rfl))|(apply T.wshl;apply rfl;apply rfl;omega;apply rfl)|(apply T.wshr;apply rfl;apply rfl;omega;apply rfl)|(apply T.wconvB;apply rfl;apply rfl)|(apply T.storeWK;apply rfl;apply rfl;infer_instance;apply rfl;(first|omega|(simp only [List.length_append,List.length_replicate,Z09,Z0r];omega)|assumption|(simp;done)|(simp;omega)))|(apply T.mv;apply rfl;apply rfl)|(apply T.asn;apply rfl;apply rfl)|(apply T.nilCheck;apply rfl;apply rfl)|(apply T.fieldAddrZ;apply rfl;apply rfl)|(apply T.addI;apply rfl;apply rfl;omega;apply rfl)|(apply T.ixC;apply rfl;infer_instance;omega;(first|omega|(simp only [List.length_map];omega)|(simp;omega));apply rfl)|(apply T.ixAZ;apply rfl;apply rfl;omega;apply rfl)|(apply T.ixAN;apply rfl;apply rfl;omega;apply rfl)|(apply T.loadB;apply rfl;infer_instance;omega;apply rfl)|(with_reducible refine Sr.nil ?_)|(with_reducible refine S.reg ?_)|(with_reducible refine S.inBlock ?_)|(apply T.retW;apply rfl)|(with_reducible apply T.ofRet)|(apply SA.en;apply rfl;apply rfl;kernel_rfl)|fail);exact k.h):P:=h ⟨k⟩
theorem Z6E {F:World} {M:List Nat} {H:List Res} {b n:Nat} {V:V8} {rest:List UInt8} (hr:rest.length=128) (hK:∀ H,Rd F M H (some ⟨12,0,none⟩) (k256.map wV)) :
  Meets Tryz.prog 134 [.pointer (some ⟨b,0,none⟩)] F M (stR b V rest n::H) (fun e H'=>e=.returned (pack [])∧H'=stR b (V.block (rest.take 64)) rest n::H):=by
 refine Meets.enter Tryz.func134 rfl rfl ?_
 repeat' (first|(apply T.alloc;apply rfl;intro nb)|refine Sg.Y11 ?_|fail)
 refine S.loopE 1 [0,2] (fun R b' μ H' e=>∃ i:Nat,H'=.blk nb ((Z2j rest i++List.replicate (64 - i) 0).map wV) 196::R∧e=(21,.int .i64 i)::b'∧i≤16∧μ=16 - i) rfl rfl ?_ _ _ ⟨0,rfl,rfl,by omega,rfl⟩ (by repeat' first|exact trivial|refine And.intro rfl ?_)
 ·rintro _ _ _ ⟨i,rfl,rfl,hi,rfl⟩ ih
  by_cases h1:i < 16
  ·have hl:=Z09 rest i
   have ed:(rest.drop (4*i)).length=128 - 4*i:=by rw [List.length_drop,hr]
   repeat' (first|((with_reducible apply T.mulKN (n:=4));apply rfl;apply rfl;omega;apply rfl)|refine Sg.Y12 ?_|(apply S.condQ;apply rfl;all_goals intro _)|fail)
   (apply S.draw;(case Hs=>exact [stR b V rest n]);(case es=>exact  [24]);(case n=>exact  25);(case hn=>rfl))
   repeat' (first|(apply SA.qn;(iterate 4 apply rfl);kernel_rfl)|(apply SA.done;apply rfl;kernel_rfl)|(apply SK.intro;(first|exact fun _ h=>h|exact fun _ h=>St.psub h (by ((repeat (first|dsimp only [List.set_cons_zero]|dsimp only [List.set_cons_succ]));repeat' first|exact PSub.refl _|exact PSub.nil|(apply PSub.take;(repeat' first|(with_reducible exact Z0)|(with_reducible apply Z1)))|(with_reducible apply PSub.drop)|((apply PSub.take);(repeat' first|exact Z0|(apply Z1)))))))|refine Sg.Y13 ?_|fail)
   rw [Z84 hl rfl (by omega),Z2d,Z2d,Z2d,Z2d]
   skip
   exact ih _ _ _ _ ⟨i+1,rfl,rfl,by omega,rfl⟩ (by omega) (by repeat' first|exact trivial|refine And.intro rfl ?_)
  ·obtain rfl:i=16:=by omega
   repeat' (first|refine Sg.Y11 ?_|fail)
   generalize hm:Z2j rest 16=m
   have hl:m.length=16:=by rw [←hm,Z09]
   refine S.loopE 1 [0,2] (fun R b' μ H' e=>∃ k:Nat,H'=.blk nb ((sched m k++List.replicate (64 - (16+k)) 0).map wV) 196::R∧e=(5,.int .i64 ((16+k:Nat):Int))::b'∧k≤48∧μ=48 - k) rfl rfl ?_ _ _ ⟨0,rfl,rfl,by omega,rfl⟩ (by repeat' first|exact trivial|refine And.intro rfl ?_)
   rintro _ _ _ ⟨k,rfl,rfl,hk,rfl⟩ ih
   have hs:=Z0r m k
   by_cases h1:k < 48
   ·repeat' (first|(apply T.loadGW;apply rfl;(first|infer_instance|exact hK _);(first|omega|(simp only [List.length_append,List.length_replicate,Z09,Z0r];omega)|assumption|(simp;done)|(simp;omega));apply rfl)|refine Sg.Y12 ?_|(apply S.condQ;apply rfl;all_goals intro _)|fail)
    (apply S.draw;(case Hs=>exact [stR b V rest n]);(case es=>exact  [29]);(case n=>exact  30);(case hn=>rfl))
    repeat' (first|(apply SA.qcall;(iterate 3 apply rfl);kernel_rfl;apply rfl;infer_instance;apply rfl;first|with_reducible exact rotl7 _|with_reducible exact rotl18 _|with_reducible exact rotl17 _|with_reducible exact rotl19 _)|(apply T.loadGW;apply rfl;(first|infer_instance|exact hK _);(first|omega|(simp only [List.length_append,List.length_replicate,Z09,Z0r];omega)|assumption|(simp;done)|(simp;omega));apply rfl)|(apply SA.qn;(iterate 4 apply rfl);kernel_rfl)|(apply SA.done;apply rfl;kernel_rfl)|(apply SK.intro;(first|exact fun _ h=>h|exact fun _ h=>St.psub h (by ((repeat (first|dsimp only [List.set_cons_zero]|dsimp only [List.set_cons_succ]));repeat' first|exact PSub.refl _|exact PSub.nil|(apply PSub.take;(repeat' first|(with_reducible exact Z0)|(with_reducible apply Z1)))|(with_reducible apply PSub.drop)|((apply PSub.take);(repeat' first|exact Z0|(apply Z1)))))))|refine Sg.Y13 ?_|fail)
    rw [show 16+k - 16=k by omega,show 16+k - 7=k+9 by omega,show 16+k - 15=k+1 by omega,show 16+k - 2=k+14 by omega,Z3v (by omega),Z3v (by omega),Z3v (by omega),Z3v (by omega),Z84 (k:=64 - (16+(k+1))) (by omega) (by omega) (by omega)]
    exact ih _ _ _ _ ⟨k+1,rfl,rfl,by omega,rfl⟩ (by omega) (by repeat' first|exact trivial|refine And.intro rfl ?_)
   ·obtain rfl:k=48:=by omega
    rw [show 64 - (16+48)=0 from rfl,List.replicate_zero,List.append_nil]
    generalize hw:sched m 48=W
    have hW:W.length=64:=by rw [←hw,Z0r,hl]
    clear ih
    repeat' (first|refine Sg.Y11 ?_|fail)
    refine S.loopE 0 [0,2] (fun R b' μ H' e=>∃ (i:Nat) (v:V8),H'=R∧e=(8,wV v.a)::(9,wV v.b)::(10,wV v.c)::(11,wV v.d)::(12,wV v.e)::(13,wV v.f)::(14,wV v.g)::(15,wV v.h)::(136,.int .i64 i)::b'∧v=rounds W V i∧i≤64∧μ=64 - i) rfl rfl ?_ _ _ ⟨0,V,rfl,rfl,rfl,by omega,rfl⟩ (by repeat' first|exact trivial|refine And.intro rfl ?_)
    rintro _ _ _ ⟨i,v,rfl,rfl,hv,hi,rfl⟩ ih
    by_cases h1:i < 64
    ·repeat' (first|refine Sg.Y12 ?_|(apply S.condQ;apply rfl;all_goals intro _)|fail)
     (apply S.draw;(case Hs=>exact []);(case es=>exact  []);(case n=>exact  27);(case hn=>rfl))
     repeat' (first|(apply SA.qcall;(iterate 3 apply rfl);kernel_rfl;apply rfl;infer_instance;apply rfl;first|with_reducible exact rotl6 _|with_reducible exact rotl11 _|with_reducible exact rotl25 _)|(apply T.loadGW;apply rfl;(first|infer_instance|exact hK _);(first|omega|(simp only [List.length_append,List.length_replicate,Z09,Z0r];omega)|assumption|(simp;done)|(simp;omega));apply rfl)|(apply SA.qn;(iterate 4 apply rfl);kernel_rfl)|(apply SA.done;apply rfl;kernel_rfl)|refine Sg.Y11 ?_|fail)
     repeat' (first|(apply T.pcall;apply rfl;infer_instance;apply rfl;first|with_reducible exact rotl2 _|with_reducible exact rotl13 _|with_reducible exact rotl22 _)|refine Sg.Y13 ?_|fail)
     exact ih _ _ _ _ ⟨i+1,v.step (k256.getD i 0) (W.getD i 0),rfl,rfl,by rw [hv];rfl,by omega,rfl⟩ (by omega) (by repeat' first|exact trivial|refine And.intro rfl ?_)
    ·obtain rfl:i=64:=by omega
     clear ih
     have hB:V.block (rest.take 64)=V.add v:=by rw [hv,←hw,←hm,V8.block,Z3B _ _ (by omega)]
     rw [hB]
     clear hB hv
     repeat' (first|refine Sg.Y11 ?_|fail)
     refine S.loopE 2 [0] (fun R b' μ H' e=>∃ i:Nat,H'=.blk nb (W.map wV) 196::stR b (Zc3 V v i) rest n::R∧e=(205,.int .i64 i)::(204,.agg ⟨v.list.map wV⟩)::b'∧i≤8∧μ=8 - i) rfl rfl ?_ _ _ ⟨0,rfl,rfl,by omega,rfl⟩ (by repeat' first|exact trivial|refine And.intro rfl ?_)
     rintro _ _ _ ⟨i,rfl,rfl,hi,rfl⟩ ih
     by_cases h1:i < 8
     ·have hvl:v.list.length=8:=rfl
      repeat' (first|refine Sg.Y12 ?_|(apply S.condQ;apply rfl;all_goals intro _)|fail)
      (apply S.draw;(case Hs=>exact []);(case es=>exact  [11]);(case n=>exact  12);(case hn=>rfl))
      repeat' (first|(apply T.load;apply rfl;apply rfl;infer_instance;exact Zb6 (by omega);apply rfl)|(apply SA.qn;(iterate 4 apply rfl);kernel_rfl)|(apply SA.done;apply rfl;kernel_rfl)|(apply SK.intro;(first|exact fun _ h=>h|exact fun _ h=>St.psub h (by ((repeat (first|dsimp only [List.set_cons_zero]|dsimp only [List.set_cons_succ]));repeat' first|exact PSub.refl _|exact PSub.nil|(apply PSub.take;(repeat' first|(with_reducible exact Z0)|(with_reducible apply Z1)))|(with_reducible apply PSub.drop)|((apply PSub.take);(repeat' first|exact Z0|(apply Z1)))))))|refine Sg.Y13 ?_|fail)
      rw [Z99 h1]
      skip
      exact ih _ _ _ _ ⟨i+1,rfl,rfl,by omega,rfl⟩ (by omega) (by repeat' first|exact trivial|refine And.intro rfl ?_)
     ·obtain rfl:i=8:=by omega
      repeat' (first|refine Sg.Y11 ?_|fail)
      exact ⟨_,.drop (PSub.refl _),rfl,rfl⟩
end Go.Proofs.YtophlopiigpbgaaGreatDoor
/- The program's sum: Write, of all bytes. -/
namespace Go.Proofs.YtophlopiigpbgaaGreatDoor
open Sg Go.IntWalk
set_option maxRecDepth 100000
set_option maxHeartbeats 2000000
structure Stt (l:List UInt8) (V:V8) (rest:List UInt8):Prop where
 len:rest.length=128
 val:V=absorb l (l.length / 64)
 rem:rest.take (l.length % 64)=l.drop (64*(l.length / 64))
theorem Stt.low {l u rest:List UInt8} {V:V8} (h:Stt l V rest) (hk:l.length % 64+u.length < 64):Stt (l++u) V (rest.take (l.length % 64)++u++rest.drop (l.length % 64+u.length)):=by
 have h1:=h.len
 have e1:(l++u).length / 64=l.length / 64:=by rw [List.length_append];omega
 have e2:(l++u).length % 64=l.length % 64+u.length:=by rw [List.length_append];omega
 refine ⟨by simp only [List.length_append,List.length_take,List.length_drop];omega,by rw [e1,Z1z _ _ _ (by omega)];exact h.val,?_⟩
 rw [e1,e2,List.drop_append_of_le_length (by omega),←h.rem,List.take_append_of_le_length (by simp only [List.length_append,List.length_take];omega),List.take_of_length_le (by simp only [List.length_append,List.length_take];omega)]
theorem Stt.full {l u rest:List UInt8} {V:V8} (h:Stt l V rest) (hk:l.length % 64+u.length=64) :
  Stt (l++u) (V.block ((rest.take (l.length % 64)++u++rest.drop (l.length % 64+u.length)).take 64)) (rest.take (l.length % 64)++u++rest.drop (l.length % 64+u.length)):=by
 have h1:=h.len
 have e1:(l++u).length / 64=l.length / 64+1:=by rw [List.length_append];omega
 have e2:(l++u).length % 64=0:=by rw [List.length_append];omega
 have e3:64*(l.length / 64)≤l.length:=by omega
 refine ⟨by simp only [List.length_append,List.length_take,List.length_drop];omega,?_,?_⟩
 ·rw [e1,absorb,Z1z _ _ _ e3,←h.val,List.drop_append_of_le_length e3,←h.rem,List.take_append_of_le_length (by simp only [List.length_append,List.length_take];omega)]
 ·rw [e1,e2,List.take_zero,List.drop_eq_nil_of_le (by rw [List.length_append];omega)]
theorem Zb8 {V:V8} {rest us:List UInt8} {n o:Nat} (h:o+us.length≤rest.length):(stC V rest n).take (17+o)++us.map bV++(stC V rest n).drop (17+o+us.length)=stC V (rest.take o++us++rest.drop (o+us.length)) n:=by
 have hz:∀ (p r:List Value),p.length=17→(p++r).take (17+o)=p++r.take o:=fun p r hp=>by rw [←hp,List.take_length_add_append]
 have hd:∀ (p r:List Value) (k:Nat),p.length=17→(p++r).drop (17+k)=r.drop k:=fun p r k hp=>by rw [←hp,List.drop_length_add_append]
 have hs:∀ (r:List UInt8),stC V r n=(.int .i64 1::(V.list.map wV++List.replicate 8 (.int .u64 0)))++(r.map bV++[.int .u64 (n:Int)]):=fun r=>by simp [stC]
 rw [hs,hs,hz _ _ rfl,Nat.add_assoc,hd _ _ _ rfl,List.take_append_of_le_length (by simp;omega),List.drop_append_of_le_length (by simp;omega)]
 simp [List.map_append,List.map_take,List.map_drop]
section
variable {q:Sg.Mode} {c:Ctx} {ds:List Deferred} {H:List Res} {ops:Array Oper} {l:List Oper} {κ:List Res→Env→Prop} {dr:Bool} {e:Env} {ty:TypeId} {pos:String} {aft:Array Edge}
theorem T.stLoadN {x:Operand} {d b n:Nat} {t E:TypeId} [HU c.P t (.int .u64)] {V:V8} {rest:List UInt8} (hx:ev e x=some (.pointer (some ⟨b,145,none⟩))) (hb:InB H b (stC V rest n) E) (hr:rest.length=128) (hlt:Nat.blt d c.fn.ntmps=true)
  (hk:Sr q c ds H ops l κ ((d,.int .u64 (n:Int))::e)):Sr q c ds H ops (⟨some d,.load t x,ty,pos,aft,none⟩::l) κ e:=T.load (dd:=.int .u64) hx rfl hb (Ze9 hr) hlt hk
theorem T.stStoreN {x y:Operand} {b n m:Nat} {V:V8} {rest:List UInt8} {t E:TypeId} {z:Value} {by_:Nat} [HI c.P t z 1 by_] {f:Res→List Res} (hx:ev e x=some (.pointer (some ⟨b,145,none⟩))) (hy:ev e y=some (.int .u64 (m:Int)))
  (hb:AtB H b (stC V rest n) E f) (hr:rest.length=128) (hk:Sr (.eff dr) c ds (f (.blk b (stC V rest m) E)) ops l κ e):Sr (.eff dr) c ds H ops (⟨none,.store t x y,ty,pos,aft,none⟩::l) κ e:=by
 refine Sr.store (z:=z) (by_:=by_) hx hy (by rw [Z6N hr];decide) rfl ?_
 rw [Zb7 hr]
 exact hk
theorem T.stCopy {d:Tmp} {x y:Operand} {b o dl dc m scp n t t' E Eb:Nat} {sad:Option Addr} [HU c.P t (.slice E)] {z:Value} {by_:Nat} [HI c.P E z 1 by_] {V:V8} {rest us:List UInt8} {f:Res→List Res} (k:Nat) (hx:ev e x=some (.slice (some ⟨b,17+o,none⟩) dl dc)) (hy:ev e y=some (.slice sad m scp))
  (hb:AtB H b (stC V rest n) Eb f) (hs:Rd c.F c.M H sad (us.map bV)) (hm:us.length=m) (h0:0 < m) (hk0:min m dl=k) (ho:o+k≤rest.length) (hlt:Nat.blt d c.fn.ntmps=true)
  (hk:Sr (.eff dr) c ds (f (.blk b (stC V (rest.take o++us.take k++rest.drop (o+k)) n) Eb)) ops l κ ((d,.int .i64 (k:Int))::e)) :
  Sr (.eff dr) c ds H ops (⟨some d,.call ⟨.builtin .copy,#[x,y],#[t,t']⟩,ty,pos,aft,none⟩::l) κ e:=by
 have hkl:(us.take k).length=k:=by rw [List.length_take];omega
 refine Sr.copyB (z:=z) (by_:=by_) hx hy hb hs (by rw [List.length_map];exact hm) h0 hk0 ?_ (Z11 _) hlt ?_
 ·simp [stC,V8.list];omega
 ·have:=Zb8 (V:=V) (n:=n) (rest:=rest) (us:=us.take k) (o:=o) (by omega)
  rw [hkl] at this
  rw [←List.map_take,this]
  exact hk
end
theorem Z5N {F:World} {M:List Nat} {H:List Res} {b n:Nat} {V:V8} {rest:List UInt8} (hr:rest.length=128) (hK:∀ H,Rd F M H (some ⟨12,0,none⟩) (k256.map wV)) :
  Meets Tryz.prog 106 [.pointer (some ⟨b,0,none⟩)] F M (stR b V rest n::H) (fun e H'=>e=.returned (pack [])∧H'=stR b (V.block (rest.take 64)) rest n::H):=by
 refine Meets.enter Tryz.func106 rfl rfl ?_
 repeat' (first|refine Sg.Y9 ?_|fail)
 refine T.call rfl rfl (Z6E hr hK) ?_
 rintro _ _ ⟨rfl,rfl⟩
 repeat' (first|refine Sg.Y10 ?_|fail)
 all_goals exact ⟨_,PSub.refl _,rfl,rfl⟩
theorem Z4F {F:World} {M:List Nat} {H:List Res} {b c:Nat} {sa:Option Addr} {V:V8} {rest l₀ bs:List UInt8} (hS:Stt l₀ V rest) (hK:∀ H,Rd F M H (some ⟨12,0,none⟩) (k256.map wV))
  (hR:Rd F M H sa (bs.map bV)) (hc:bs.length≤c) (hn:l₀.length+bs.length≤281474976710656) :
  Meets Tryz.prog 75 [.pointer (some ⟨b,0,none⟩),.slice sa bs.length c] F M (stR b V rest l₀.length::H) (fun e H'=>e=.returned (pack [])∧∃ V' rest',H'=stR b V' rest' (l₀++bs).length::H∧Stt (l₀++bs) V' rest'):=by
 refine Meets.enter Tryz.func75 rfl rfl ?_
 repeat' (first|(apply T.pcall;apply rfl;infer_instance;apply rfl;with_reducible exact Z58)|refine Sg.Y9 ?_|fail)
 refine S.loopE 1 [0,4] (fun R b' μ H' e=>∃ (l' r:List UInt8) (ad:Option Addr) (c':Nat) (V':V8) (rest':List UInt8),H'=stR b V' rest' l'.length::R∧e=(1,.slice ad r.length c')::b'∧Stt l' V' rest'∧Rd F M H ad (r.map bV)∧r.length≤c'∧l'++r=l₀++bs∧μ=r.length) rfl rfl ?_ _ _ ⟨l₀,bs,sa,c,V,rest,rfl,rfl,hS,hR,hc,rfl,rfl⟩ (by repeat' first|exact trivial|refine And.intro rfl ?_)
 clear hS hR hc
 rintro _ _ _ ⟨l,r,ad,c',V,rest,rfl,rfl,hS,hR,hc,hlr,rfl⟩ ih
 have hl:l.length+r.length=(l++r).length:=by simp
 rw [hlr,List.length_append] at hl
 by_cases h1:0 < r.length
 ·have hr:=hS.len
  have hat:l.length % 64 < 64:=Nat.mod_lt _ (by decide)
  obtain ⟨k,hk⟩:∃ k,min r.length (64 - l.length % 64)=k:=⟨_,rfl⟩
  have hkl:(r.take k).length=k:=by rw [List.length_take];omega
  have hdl:(r.drop k).length=r.length - k:=by rw [List.length_drop]
  have hr2:(rest.take (l.length % 64)++r.take k++rest.drop (l.length % 64+k)).length=128:=by simp only [List.length_append,List.length_take,List.length_drop];omega
  have hn2:(l++r.take k).length=l.length+k:=by rw [List.length_append,hkl]
  have hR2:=hR.sub1 (cp:=c') (lo:=k) hc
  have hlr2:(l++r.take k)++r.drop k=l₀++bs:=by rw [List.append_assoc,List.take_append_drop,hlr]
  by_cases h2:l.length % 64+k=64
  ·have hS2:=hS.full (u:=r.take k) (by rw [hkl];exact h2)
   rw [hkl] at hS2
   repeat' (first|(apply T.stLoadN;apply rfl;infer_instance;(first|exact hr|exact hr2);apply rfl)|((with_reducible apply T.remU64 (n:=64));apply rfl;apply rfl;omega;apply rfl)|(refine T.sliceALH (j:=64) rfl rfl rfl (by omega) rfl ?_)|(refine T.stCopy k rfl rfl inferInstance inferInstance rfl (by omega) hk (by omega) rfl ?_)|(apply T.stStoreN;apply rfl;apply rfl;infer_instance;exact hr2)|refine Sg.Y8 ?_|(apply S.condQ;apply rfl;all_goals intro _)|fail)
   refine T.call rfl rfl (Z5N hr2 hK) ?_
   rintro _ _ ⟨rfl,rfl⟩
   repeat' (first|refine Sg.Y10 ?_|fail)
   rw [←hn2,←hdl]
   exact ih _ _ _ _ ⟨_,_,_,c' - k,_,_,rfl,rfl,hS2,hR2,by omega,hlr2,rfl⟩ (by omega) (by repeat' first|exact trivial|refine And.intro rfl ?_)
  ·have hS2:=hS.low (u:=r.take k) (by rw [hkl];omega)
   rw [hkl] at hS2
   repeat' (first|(apply T.stLoadN;apply rfl;infer_instance;(first|exact hr|exact hr2);apply rfl)|((with_reducible apply T.remU64 (n:=64));apply rfl;apply rfl;omega;apply rfl)|(refine T.sliceALH (j:=64) rfl rfl rfl (by omega) rfl ?_)|(refine T.stCopy k rfl rfl inferInstance inferInstance rfl (by omega) hk (by omega) rfl ?_)|(apply T.stStoreN;apply rfl;apply rfl;infer_instance;exact hr2)|refine Sg.Y8 ?_|(apply S.condQ;apply rfl;all_goals intro _)|fail)
   rw [←hn2,←hdl]
   exact ih _ _ _ _ ⟨_,_,_,c' - k,_,_,rfl,rfl,hS2,hR2,by omega,hlr2,rfl⟩ (by omega) (by repeat' first|exact trivial|refine And.intro rfl ?_)
 ·obtain rfl:r=[]:=List.eq_nil_of_length_eq_zero (by omega)
  rw [List.append_nil] at hlr
  subst hlr
  repeat' (first|refine Sg.Y9 ?_|fail)
  exact ⟨_,PSub.refl _,rfl,_,_,rfl,hS⟩
end Go.Proofs.YtophlopiigpbgaaGreatDoor
/- The program's sum: New, Sum of a state, Sum of parts. -/
namespace Go.Proofs.YtophlopiigpbgaaGreatDoor
open Sg Go.IntWalk
set_option maxRecDepth 100000
set_option maxHeartbeats 2000000
section
variable {q:Sg.Mode} {c:Ctx} {ds:List Deferred} {H:List Res} {ops:Array Oper} {l:List Oper} {κ:List Res→Env→Prop} {dr:Bool} {e:Env} {ty:TypeId} {pos:String} {aft:Array Edge}
theorem T.stWords {x y:Operand} {b n:Nat} {V U:V8} {rest:List UInt8} {t E:TypeId} {z:Value} {by_:Nat} [HI c.P t z 8 by_] {f:Res→List Res} (hx:ev e x=some (.pointer (some ⟨b,1,none⟩))) (hy:ev e y=some (.agg ⟨U.list.map wV⟩))
  (hb:AtB H b (stC V rest n) E f) (hk:Sr (.eff dr) c ds (f (.blk b (stC U rest n) E)) ops l κ e):Sr (.eff dr) c ds H ops (⟨none,.store t x y,ty,pos,aft,none⟩::l) κ e :=
 Sr.storeN (z:=z) (by_:=by_) hx hy rfl (by simp [stC,V8.list]) Ze5 hk
end
theorem _root_.Sg.Y14 {P R:Prop} (k:R) (h:Sg.Kp R→P:=by intro k;(first|(apply T.stWords;apply rfl;apply rfl;infer_instance)|(apply T.wadd;(iterate 3 apply rfl))|(apply T.wxor;(iterate 3 apply rfl))|(apply T.wand;(iterate 3 apply rfl))|(apply T.eqlP;apply rfl;apply rfl)|(apply T.mv;apply rfl;apply rfl)|(apply T.asn;apply rfl;apply rfl)|(apply T.len;apply rfl;apply rfl)|(apply T.nilCheck;apply rfl;apply rfl)|(apply T.fieldAddrZ;apply rfl;apply rfl)|(apply T.load;apply rfl;apply rfl;infer_instance;apply rfl;apply rfl)|(apply T.lss;(iterate 3 apply rfl))|(apply T.geq;(iterate 3 apply rfl))|(apply T.eql;(iterate 3 apply rfl))|(apply T.ixAZ;apply rfl;apply rfl;omega;apply rfl)|(apply T.ixA;apply rfl;apply rfl;omega;apply rfl)|(apply T.buildL;(iterate 3 apply rfl))|(apply T.buildAL;(iterate 3 apply rfl))|(apply T.loadN;apply rfl;apply rfl;infer_instance;(first|rfl|(simp;done));apply rfl)|(with_reducible refine Sr.nil ?_)|(with_reducible refine S.seq ?_)|(with_reducible refine S.block ?_)|(with_reducible refine S.reg ?_)|(with_reducible refine S.skip ?_)|(with_reducible refine S.inBlock ?_)|(apply S.exit;apply rfl)|(apply S.quiet;apply rfl;kernel_rfl)|(apply T.retW;apply rfl)|(apply T.doneW;apply rfl)|(with_reducible apply T.ofRet)|(apply S.condT;apply rfl)|(apply S.condF;apply rfl)|fail);exact k.h):P:=h ⟨k⟩
theorem Zbu {F:World} {M:List Nat} {H:List Res} (hG:∀ H,Rd F M H (some ⟨2,0,none⟩) (start256.list.map wV)) :
  Meets Tryz.prog 74 [.int .i64 1] F M H (fun e H'=>∃ nb,e=.returned (.pointer (some ⟨nb,0,none⟩))∧H'=stR nb start256 (List.replicate 128 0) 0::H):=by
 refine Meets.enter Tryz.func74 rfl rfl ?_
 repeat' (first|(apply T.loadGA;apply rfl;apply rfl;exact hG _;apply rfl;decide;apply rfl)|(apply T.box;apply rfl;apply rfl;intro nb)|refine Sg.Y11 ?_|fail)
 refine Sr.weaken (H':=stR nb ⟨0,0,0,0,0,0,0,0⟩ (List.replicate 128 0) 0::H) ?_ (fun _ h=>h)
 repeat' (first|refine Sg.Y14 ?_|fail)
 exact ⟨_,PSub.refl _,_,rfl,rfl⟩
theorem ZcD:Stt [] start256 (List.replicate 128 0):=⟨List.length_replicate ..,rfl,rfl⟩
theorem ZbZ {n j:Nat} (h:j < 8):(bits8 n).take j++[UInt8.ofNat (((n*2 ^ 3:Nat):Int).toNat / 2 ^ (8*(7 - (j:Int))).toNat)]=(bits8 n).take (j+1):=by
 have:j=0∨j=1∨j=2∨j=3∨j=4∨j=5∨j=6∨j=7:=by omega
 rw [Int.toNat_natCast]
 rcases this with rfl|rfl|rfl|rfl|rfl|rfl|rfl|rfl<;>rfl
theorem Z6v:∀ xs:List UInt32,(xs.flatMap bytes4).length=4*xs.length
 | []=>rfl
 | x::r=>by rw [List.flatMap_cons,List.length_append,Z6v r];simp only [bytes4,List.length_cons,List.length_nil];omega
theorem Z9r {xs:List UInt32} {i:Nat} (h:i < xs.length):(xs.take (i+1)).flatMap bytes4=(xs.take i).flatMap bytes4++bytes4 (xs.getD i 0):=by
 rw [List.take_succ_eq_append_getElem h,List.flatMap_append]
 simp [List.getD,h]
def padZ (z:Nat):List UInt8:=128::List.replicate z 0
theorem Z8u {F:World} {M:List Nat} {H:List Res} {b:Nat} {V:V8} {rest l:List UInt8} (hS:Stt l V rest) (hK:∀ H,Rd F M H (some ⟨12,0,none⟩) (k256.map wV)) (hn:l.length≤140737488355328) :
  Meets Tryz.prog 76 [.pointer (some ⟨b,0,none⟩)] F M (stR b V rest l.length::H) (fun e H'=>∃ ad cp,e=.returned (.slice ad (sha256 l).length cp)∧H'=.row ad cp 5 1 (sha256 l).length ((sha256 l).map bV)::stR b V rest l.length::H):=by
 refine Meets.enter Tryz.func76 rfl rfl ?_
 have hr:=hS.len
 repeat' (first|(apply T.loadW;apply rfl;apply rfl;infer_instance;exact Z6N hr;apply rfl)|(apply T.storeW;apply rfl;apply rfl;infer_instance;exact Z6N hr;apply rfl;exact ZcF)|(apply T.alloc;apply rfl;intro nb)|refine Sg.Y11 ?_|fail)
 (apply S.draw;(case Hs=>exact []);(case es=>exact  []);(case n=>exact  7);(case hn=>rfl))
 repeat' (first|(apply SA.qcall;(iterate 3 apply rfl);kernel_rfl;apply rfl;infer_instance;apply rfl;with_reducible exact Z58)|(apply T.stLoadN;apply rfl;infer_instance;exact hr;apply rfl)|(apply SA.qn;(iterate 4 apply rfl);kernel_rfl)|(apply SA.done;apply rfl;kernel_rfl)|refine Sg.Y11 ?_|fail)
 repeat' (first|((with_reducible apply T.quoI64 (m:=64) (n:=8));apply rfl;apply rfl;omega;omega;apply rfl)|(apply T.bs;(iterate 6 apply rfl);intro nb)|refine Sg.Y11 ?_|fail)
 rename_i sb
 refine S.rowOf (n:=1) rfl (by decide) ?_
 have hz:=Z8k l.length
 have hpl:∀ z,(padZ z).length=z+1:=fun z=>by simp [padZ]
 refine S.loopE 1 [3,4,5,6] (fun R b' μ H' e=>∃ (z:Nat) (ad:Option Addr) (cp:Nat),H'=.row ad cp 5 1 (padZ z).length ((padZ z).map bV)::R∧e=(7,.slice ad (padZ z).length cp)::b'∧z≤zeros l.length∧μ=zeros l.length - z) rfl rfl ?_ _ _ ⟨0,_,_,rfl,rfl,by omega,rfl⟩ (by repeat' first|exact trivial|refine And.intro rfl ?_)
 rintro _ _ _ ⟨z,ad,cp,rfl,rfl,hzl,rfl⟩ ih
 have hp:=hpl z
 by_cases h1:z < zeros l.length
 ·have hne:=Z6H l.length z h1
  have hz1:padZ z++[0]=padZ (z+1):=by rw [padZ,padZ,List.replicate_succ',List.cons_append]
  repeat' (first|((with_reducible apply T.remU64 (n:=64));apply rfl;apply rfl;omega;apply rfl)|((with_reducible apply T.remI64 (n:=64));apply rfl;apply rfl;omega;apply rfl)|(refine T.appendB (m:=0) rfl rfl inferInstance rfl ⟨by omega,by omega⟩ rfl ?_;intro na nc)|(apply T.bs;(iterate 6 apply rfl);intro nb)|refine Sg.Y12 ?_|(apply S.condQ;apply rfl;all_goals intro _)|fail)
  rw [hz1,show (padZ z).length+1=(padZ (z+1)).length by rw [hpl,hpl]]
  exact ih _ _ _ _ ⟨z+1,_,_,rfl,rfl,by omega,rfl⟩ (by omega) (by repeat' first|exact trivial|refine And.intro rfl ?_)
 ·obtain rfl:z=zeros l.length:=by omega
  clear ih
  repeat' (first|((with_reducible apply T.remU64 (n:=64));apply rfl;apply rfl;omega;apply rfl)|((with_reducible apply T.remI64 (n:=64));apply rfl;apply rfl;omega;apply rfl)|refine Sg.Y12 ?_|(apply S.condQ;apply rfl;all_goals intro _)|fail)
  refine S.loopE 1 [3,5] (fun R b' μ H' e=>∃ (j:Nat) (pl:List UInt8) (ad:Option Addr) (cp:Nat),H'=.row ad cp 5 1 pl.length (pl.map bV)::R∧e=(7,.slice ad pl.length cp)::(8,.int .i64 (7 - (j:Int)))::b'∧pl=padZ (zeros l.length)++(bits8 l.length).take j∧j≤8∧μ=8 - j) rfl rfl ?_ _ _ ⟨0,padZ (zeros l.length),_,_,rfl,rfl,by rw [List.take_zero,List.append_nil],by omega,rfl⟩ (by repeat' first|exact trivial|refine And.intro rfl ?_)
  rintro _ _ _ ⟨j,pl,ad,cp,rfl,rfl,hpe,hj,rfl⟩ ih
  have hpl2:pl.length=zeros l.length+1+j:=by rw [hpe,List.length_append,hpl,List.length_take];simp only [bits8,List.length_map,List.length_cons,List.length_nil];omega
  by_cases h2:j < 8
  ·repeat' (first|((with_reducible apply T.shlU64 (n:=3));apply rfl;apply rfl;omega;omega;apply rfl)|(apply T.bs;(iterate 6 apply rfl);intro nb)|(apply T.appendB;apply rfl;apply rfl;infer_instance;apply rfl;(constructor<;>omega);apply rfl;intro na nc)|refine Sg.Y12 ?_|(apply S.condQ;apply rfl;all_goals intro _)|fail)
   have he:=ZbZ (n:=l.length) h2
   generalize UInt8.ofNat (((l.length*2 ^ 3:Nat):Int).toNat / 2 ^ (8*(7 - (j:Int))).toNat)=x at *
   rw [show (7 - (j:Int) - 1)=7 - ((j+1:Nat):Int) by omega,show pl.length+1=(pl++[x]).length by simp]
   exact ih _ _ _ _ ⟨j+1,pl++[x],_,_,rfl,rfl,by rw [hpe,List.append_assoc,he],by omega,rfl⟩ (by omega) (by repeat' first|exact trivial|refine And.intro rfl ?_)
  ·obtain rfl:j=8:=by omega
   clear ih
   refine S.capR (ad:=ad) inferInstance (fun hcap=>?_)
   have hpad:l++pl=padded l:=by rw [hpe,padded];rfl
   repeat' (first|refine Sg.Y11 ?_|fail)
   refine Sr.front sb ?_
   refine T.call rfl rfl (Z4F hS hK inferInstance hcap (by omega)) ?_
   rintro _ _ ⟨rfl,V',rest',rfl,hS'⟩
   have hr':=hS'.len
   have hsum:sha256 l=V'.list.flatMap bytes4:=by
    rw [hS'.val,hpad]
    rfl
   generalize (l++pl).length=n'
   repeat' (first|refine Sg.Y11 ?_|fail)
   refine S.nilrow 5 1 ?_
   have hvl:V'.list.length=8:=rfl
   have hfl:∀ i,i≤8→((V'.list.take i).flatMap bytes4).length=4*i:=fun i hi=>by rw [Z6v,List.length_take];omega
   refine S.loopE 1 [] (fun R b' μ H' e=>∃ (i:Nat) (o:List UInt8) (ad:Option Addr) (cp:Nat),H'=.row ad cp 5 1 o.length (o.map bV)::R∧e=(10,.slice ad o.length cp)::(76,.int .i64 i)::(75,.agg ⟨V'.list.map wV⟩)::b'∧o=(V'.list.take i).flatMap bytes4∧i≤8∧μ=8 - i) rfl rfl ?_ _ _ ⟨0,[],_,_,rfl,rfl,rfl,by omega,rfl⟩ (by repeat' first|exact trivial|refine And.intro rfl ?_)
   rintro _ _ _ ⟨i,o,ad,cp,rfl,rfl,ho,hi,rfl⟩ ih
   have hol:=hfl i hi
   rw [←ho] at hol
   by_cases h3:i < 8
   ·repeat' (first|(apply T.append4;apply rfl;apply rfl;infer_instance;apply rfl;(constructor<;>omega);apply rfl;intro na nc)|(apply T.bs;(iterate 6 apply rfl);intro nb)|refine Sg.Y12 ?_|(apply S.condQ;apply rfl;all_goals intro _)|fail)
    have ho2:o++bytes4 (V'.list.getD i 0)=(V'.list.take (i+1)).flatMap bytes4:=by rw [Z9r (by omega),ho]
    have ho3:o.length+4=(o++bytes4 (V'.list.getD i 0)).length:=by rw [List.length_append];rfl
    rw [ho3]
    exact ih _ _ _ _ ⟨i+1,o++bytes4 (V'.list.getD i 0),_,_,rfl,rfl,ho2,by omega,rfl⟩ (by omega) (by repeat' first|exact trivial|refine And.intro rfl ?_)
   ·obtain rfl:i=8:=by omega
    rw [List.take_of_length_le (by omega),←hsum] at ho
    subst ho
    repeat' (first|refine Sg.Y11 ?_|fail)
    exact ⟨_,by ((repeat (first|dsimp only [List.set_cons_zero]|dsimp only [List.set_cons_succ]));repeat' first|exact PSub.refl _|exact PSub.nil|(with_reducible apply PSub.app)|(apply PSub.take;(repeat' first|(with_reducible exact Z0)|(with_reducible apply Z1)))|(with_reducible apply PSub.drop)|((apply PSub.take);(repeat' first|exact Z0|(apply Z1)))),_,_,rfl,rfl⟩
theorem Zb4 {F:World} {M:List Nat} {H:List Res} {pa:Option Addr} {pc:Nat} {ps:List (Option Addr × Nat × List UInt8)} (hK:∀ H,Rd F M H (some ⟨12,0,none⟩) (k256.map wV)) (hG:∀ H,Rd F M H (some ⟨2,0,none⟩) (start256.list.map wV))
  (hp:Rd F M H pa (ps.map fun p=>.slice p.1 p.2.2.length p.2.1)) (hb:∀ p∈ps,Rd F M H p.1 (p.2.2.map bV)∧p.2.2.length≤p.2.1) (hn:(ps.flatMap (·.2.2)).length≤140737488355328) (hl:ps.length≤140737488355328) :
  Meets Tryz.prog 48 [.int .i64 1,.slice pa ps.length pc] F M H (fun e H'=>∃ ad cp,e=.returned (.slice ad 32 cp)∧H'=.row ad cp 5 1 32 ((sha256 (ps.flatMap (·.2.2))).map bV)::H):=by
 refine Meets.enter Tryz.func48 rfl rfl ?_
 repeat' (first|refine Sg.Y11 ?_|fail)
 refine T.call rfl rfl (Zbu hG) ?_
 rintro _ _ ⟨sb,rfl,rfl⟩
 repeat' (first|refine Sg.Y11 ?_|fail)
 refine S.loopE 1 [5,12,13] (fun R b' μ H' e=>∃ (i:Nat) (l:List UInt8) (V:V8) (rest:List UInt8),H'=stR sb V rest l.length::R∧e=(14,.int .i64 i)::b'∧Stt l V rest∧l=(ps.take i).flatMap (·.2.2)∧i≤ps.length∧μ=ps.length - i) rfl rfl ?_ _ _ ⟨0,[],_,_,rfl,rfl,ZcD,rfl,by omega,rfl⟩ (by repeat' first|exact trivial|refine And.intro rfl ?_)
 rintro _ _ _ ⟨i,l,V,rest,rfl,rfl,hS,hl,hi,rfl⟩ ih
 have hsp:ps.flatMap (·.2.2)=l++(ps.drop i).flatMap (·.2.2):=by rw [hl,←List.flatMap_append,List.take_append_drop]
 by_cases h1:i < ps.length
 ·obtain ⟨p,hpi⟩:∃ p,ps[i]?=some p:=⟨_,List.getElem?_eq_getElem h1⟩
  have hpm:=List.mem_of_getElem? hpi
  have hv:(ps.map fun p=>(Value.slice p.1 p.2.2.length p.2.1))[i]?=some (.slice p.1 p.2.2.length p.2.1):=by rw [List.getElem?_map,hpi];rfl
  obtain ⟨hb1,hb2⟩:=hb p hpm
  have hpg:ps[i]=p:=by rw [List.getElem?_eq_getElem h1] at hpi;exact Option.some.inj hpi
  have hsn:l++p.2.2=(ps.take (i+1)).flatMap (·.2.2):=by
   rw [List.take_succ_eq_append_getElem h1,List.flatMap_append,←hl,hpg]
   simp
  have hle:(l++p.2.2).length≤140737488355328:=by
   rw [hsn]
   refine Nat.le_trans ?_ hn
   conv=>rhs;rw [←List.take_append_drop (i+1) ps,List.flatMap_append]
   rw [List.length_append]
   omega
  rw [List.length_append] at hle
  repeat' (first|(apply T.loadE;apply rfl;apply rfl;infer_instance;exact hv;apply rfl)|refine Sg.Y12 ?_|(apply S.condQ;apply rfl;all_goals intro _)|fail)
  refine T.call rfl rfl (Z4F hS hK hb1 hb2 (by omega)) ?_
  rintro _ _ ⟨rfl,V',rest',rfl,hS'⟩
  repeat' (first|refine Sg.Y13 ?_|fail)
  exact ih _ _ _ _ ⟨i+1,_,V',rest',rfl,rfl,hS',hsn,by omega,rfl⟩ (by omega) (by repeat' first|exact trivial|refine And.intro rfl ?_)
 ·obtain rfl:i=ps.length:=by omega
  rw [List.take_length] at hl
  rw [←hl] at hn ⊢
  repeat' (first|refine Sg.Y12 ?_|(apply S.condQ;apply rfl;all_goals intro _)|fail)
  refine T.call rfl rfl (Z8u hS hK hn) ?_
  rintro _ _ ⟨ad,cp,rfl,rfl⟩
  rw [Z2Z]
  repeat' (first|refine Sg.Y13 ?_|fail)
  exact ⟨_,by ((repeat (first|dsimp only [List.set_cons_zero]|dsimp only [List.set_cons_succ]));repeat' first|exact PSub.refl _|exact PSub.nil|(with_reducible apply PSub.app)|(apply PSub.take;(repeat' first|(with_reducible exact Z0)|(with_reducible apply Z1)))|(with_reducible apply PSub.drop)|((apply PSub.take);(repeat' first|exact Z0|(apply Z1)))),_,_,rfl,rfl⟩
end Go.Proofs.YtophlopiigpbgaaGreatDoor
/- The document's sum: turns, filling. -/
namespace Go.Proofs.YtophlopiigpbgaaGreatDoor
open Sg Go Go.RowKit Go.IntWalk
set_option maxRecDepth 100000
set_option maxHeartbeats 2000000
end Go.Proofs.YtophlopiigpbgaaGreatDoor
/- The document's sum by words of 32 bits. -/
namespace Go.Proofs.YtophlopiigpbgaaGreatDoor
open Sg Go.IntWalk
set_option maxRecDepth 100000
set_option maxHeartbeats 4000000
end Go.Proofs.YtophlopiigpbgaaGreatDoor
/- Both digests of a text. -/
namespace Go.Proofs.YtophlopiigpbgaaGreatDoor
open Sg Go.IntWalk
set_option maxRecDepth 100000
set_option maxHeartbeats 2000000
structure ShP (F:World) (M:List Nat):Prop where
 k:∀ H,Rd F M H (some ⟨12,0,none⟩) (k256.map wV)
 g:∀ H,Rd F M H (some ⟨2,0,none⟩) (start256.list.map wV)
structure ShT (F:World) (M:List Nat):Prop extends ShP F M where
 rk:∀ H,Rd F M H (some ⟨9,0,none⟩) (k256.map wV)
 rg:∀ H,Rd F M H (some ⟨8,0,none⟩) (start256.list.map wV)
def Z2 (bs:List UInt8):List UInt8:=enc urlS (sha256 bs)
theorem Z0Q {F:World} {M:List Nat} {H:List Res} {bs:List UInt8} (hT:ShP F M) (hn:bs.length≤140737488355000) :
  Meets Tryz.prog 23 [sV bs] F M H (fun e H'=>e=.returned (sV (Z2 bs))∧H'=H):=by
 refine Meets.enter Tryz.func23 rfl rfl ?_
 repeat' (first|(apply T.convSB;apply rfl;apply rfl;intro sb sc r hR hc)|(apply T.bs;(iterate 6 apply rfl);intro nb)|refine Sg.Y9 ?_|fail)
 have hp:Rd F M (.blk nb [.slice (some ⟨sb,0,none⟩) bs.length sc] 45::r::H) (some ⟨nb,0,none⟩) ([((some ⟨sb,0,none⟩:Option Addr),sc,bs)].map fun p=>.slice p.1 p.2.2.length p.2.1):=Rd.blk0
 have hf:[((some ⟨sb,0,none⟩:Option Addr),sc,bs)].flatMap (·.2.2)=bs:=by simp
 refine T.call rfl rfl (Zb4 (ps:=[((some ⟨sb,0,none⟩:Option Addr),sc,bs)]) hT.k hT.g hp (fun p hp=>by
  obtain rfl:=List.mem_singleton.1 hp
  exact ⟨Rd.tl,hc⟩) (by rw [hf];omega) (show 1≤140737488355328 by decide)) ?_
 rintro _ _ ⟨ad,cp,rfl,rfl⟩
 rw [hf]
 refine Sr.capR (ad:=ad) inferInstance (fun hcap=>?_)
 skip
 have hl:(sha256 bs).length=32:=Z2Z bs
 rw [show (Value.slice ad 32 cp)=.slice ad (sha256 bs).length cp by rw [hl]]
 refine T.call rfl rfl (Z1t (bs:=sha256 bs) inferInstance (by omega) (by omega)) ?_
 rintro _ _ ⟨rfl,r2,rfl⟩
 repeat' (first|refine Sg.Y10 ?_|fail)
 exact ⟨_,by ((repeat (first|dsimp only [List.set_cons_zero]|dsimp only [List.set_cons_succ]));repeat' first|exact PSub.refl _|exact PSub.nil|(with_reducible apply PSub.app)|(apply PSub.take;(repeat' first|(with_reducible exact Z0)|(with_reducible apply Z1)))|(with_reducible apply PSub.drop)|((apply PSub.take);(repeat' first|exact Z0|(apply Z1)))),rfl,rfl⟩
end Go.Proofs.YtophlopiigpbgaaGreatDoor
/- Rules for a map that is nil: a look into it; maps held against nil. -/
namespace Sg
open Go Go.RowKit
section
variable {c:Ctx} {ds:List Deferred} {H:List Res} {ops:Array Oper} {l:List Oper} {κ:List Res→Env→Prop} {q:Mode} {e:Env} {ty:TypeId} {pos:String} {aft:Array Edge}
theorem T.mapLook0 {x y:Operand} {d:Tmp} {kk:List UInt8} {t k E:TypeId} [HU c.P t (.map k E)] [HU c.P k .string] {sz by_:Nat} [HI c.P E (.int .i64 0) sz by_] (hx:ev e x=some (.map none)) (hy:ev e y=some (sV kk)) (hl:kk.length≤maxLen) (hlt:Nat.blt d c.fn.ntmps=true)
  (hk:Sr q c ds H ops l κ ((d,.int .i64 0)::e)):Sr q c ds H ops (⟨some d,.lookup t x y false,ty,pos,aft,none⟩::l) κ e :=
 Sr.p (fun w a _ ha=>by
  have h:=Maps.look_nil (P:=c.P) (w:=w) (t:=t) (e:=E) false (Maps.string_keyed (HU.h (P:=c.P) (t:=k))) (HU.h (P:=c.P) (t:=t)) (Z1o w) (Z5Z (P:=c.P) (k:=k) HU.h hl)
  simp [execOp,ha.ev hx,ha.ev hy,h]) rfl hlt rfl hk
theorem T.eqlM {x:Operand} {d:Tmp} {t u k E:TypeId} {b:Nat} [HU c.P t (.map k E)] (hx:ev e x=some (.map (some b))) (hlt:Nat.blt d c.fn.ntmps=true) (hk:Sr q c ds H ops l κ ((d,.bool false)::e)):Sr q c ds H ops (⟨some d,.binOp .eql t x (.const (.map none)) u,ty,pos,aft,none⟩::l) κ e :=
 Sr.p (fun w ac _ ha=>by
  have h:=run_equalIn_map_nil (P:=c.P) w 9999 t k E (some b) HU.h
  have h2:ac.eval (.const (.map none))=.map none:=rfl
  simp only [execOp,ha.ev hx,h2,eqGuard,binOp,Op.equal,Op.maxDepth]
  simp [h]) rfl hlt rfl hk
theorem T.eqlM0 {x:Operand} {d:Tmp} {t u k E:TypeId} [HU c.P t (.map k E)] (hx:ev e x=some (.map none)) (hlt:Nat.blt d c.fn.ntmps=true) (hk:Sr q c ds H ops l κ ((d,.bool true)::e)):Sr q c ds H ops (⟨some d,.binOp .eql t x (.const (.map none)) u,ty,pos,aft,none⟩::l) κ e :=
 Sr.p (fun w ac _ ha=>by
  have h:=run_equalIn_map_nil (P:=c.P) w 9999 t k E none HU.h
  have h2:ac.eval (.const (.map none))=.map none:=rfl
  simp only [execOp,ha.ev hx,h2,eqGuard,binOp,Op.equal,Op.maxDepth]
  simp [h]) rfl hlt rfl hk
theorem T.neqM {x:Operand} {d:Tmp} {t u k E:TypeId} {b:Nat} [HU c.P t (.map k E)] (hx:ev e x=some (.map (some b))) (hlt:Nat.blt d c.fn.ntmps=true) (hk:Sr q c ds H ops l κ ((d,.bool true)::e)):Sr q c ds H ops (⟨some d,.binOp .neq t x (.const (.map none)) u,ty,pos,aft,none⟩::l) κ e :=
 Sr.p (fun w ac _ ha=>by
  have h:=run_equalIn_map_nil (P:=c.P) w 9999 t k E (some b) HU.h
  have h2:ac.eval (.const (.map none))=.map none:=rfl
  simp only [execOp,ha.ev hx,h2,eqGuard,binOp,Op.equal,Op.maxDepth]
  simp [h]) rfl hlt rfl hk
theorem T.neqM0 {x:Operand} {d:Tmp} {t u k E:TypeId} [HU c.P t (.map k E)] (hx:ev e x=some (.map none)) (hlt:Nat.blt d c.fn.ntmps=true) (hk:Sr q c ds H ops l κ ((d,.bool false)::e)):Sr q c ds H ops (⟨some d,.binOp .neq t x (.const (.map none)) u,ty,pos,aft,none⟩::l) κ e :=
 Sr.p (fun w ac _ ha=>by
  have h:=run_equalIn_map_nil (P:=c.P) w 9999 t k E none HU.h
  have h2:ac.eval (.const (.map none))=.map none:=rfl
  simp only [execOp,ha.ev hx,h2,eqGuard,binOp,Op.equal,Op.maxDepth]
  simp [h]) rfl hlt rfl hk
end
end Sg
/- Drawn regions: guarded operations that no effect turns come ahead of the effects, too. -/
namespace Sg
open Go Go.RowKit
section
variable {c:Ctx} {ds:List Deferred} {Hs H:List Res} {es lt:List Nat} {ops:Array Oper} {fuel:Nat} {listed:Array Bool} {κ:List Res→Env→Prop} {e:Env} {op:Op} {d j:Nat} {b b':Bool} {ty:TypeId} {pos:String} {aft:Array Edge}
theorem SA.pg (i:Nat) {v:Value} (ho:ops[i]?=some ⟨some d,op,ty,pos,aft,some (j,b)⟩) (hgl:glook ops e j=some b) (hB:(Region.noSelect ops&&Region.free .any ops listed i&&(Region.ready .any ops listed).contains i)=true) (h:Pu c H e ⟨some d,op,ty,pos,aft,none⟩ v)
  (hs:es.all (fun k=>listed.getD k true || dep ops i 6 k)=true∨lt.all (fun k=>listed.getD k true || dep ops i 6 k)=true∧Pu c Hs e ⟨some d,op,ty,pos,aft,none⟩ v∨Pu c [] e ⟨some d,op,ty,pos,aft,none⟩ v)
  (hlt:Nat.blt d c.fn.ntmps=true) (hk:SA c ds Hs es lt H ops fuel (listed.setIfInBounds i true) κ ((d,v)::e)):SA c ds Hs es lt H ops (fuel+1) listed κ e:=by
 unfold SA at hk ⊢
 intro hc w a hw ha hds
 simp only [Bool.and_eq_true] at hB
 have hr:i∈Region.ready .any ops listed:=by simpa using hB.2
 have h2:Ok c.fn.ntmps ((d,v)::e) (a.put (some d) v):=ha.put (d:=some d) hlt v
 have hwt:Region.wanted (⟨some d,op,ty,pos,aft,some (j,b)⟩:Oper) (yielded ops a.tmps)=true:=by simp [Region.wanted,Z2b ha hgl]
 refine AW.first (v:=v) ho (Region.noSelect_spec hB.1.1) (fun _ _ _=>Kq.back) fuel listed a w hc (Region.free_spec ho hB.1.2) hr (.inl ⟨hwt,.inl (h w a hw ha)⟩) ?_ (hk (hc.set hr) w _ hw h2 ((Zt _ _ _).trans hds))
 intro k hj hun
 have hdep:(listed.getD k true || dep ops i 6 k)=true→dep ops i 6 k=true:=fun h=>by rw [hun,Bool.false_or] at h;exact h
 rcases hs with hs|⟨hs0,hs⟩|hs
 ·exact .inl (hdep (List.all_eq_true.1 hs k (by simpa using hj)))
 ·by_cases hlj:lt.contains k=true
  ·exact .inl (hdep (List.all_eq_true.1 hs0 k (by simpa using hlj)))
  ·exact .inr fun w' hw'=>.inl ⟨hwt,.inl (hs w' a (hw'.resolve_left fun h=>hlj h.1) ha)⟩
 ·exact .inr fun w' hw'=>.inl ⟨hwt,.inl (hs w' a (hw'.elim (fun h=>h.2) (fun h=>h.bare)) ha)⟩
theorem Z5m {l:Array Oper} {i:Nat} {o:Oper} (h:nthO l.toList i=some o):l[i]?=some o:=by rw [←h,Z0A];simp
theorem SA.gz {i:Nat} (_hi:Z5n listed es false ops.size 0=some i) (ho:nthO ops.toList i=some ⟨some d,op,ty,pos,aft,some (j,b)⟩) (_hr:rdy listed ⟨some d,op,ty,pos,aft,some (j,b)⟩=true) (hgl:glook ops e j=some b') (hb:b'=b) (_hp:Zcg op=true)
  (hB:(Region.noSelect ops&&Region.free .any ops listed i&&(Region.ready .any ops listed).contains i)=true) (h:Sr .uni c ds [] ops [⟨some d,op,ty,pos,aft,none⟩] (fun _ e'=>SA c ds Hs es lt H ops fuel (listed.setIfInBounds i true) κ e') e):SA c ds Hs es lt H ops (fuel+1) listed κ e:=by
 subst hb
 unfold Sr at h
 obtain ⟨v,d',h1,h2,h3,h4,h5⟩:=h
 cases h2
 exact SA.pg i (Z5m ho) hgl hB (fun w a hw ha=>h1 w a hw.bare ha) (.inr (.inr h1)) h3 h5
theorem SA.gn {i:Nat} (_hi:Z5n listed es false ops.size 0=some i) (ho:nthO ops.toList i=some ⟨some d,op,ty,pos,aft,some (j,b)⟩) (_hr:rdy listed ⟨some d,op,ty,pos,aft,some (j,b)⟩=true) (hgl:glook ops e j=some b') (hb:b'=b) (hd:es.all (fun k=>listed.getD k true || dep ops i 6 k)=true)
  (hB:(Region.noSelect ops&&Region.free .any ops listed i&&(Region.ready .any ops listed).contains i)=true) (h:Sr .uni c ds H ops [⟨some d,op,ty,pos,aft,none⟩] (fun _ e'=>SA c ds Hs es lt H ops fuel (listed.setIfInBounds i true) κ e') e):SA c ds Hs es lt H ops (fuel+1) listed κ e:=by
 subst hb
 unfold Sr at h
 obtain ⟨v,d',h1,h2,h3,h4,h5⟩:=h
 cases h2
 exact SA.pg i (Z5m ho) hgl hB h1 (.inl hd) h3 h5
theorem SA.gx {i:Nat} (_hi:Z5n listed es false ops.size 0=some i) (ho:nthO ops.toList i=some ⟨some d,op,ty,pos,aft,some (j,b)⟩) (_hr:rdy listed ⟨some d,op,ty,pos,aft,some (j,b)⟩=true) (hno:gundef ops e j=true∨∃ b',glook ops e j=some b'∧(b'==b)=false)
  (hB:(Region.noSelect ops&&Region.free .any ops listed i&&(Region.ready .any ops listed).contains i)=true) (hlt:Nat.blt d c.fn.ntmps=true) (hk:SA c ds Hs es lt H ops fuel (listed.setIfInBounds i true) κ ((d,undef)::e)):SA c ds Hs es lt H ops (fuel+1) listed κ e:=by
 unfold SA at hk ⊢
 intro hc w a hw ha hds
 simp only [Bool.and_eq_true] at hB
 have hr:i∈Region.ready .any ops listed:=by simpa using hB.2
 have h2:Ok c.fn.ntmps ((d,undef)::e) (a.put (some d) undef):=ha.put (d:=some d) hlt undef
 have hwt:Region.wanted (⟨some d,op,ty,pos,aft,some (j,b)⟩:Oper) (yielded ops a.tmps)=false:=by
  rcases hno with h|⟨b',h,hne⟩
  ·have:=Z4g ha h
   simp [Region.wanted,this]
  ·have:=Z2b ha h
   simpa [Region.wanted,this] using hne
 refine AW.first (v:=undef) (Z5m ho) (Region.noSelect_spec hB.1.1) (fun _ _ _=>Kq.back) fuel listed a w hc (Region.free_spec (Z5m ho) hB.1.2) hr (.inr ⟨hwt,rfl⟩) ?_ (hk (hc.set hr) w _ hw h2 ((Zt _ _ _).trans hds))
 intro k hj hun
 exact .inr fun w' hw'=>.inr ⟨hwt,rfl⟩
theorem SA.gxv {i:Nat} (hi:Z5n listed es false ops.size 0=some i) (ho:nthO ops.toList i=some ⟨some d,op,ty,pos,aft,some (j,b)⟩) (hr:rdy listed ⟨some d,op,ty,pos,aft,some (j,b)⟩=true) (hgl:glook ops e j=some b') (hne:(b'==b)=false)
  (hB:(Region.noSelect ops&&Region.free .any ops listed i&&(Region.ready .any ops listed).contains i)=true) (hlt:Nat.blt d c.fn.ntmps=true) (hk:SA c ds Hs es lt H ops fuel (listed.setIfInBounds i true) κ ((d,undef)::e)):SA c ds Hs es lt H ops (fuel+1) listed κ e:=SA.gx hi ho hr (.inr ⟨b',hgl,hne⟩) hB hlt hk
end
end Sg
