/- Texts put together by a program: Row JsnH JsnI JsnJ JsnL JsnN JsnO JsnV. -/
import Derived.Test.YtophlopiigpbgaaGreatDoorMore
import Derived.Test.YtophlopiigpbgaaGreatDoorMe
import Derived.Test.YtophlopiigpbgaaGreatDoorMc
set_option linter.unusedVariables false
set_option linter.unusedSimpArgs false
/- A row of the call's own, made shorter. -/
namespace Sg
open Go Go.RowKit
theorem Z6O {w:World} {E:TypeId} {n cp:Nat} {a:Option Addr} {xs:List Value} {v:Value} (h:w.ownsRow 0 E 1 (.slice a (n+1) cp) (n+1) (xs++[v])):w.ownsRow 0 E 1 (.slice a n cp) n xs:=by
 obtain ⟨h1,h2⟩:=h
 have h3:xs.length=n:=by simpa using h1
 refine ⟨by omega,?_⟩
 rcases h2 with ⟨_,h0⟩|⟨g,cap,cur,hv,hg,hh,hn,hm,hs,ht⟩
 ·omega
 ·simp only [Value.slice.injEq] at hv
  obtain ⟨rfl,_,rfl⟩:=hv
  refine .inr ⟨g,cp,cur,rfl,hg,hh,by omega,hm,hs,?_⟩
  rw [Nat.mul_one] at ht ⊢
  have:=congrArg (List.take n) ht
  rw [List.take_take,Nat.min_eq_left (Nat.le_succ n)] at this
  rw [this,List.take_append_of_le_length (by omega),List.take_of_length_le (by omega)]
theorem St.shrink {F:World} {M:List Nat} {w:World} {H:List Res} {a:Option Addr} {cp n:Nat} {E:TypeId} {xs:List Value} {v:Value} (h:St F M w (.row a cp E 1 (n+1) (xs++[v])::H)):St F M w (.row a cp E 1 n xs::H) :=
 h.turn rfl rfl rfl (Nat.le_refl _) (fun _ _ _=>rfl) (Z6O (h.res _ (List.mem_cons_self ..))) (fun b hb=>.inl hb) (by cases a<;>simp [Res.foot])
theorem St.mid {F:World} {M:List Nat} {w:World} {A C:List Res} {q q':Res} (f:∀ X,St F M w (q::X)→St F M w (q'::X)) (h:St F M w (A++q::C)):St F M w (A++q'::C):=(f _ (h.perm List.perm_middle)).perm List.perm_middle.symm
theorem St.midDrop {F:World} {M:List Nat} {w:World} {A C:List Res} {q:Res} (h:St F M w (A++q::C)):St F M w (A++C):=(h.perm List.perm_middle).tail
section
variable {c:Ctx} {dr:Bool} {ds:List Deferred} {H:List Res} {k:List Item} {e:Env} {ops:Array Oper} {l:List Oper} {κ:List Res→Env→Prop}
theorem T.appendQ {d:Tmp} {x y:Operand} {ad:Option Addr} {n cp m b t E Eb sz:Nat} [HU c.P t (.slice E)] {z:Value} {by_:Nat} [HI c.P E z sz by_] {xs us:List Value} {f:Res→List Res} {H':List Res} {ty:TypeId} {pos:String} {aft:Array Edge} (hx:ev e x=some (.slice ad n cp)) (hy:ev e y=some (.slice (some ⟨b,0,none⟩) m m))
  (hf:Fr H b (.blk b us Eb::H')) (hr:AtR H' ad cp E sz n xs f) (hus:us.length=m*sz) (hone:us.all (·.oneCell')=true) (hzs:z.cells.size=sz) (hsz:Nat.blt 0 sz=true) (hroom:(n+m)*by_≤140737488355328∧n+m≤140737488355328) (hlt:Nat.blt d c.fn.ntmps=true)
  (hk:∀ ad' cp',Sr (.eff dr) c ds (f (.row ad' cp' E sz (n+m) (xs++us))) ops l κ ((d,.slice ad' (n+m) cp')::e)) :
  Sr (.eff dr) c ds H ops (⟨some d,.call ⟨.builtin .append,#[x,y],#[t,t]⟩,ty,pos,aft,none⟩::l) κ e :=
 Sr.front b (T.append (z:=z) (by_:=by_) hx hy hr hus hone hzs hsz hroom hlt hk)
end
end Sg
/- The walks of the program's reader of JSON: its whole state; lists and objects opened and closed. -/
namespace Go.Proofs.YtophlopiigpbgaaGreatDoor
open Sg Go.IntWalk
set_option maxRecDepth 100000
set_option maxHeartbeats 4000000
abbrev Stk:=List (Nat × Option (Nat × Ents))
def mpV (x:Nat × Option (Nat × Ents)):Value:=match x.2 with
 | none=>.map none
 | some y=>.map (some y.1)
abbrev mpR (mb:Nat) (m:Ents):Res:=.ex mb (mapQ Tryz.prog 9 3 m.length (mapD m))
def ZC:Stk→List Res→List Res
 | [],H=>H
 | (_,none)::r,H=>ZC r H
 | (_,some y)::r,H=>mpR y.1 y.2::ZC r H
abbrev nmR (ma:Option Addr) (mc:Nat) (st:Stk):Res:=.row ma mc 52 1 st.length (upL mpV st)
structure Jc where
 oa:Option Addr
 oc:Nat
 na:Option Addr
 nc:Nat
 ma:Option Addr
 mc:Nat
 out:List Nd
 st:Stk
 a:Nat
 s:Nat
 k:List UInt8
def Jc.cells (C:Jc) (t:List UInt8) (c b:Int):List Value:=jrV t (.slice C.oa C.out.length C.oc) (.slice C.na C.st.length C.nc) (.slice C.ma C.st.length C.mc) C.a C.s C.k c b
abbrev opS (na:Option Addr) (nc:Nat) (st:Stk):Res:=.row na nc 3 1 st.length (upL inV (st.map (·.1)))
def Jc.res (C:Jc) (p:Nat) (t:List UInt8) (H:List Res):List Res:=.blk p (C.cells t 0 0) 86::ouR C.oa C.oc C.out::opS C.na C.nc C.st::nmR C.ma C.mc C.st::ZC C.st H
section
variable {F:World} {M:List Nat} {H:List Res} {p:Nat} {t:List UInt8} {o:Value} {a s:Nat} {k:List UInt8} {c b:Int}
theorem ZdK {w:World} {A:List Res} {na ma:Option Addr} {nc mc:Nat} {x:Nat × Option (Nat × Ents)} {r:Stk} (h:St F M w (A++opS na nc (x::r)::nmR ma mc (x::r)::ZC (x::r) H)):St F M w (A++opS na nc r::nmR ma mc r::ZC r H):=by
 have e1:opS na nc (x::r)=.row na nc 3 1 (r.length+1) (upL inV (r.map (·.1))++[inV x.1]):=by rw [←Z2z];rfl
 have e2:nmR ma mc (x::r)=.row ma mc 52 1 (r.length+1) (upL mpV r++[mpV x]):=by rw [←Z2z];rfl
 rw [e1,e2] at h
 have h1:St F M w (A++opS na nc r::.row ma mc 52 1 (r.length+1) (upL mpV r++[mpV x])::ZC (x::r) H):=h.mid fun X h=>h.shrink
 have h2:St F M w ((A++[opS na nc r])++nmR ma mc r::ZC (x::r) H):=by
  refine St.mid (q:=.row ma mc 52 1 (r.length+1) (upL mpV r++[mpV x])) (fun X h=>h.shrink) (A:=A++[opS na nc r]) ?_
  rw [List.append_assoc]
  exact h1
 obtain ⟨i,x2⟩:=x
 cases x2 with
 | none =>
  rw [List.append_assoc] at h2
  exact h2
 | some y =>
  have h3:St F M w ((A++[opS na nc r,nmR ma mc r])++mpR y.1 y.2::ZC r H):=by
   rw [List.append_assoc] at h2 ⊢
   exact h2
  have h4:=h3.midDrop
  rw [List.append_assoc] at h4
  exact h4
theorem ZbV {na ma:Option Addr} {nc mc:Nat} {x:Nat × Option (Nat × Ents)} {r:Stk} {Ho:Res} (ha:a≤1000000) (hr:r.length≤1000000) :
  Meets Tryz.prog 63 [.pointer (some ⟨p,0,none⟩)] F M (.blk p (jrV t o (.slice na (x::r).length nc) (.slice ma (x::r).length mc) a s k c b) 86::Ho::opS na nc (x::r)::nmR ma mc (x::r)::ZC (x::r) H)
   (fun e H'=>e=.returned (.bool true)∧H'=.blk p (jrV t o (.slice na r.length nc) (.slice ma r.length mc) (a+1) (if r.length=0 then 6 else 5) k c b) 86::Ho::opS na nc r::nmR ma mc r::ZC r H):=by
 refine Meets.enter Tryz.func63 rfl rfl ?_
 have hlen:(x::r).length=r.length+1:=rfl
 have e1:(((x::r).length:Nat):Int) - 1=((r.length:Nat):Int):=by rw [hlen];omega
 refine S.capR (ad:=na) inferInstance fun hcap1=>?_
 refine S.capR (ad:=ma) inferInstance fun hcap2=>?_
 repeat' (first|refine Sg.Y1 ?_|fail)
 (apply S.draw;(case Hs=>exact []);(case es=>exact  [26,29]);(case n=>exact  30);(case hn=>rfl))
 repeat' (first|(apply T.subI;apply rfl;apply rfl;omega;apply rfl;rw [e1])|(apply SA.qn;(iterate 4 apply rfl);kernel_rfl)|(apply SA.qz;(iterate 4 apply rfl);kernel_rfl)|(apply SA.qsn;(iterate 3 apply rfl);kernel_rfl;(first|exact fun _ h=>h|exact fun _ h=>St.psub h (by ((repeat (first|dsimp only [List.set_cons_zero]|dsimp only [List.set_cons_succ]));repeat' first|exact PSub.refl _|exact PSub.nil|(apply PSub.take;(repeat' first|(with_reducible exact Z0)|(with_reducible apply Z1)))|(with_reducible apply PSub.drop)|((apply PSub.take);(repeat' first|exact Z0|(apply Z1)))))))|(apply SA.done;apply rfl;kernel_rfl)|(apply SK.intro;(first|exact fun _ h=>h|exact fun _ h=>St.psub h (by ((repeat (first|dsimp only [List.set_cons_zero]|dsimp only [List.set_cons_succ]));repeat' first|exact PSub.refl _|exact PSub.nil|(apply PSub.take;(repeat' first|(with_reducible exact Z0)|(with_reducible apply Z1)))|(with_reducible apply PSub.drop)|((apply PSub.take);(repeat' first|exact Z0|(apply Z1)))))))|refine Sg.Y1 ?_|fail)
 refine T.call rfl rfl (Z1w (a:=a+1) (l:=r.length) (o:=o)) ?_
 rintro _ _ ⟨rfl,rfl⟩
 refine Sr.weaken (H':=_) ?_ (fun w h=>ZdK (A:=[_,_]) h)
 repeat' (first|refine Sg.Y1 ?_|fail)
 exact ⟨_,PSub.refl _,rfl,rfl⟩
theorem Z9O (na:Option Addr) (nc:Nat) (st:Stk) (i:Nat) (y:Option (Nat × Ents)):(.row na nc 3 1 (st.length+1) (upL inV (st.map (·.1))++[.int .i64 (i:Int)]):Res)=opS na nc ((i,y)::st):=by
 rw [←Z2z inV i (st.map (·.1))]
 rfl
theorem Zbo (ma:Option Addr) (mc:Nat) (st:Stk) (i:Nat):(.row ma mc 52 1 (st.length+1) (upL mpV st++[.map none]):Res)=nmR ma mc ((i,none)::st):=by
 rw [show Value.map none=mpV (i,none) from rfl,←Z2z mpV (i,none) st]
 rfl
theorem Zbn (ma:Option Addr) (mc:Nat) (st:Stk) (i mb:Nat):(.row ma mc 52 1 (st.length+1) (upL mpV st++[.map (some mb)]):Res)=nmR ma mc ((i,some (mb,[]))::st):=by
 rw [show Value.map (some mb)=mpV (i,some (mb,[])) from rfl,←Z2z mpV (i,some (mb,[])) st]
 rfl
theorem Z95 {oa pa ma:Option Addr} {oc pc mc:Nat} {out:List Nd} {st:Stk} {ch:UInt8} (hch:ch.toNat=91∨ch.toNat=123) (ha:a≤1000000) (hi:∀ i r,st.map (·.1)=i::r→i < out.length) (hl:out.length≤1000000) (hs:st.length≤1000000) (hkid:∀ x∈out,0≤x.kids∧x.kids≤1000000) :
  Meets Tryz.prog 96 [.pointer (some ⟨p,0,none⟩),.int .u8 (ch.toNat:Nat)] F M (.blk p (jrV t (.slice oa out.length oc) (.slice pa st.length pc) (.slice ma st.length mc) a s k c b) 86::ouR oa oc out::opS pa pc st::nmR ma mc st::ZC st H)
   (fun e H'=>if st.length=32 then e=.returned (.bool false)∧H'=.blk p (jrV t (.slice oa out.length oc) (.slice pa st.length pc) (.slice ma st.length mc) a s k 11 a) 86::ouR oa oc out::opS pa pc st::nmR ma mc st::ZC st H
    else ∃ (oa':Option Addr) (oc':Nat) (pa':Option Addr) (pc':Nat) (ma':Option Addr) (mc':Nat) (y:Option (Nat × Ents)),e=.returned (.bool true)∧(if ch.toNat=123 then ∃ mb,y=some (mb,[]) else y=none) ∧
     H'=.blk p (jrV t (.slice oa' (out.length+1) oc') (.slice pa' (st.length+1) pc') (.slice ma' (st.length+1) mc') (a+1) (if ch.toNat=123 then 3 else 1) [] c b) 86::ouR oa' oc' (Z03 out (st.map (·.1))++[(nd (if ch.toNat=123 then 7 else 6)).named k])::opS pa' pc' ((out.length,y)::st)::nmR ma' mc' ((out.length,y)::st)::ZC ((out.length,y)::st) H):=by
 refine Meets.enter Tryz.func96 rfl rfl ?_
 have hml:(st.map (·.1)).length=st.length:=List.length_map _
 have hbl:(Z03 out (st.map (·.1))).length=out.length:=by
  cases h:st.map (·.1) with
  | nil=>rfl
  | cons i r=>exact List.length_modify ..
 have hL6:∀ n:Nd,(Z03 out (st.map (·.1))++[n]).length=out.length+1:=fun n=>by rw [List.length_append,hbl];rfl
 have e1:((out.length+1:Nat):Int) - 1=((out.length:Nat):Int):=by omega
 by_cases h32:st.length=32
 ·simp only [h32,if_true]
  repeat' (first|refine Sg.Y1 ?_|fail)
  refine T.call rfl rfl ZZ ?_
  rintro _ _ ⟨rfl,rfl⟩
  repeat' (first|refine Sg.Y2 ?_|fail)
  exact ⟨_,PSub.refl _,rfl,rfl⟩
 ·simp only [h32,if_false]
  by_cases h123:ch.toNat=123
  ·simp only [h123,if_true]
   have hn:(ch.toNat:Int)=123:=by omega
   repeat' (first|(apply T.mapMake;apply rfl;intro mb)|(apply T.alloc;apply rfl;intro nb)|refine Sg.Y3 ?_|(apply S.condQ;apply rfl;all_goals intro _)|fail)
   revert mb
   intro mb
   refine Sr.frontR pa ?_
   refine Sr.frontR oa ?_
   refine Sr.front p ?_
   have hls:=Z5t (F:=F) (M:=M) (H:=mpR mb []::.blk nb (ndV (nd 7)) 34::nmR ma mc st::ZC st H) (p:=p) (t:=t) (m:=.slice ma st.length mc) (a:=a+1) (s:=3) (k:=k) (c:=c) (b:=b) (oa:=oa) (na:=pa) (oc:=oc) (nc:=pc) (n:=nd 7) hi hl (by omega) hkid
   dsimp only [opR] at hls
   rw [hml] at hls
   refine T.call rfl rfl hls ?_
   clear hls
   rintro _ _ ⟨oa',oc',rfl,rfl⟩
   dsimp only [ouR]
   rw [hL6]
   repeat' (first|refine Sg.Y1 ?_|fail)
   (apply S.drawL;(case Hs=>exact [.blk p (jrV t (.slice oa' (out.length+1) oc') (.slice pa st.length pc) (.slice ma st.length mc) (a+1) 3 [] c b) 86]);(case es=>exact  [12,13,19,20,23,26]);(case lt=>exact  [23,26]);(case n=>exact  27);(case hn=>rfl))
   repeat' (first|(apply T.subI;apply rfl;apply rfl;omega;apply rfl;rw [e1])|(apply T.appendQ;apply rfl;apply rfl;infer_instance;infer_instance;(iterate 4 apply rfl);(constructor<;>omega);apply rfl;intro na nc)|(apply T.bs;(iterate 6 apply rfl);intro nb)|(apply SA.qn;(iterate 4 apply rfl);kernel_rfl)|(apply SA.qz;(iterate 4 apply rfl);kernel_rfl)|(apply SA.qsn;(iterate 3 apply rfl);kernel_rfl;(first|exact fun _ h=>h|exact fun _ h=>St.psub h (by ((repeat (first|dsimp only [List.set_cons_zero]|dsimp only [List.set_cons_succ]));repeat' first|exact PSub.refl _|exact PSub.nil|(apply PSub.take;(repeat' first|(with_reducible exact Z0)|(with_reducible apply Z1)))|(with_reducible apply PSub.drop)|((apply PSub.take);(repeat' first|exact Z0|(apply Z1)))))))|(apply SA.e2;(iterate 3 apply rfl);kernel_rfl)|(apply SA.done;apply rfl;kernel_rfl)|(apply SK.late;decide)|(apply SK.intro;(first|exact fun _ h=>h|exact fun _ h=>St.psub h (by ((repeat (first|dsimp only [List.set_cons_zero]|dsimp only [List.set_cons_succ]));repeat' first|exact PSub.refl _|exact PSub.nil|(apply PSub.take;(repeat' first|(with_reducible exact Z0)|(with_reducible apply Z1)))|(with_reducible apply PSub.drop)|((apply PSub.take);(repeat' first|exact Z0|(apply Z1)))))))|refine Sg.Y1 ?_|fail)
   all_goals
    rw [Z9O _ _ st out.length (some (mb,[])),Zbn _ _ st out.length mb]
    exact ⟨_,PSub.take Z0 (PSub.take Z0 (PSub.take Z0 (PSub.take (Z1 (Z1 Z0)) (PSub.take Z0 (PSub.drop (PSub.refl _)))))),oa',oc',_,_,_,_,some (mb,[]),rfl,⟨mb,rfl⟩,rfl⟩
  ·simp only [h123,if_false]
   have hn:¬(ch.toNat:Int)=123:=by omega
   repeat' (first|(apply T.alloc;apply rfl;intro nb)|refine Sg.Y3 ?_|(apply S.condQ;apply rfl;all_goals intro _)|fail)
   refine Sr.frontR pa ?_
   refine Sr.frontR oa ?_
   refine Sr.front p ?_
   have hls:=Z5t (F:=F) (M:=M) (H:=.blk nb (ndV (nd 6)) 34::nmR ma mc st::ZC st H) (p:=p) (t:=t) (m:=.slice ma st.length mc) (a:=a+1) (s:=1) (k:=k) (c:=c) (b:=b) (oa:=oa) (na:=pa) (oc:=oc) (nc:=pc) (n:=nd 6) hi hl (by omega) hkid
   dsimp only [opR] at hls
   rw [hml] at hls
   refine T.call rfl rfl hls ?_
   clear hls
   rintro _ _ ⟨oa',oc',rfl,rfl⟩
   dsimp only [ouR]
   rw [hL6]
   repeat' (first|refine Sg.Y1 ?_|fail)
   (apply S.drawL;(case Hs=>exact [.blk p (jrV t (.slice oa' (out.length+1) oc') (.slice pa st.length pc) (.slice ma st.length mc) (a+1) 1 [] c b) 86]);(case es=>exact  [12,13,19,20,23,26]);(case lt=>exact  [23,26]);(case n=>exact  27);(case hn=>rfl))
   repeat' (first|(apply T.subI;apply rfl;apply rfl;omega;apply rfl;rw [e1])|(apply T.appendQ;apply rfl;apply rfl;infer_instance;infer_instance;(iterate 4 apply rfl);(constructor<;>omega);apply rfl;intro na nc)|(apply T.bs;(iterate 6 apply rfl);intro nb)|(apply SA.qn;(iterate 4 apply rfl);kernel_rfl)|(apply SA.qz;(iterate 4 apply rfl);kernel_rfl)|(apply SA.qsn;(iterate 3 apply rfl);kernel_rfl;(first|exact fun _ h=>h|exact fun _ h=>St.psub h (by ((repeat (first|dsimp only [List.set_cons_zero]|dsimp only [List.set_cons_succ]));repeat' first|exact PSub.refl _|exact PSub.nil|(apply PSub.take;(repeat' first|(with_reducible exact Z0)|(with_reducible apply Z1)))|(with_reducible apply PSub.drop)|((apply PSub.take);(repeat' first|exact Z0|(apply Z1)))))))|(apply SA.e2;(iterate 3 apply rfl);kernel_rfl)|(apply SA.done;apply rfl;kernel_rfl)|(apply SK.late;decide)|(apply SK.intro;(first|exact fun _ h=>h|exact fun _ h=>St.psub h (by ((repeat (first|dsimp only [List.set_cons_zero]|dsimp only [List.set_cons_succ]));repeat' first|exact PSub.refl _|exact PSub.nil|(apply PSub.take;(repeat' first|(with_reducible exact Z0)|(with_reducible apply Z1)))|(with_reducible apply PSub.drop)|((apply PSub.take);(repeat' first|exact Z0|(apply Z1)))))))|refine Sg.Y1 ?_|fail)
   all_goals
    rw [Z9O _ _ st out.length none,Zbo _ _ st out.length]
    exact ⟨_,PSub.take Z0 (PSub.take Z0 (PSub.take Z0 (PSub.drop (PSub.refl _)))),oa',oc',_,_,_,_,none,rfl,rfl,rfl⟩
end
end Go.Proofs.YtophlopiigpbgaaGreatDoor
/- The walks of the program's reader of JSON: words and numbers put down. -/
namespace Go.Proofs.YtophlopiigpbgaaGreatDoor
open Sg Go.IntWalk
set_option maxRecDepth 100000
set_option maxHeartbeats 4000000
section
variable {F:World} {M:List Nat} {H:List Res} {p:Nat} {t:List UInt8} {m:Value} {a s:Nat} {k:List UInt8} {c b:Int} {oa na:Option Addr} {oc nc:Nat} {out:List Nd} {is:List Nat}
theorem Z2Q (out:List Nd) (is:List Nat):(Z03 out is).length=out.length:=by
 cases is with
 | nil=>rfl
 | cons i r=>exact List.length_modify ..
theorem Z29 (out:List Nd) (is:List Nat) (n:Nd):(Z03 out is++[n]).length=out.length+1:=by rw [List.length_append,Z2Q];rfl
def Zdt (p:Nat) (t:List UInt8) (na:Option Addr) (nc:Nat) (m:Value) (is:List Nat) (out:List Nd) (k:List UInt8) (c b:Int) (H:List Res) (a:Nat) (n:Nd):Ending→List Res→Prop:=fun e H'=>∃ (oa':Option Addr) (oc':Nat),e=.returned (.bool true) ∧
 H'=.blk p (jrV t (.slice oa' (out.length+1) oc') (.slice na is.length nc) m a (if is.length=0 then 6 else 5) [] c b) 86::ouR oa' oc' (Z03 out is++[n.named k])::opR na nc is::H
def ZaW (p:Nat) (t:List UInt8) (H:List Res) (code at_:Int):Ending→List Res→Prop:=fun e H'=>∃ (o n m:Value) (a s:Nat) (k:List UInt8),e=.returned (.bool false)∧H'=.blk p (jrV t o n m a s k code at_) 86::H
theorem Z43 {n:Nd} (hi:∀ i r,is=i::r→i < out.length) (hl:out.length≤1000000) (hs:is.length≤1000000) (hkid:∀ x∈out,0≤x.kids∧x.kids≤1000000) :
  Meets Tryz.prog 98 [.pointer (some ⟨p,0,none⟩),.agg ⟨ndV n⟩] F M (.blk p (jrV t (.slice oa out.length oc) (.slice na is.length nc) m a s k c b) 86::ouR oa oc out::opR na nc is::H)
   (fun e H'=>∃ oa' oc',e=.returned (.tuple ⟨[]⟩)∧H'=.blk p (jrV t (.slice oa' (out.length+1) oc') (.slice na is.length nc) m a s [] c b) 86::ouR oa' oc' (Z03 out is++[n.named k])::opR na nc is::H):=by
 have h:=Z5t (F:=F) (M:=M) (H:=H) (p:=p) (t:=t) (m:=m) (a:=a) (s:=s) (k:=k) (c:=c) (b:=b) (oa:=oa) (na:=na) (oc:=oc) (nc:=nc) (n:=n) hi hl hs hkid
 rw [Z29] at h
 exact h
theorem Z8l {q:Nat} {x:UInt8} {ws:List UInt8} (h:x≠0):Z0v t q (x::ws)=if bAt t q=x.toNat then Z0v t (q+1) ws else .bad 31 q:=by
 rw [Z0v,Z20 h]
 simp only [decide_eq_true_eq]
theorem Z6c {w:List UInt8} {kd:Nat} (hw:∀ x∈w,x≠0) (hwl:w.length≤100) (ha:a≤t.length) (hl:t.length≤262144) (hi:∀ i r,is=i::r→i < out.length) (hol:out.length≤1000000) (hs:is.length≤1000000) (hkid:∀ x∈out,0≤x.kids∧x.kids≤1000000) :
  Meets Tryz.prog 100 [.pointer (some ⟨p,0,none⟩),sV w,.int .i64 kd] F M (.blk p (jrV t (.slice oa out.length oc) (.slice na is.length nc) m a s k c b) 86::ouR oa oc out::opR na nc is::H)
   (match Z0v t a w with
    | .ok a' _=>Zdt p t na nc m is out k c b H a' (nd kd)
    | .bad c' b'=>ZaW p t (ouR oa oc out::opR na nc is::H) c' b'):=by
 refine Meets.enter Tryz.func100 rfl rfl ?_
 repeat' (first|refine Sg.Y1 ?_|fail)
 refine S.loopE 1 [0,1,2,9] (fun R b' μ H' e=>∃ i:Nat,H'=.blk p (jrV t (.slice oa out.length oc) (.slice na is.length nc) m (a+i) s k c b) 86::R∧e=(10,.int .i64 i)::b'∧(i≤w.length∧a+i≤t.length∧Z0v t a w=Z0v t (a+i) (w.drop i))∧μ=w.length - i) rfl rfl ?_ _ _ ⟨0,rfl,rfl,⟨Nat.zero_le _,ha,rfl⟩,rfl⟩ (by repeat' first|exact trivial|refine And.intro rfl ?_)
 rintro _ _ _ ⟨i,rfl,rfl,⟨h1,h2,h3⟩,rfl⟩ ih
 by_cases h4:i < w.length
 ·have hg:w.drop i=w.getD i 0::w.drop (i+1):=by
   rw [List.drop_eq_getElem_cons h4]
   simp [List.getD,h4]
  have hne:w.getD i 0≠0:=by
   rw [List.getD_eq_getElem?_getD,List.getElem?_eq_getElem h4]
   exact hw _ (List.getElem_mem h4)
  rw [hg,Z8l hne] at h3
  have hu:=Z3k t (a+i)
  have n1:∀ {X:List Res},Meets Tryz.prog 62 [.pointer (some ⟨p,0,none⟩)] F M (.blk p (jrV t (.slice oa out.length oc) (.slice na is.length nc) m (a+i) s k c b) 86::X) (fun e H'=>e=.returned (.int .u8 (bAt t (a+i):Nat))∧H'=.blk p (jrV t (.slice oa out.length oc) (.slice na is.length nc) m (a+i) s k c b) 86::X):=ZY
  by_cases h5:bAt t (a+i)=(w.getD i 0).toNat
  ·rw [if_pos h5] at h3
   have hlt:=Z1Y (t:=t) (p:=a+i) (by rw [h5];exact fun e=>hne (UInt8.toNat_inj.1 e))
   repeat' (first|refine Sg.Y3 ?_|(apply S.condQ;apply rfl;all_goals intro _)|fail)
   (apply S.draw;(case Hs=>exact .blk p (jrV t (.slice oa out.length oc) (.slice na is.length nc) m (a+i) s k c b) 86::ouR oa oc out::opR na nc is::H);(case es=>exact  [1]);(case n=>exact  6);(case hn=>rfl))
   repeat' (first|(apply T.call;apply rfl;apply rfl;with_reducible exact n1;rintro _ _ ⟨rfl,rfl⟩)|(apply SA.qn;(iterate 4 apply rfl);kernel_rfl)|(apply SA.qz;(iterate 4 apply rfl);kernel_rfl)|(apply SA.qsn;(iterate 3 apply rfl);kernel_rfl;(first|exact fun _ h=>h|exact fun _ h=>St.psub h (by ((repeat (first|dsimp only [List.set_cons_zero]|dsimp only [List.set_cons_succ]));repeat' first|exact PSub.refl _|exact PSub.nil|(apply PSub.take;(repeat' first|(with_reducible exact Z0)|(with_reducible apply Z1)))|(with_reducible apply PSub.drop)|((apply PSub.take);(repeat' first|exact Z0|(apply Z1)))))))|(apply SA.done;apply rfl;kernel_rfl)|(apply SK.intro;(first|exact fun _ h=>h|exact fun _ h=>St.psub h (by ((repeat (first|dsimp only [List.set_cons_zero]|dsimp only [List.set_cons_succ]));repeat' first|exact PSub.refl _|exact PSub.nil|(apply PSub.take;(repeat' first|(with_reducible exact Z0)|(with_reducible apply Z1)))|(with_reducible apply PSub.drop)|((apply PSub.take);(repeat' first|exact Z0|(apply Z1)))))))|refine Sg.Y7 ?_|(apply S.condQ;apply rfl;all_goals intro _)|fail)
   exact ih _ _ _ _ ⟨i+1,rfl,rfl,⟨by omega,by omega,h3⟩,rfl⟩ (by omega) (by repeat' first|exact trivial|refine And.intro rfl ?_)
  ·rw [if_neg h5] at h3
   rw [h3]
   repeat' (first|refine Sg.Y3 ?_|(apply S.condQ;apply rfl;all_goals intro _)|fail)
   (apply S.draw;(case Hs=>exact .blk p (jrV t (.slice oa out.length oc) (.slice na is.length nc) m (a+i) s k c b) 86::ouR oa oc out::opR na nc is::H);(case es=>exact  [1]);(case n=>exact  6);(case hn=>rfl))
   repeat' (first|(apply T.call;apply rfl;apply rfl;with_reducible exact n1;rintro _ _ ⟨rfl,rfl⟩)|(apply SA.qn;(iterate 4 apply rfl);kernel_rfl)|(apply SA.qz;(iterate 4 apply rfl);kernel_rfl)|(apply SA.qsn;(iterate 3 apply rfl);kernel_rfl;(first|exact fun _ h=>h|exact fun _ h=>St.psub h (by ((repeat (first|dsimp only [List.set_cons_zero]|dsimp only [List.set_cons_succ]));repeat' first|exact PSub.refl _|exact PSub.nil|(apply PSub.take;(repeat' first|(with_reducible exact Z0)|(with_reducible apply Z1)))|(with_reducible apply PSub.drop)|((apply PSub.take);(repeat' first|exact Z0|(apply Z1)))))))|(apply SA.done;apply rfl;kernel_rfl)|(apply SK.intro;(first|exact fun _ h=>h|exact fun _ h=>St.psub h (by ((repeat (first|dsimp only [List.set_cons_zero]|dsimp only [List.set_cons_succ]));repeat' first|exact PSub.refl _|exact PSub.nil|(apply PSub.take;(repeat' first|(with_reducible exact Z0)|(with_reducible apply Z1)))|(with_reducible apply PSub.drop)|((apply PSub.take);(repeat' first|exact Z0|(apply Z1)))))))|refine Sg.Y3 ?_|(apply S.condQ;apply rfl;all_goals intro _)|fail)
   refine T.call rfl rfl ZK ?_
   rintro _ _ ⟨rfl,rfl⟩
   repeat' (first|refine Sg.Y2 ?_|fail)
   exact ⟨_,PSub.refl _,_,_,_,_,_,_,rfl,rfl⟩
 ·obtain rfl:i=w.length:=by omega
  rw [h3,List.drop_length,Z0v]
  repeat' (first|refine Sg.Y3 ?_|(apply S.condQ;apply rfl;all_goals intro _)|fail)
  refine T.call rfl rfl (Z43 (n:=nd kd) hi hol hs hkid) ?_
  rintro _ _ ⟨oa',oc',rfl,rfl⟩
  repeat' (first|refine Sg.Y1 ?_|fail)
  refine T.call rfl rfl Z1w ?_
  rintro _ _ ⟨rfl,rfl⟩
  repeat' (first|refine Sg.Y1 ?_|fail)
  exact ⟨_,PSub.refl _,oa',oc',rfl,rfl⟩
end
end Go.Proofs.YtophlopiigpbgaaGreatDoor
/- The walks of the program's reader of JSON: numbers put down. -/
namespace Go.Proofs.YtophlopiigpbgaaGreatDoor
open Sg Go.IntWalk
set_option maxRecDepth 100000
set_option maxHeartbeats 4000000
section
variable {F:World} {M:List Nat} {H:List Res} {p:Nat} {t:List UInt8} {m:Value} {a s:Nat} {k:List UInt8} {c b:Int} {oa na:Option Addr} {oc nc:Nat} {out:List Nd} {is:List Nat}
def pmN (t:List UInt8) (q:Nat):Nat:=if bAt t q=45 then q+1 else q
theorem Z9X (q:Nat):Z1C t q=if bAt t q=48 then .ok (q+1) () else Z0P t q:=by
 unfold Z1C
 rw [Z20 (by decide)]
 simp only [decide_eq_true_eq]
 rfl
theorem Z8G (q:Nat):Z0w t q=if bAt t q=46 then Z0P t (q+1) else .ok q ():=by
 unfold Z0w
 rw [Z20 (by decide)]
 simp only [decide_eq_true_eq]
 rfl
theorem Z8E (q:Nat):Z0g t q=if bAt t q=43∨bAt t q=45 then q+1 else q:=by
 unfold Z0g
 rw [Z20 (by decide),Z20 (by decide)]
 simp only [Bool.or_eq_true,decide_eq_true_eq]
 rfl
theorem Z9Y (q:Nat):Z1N t q=if bAt t q=101∨bAt t q=69 then Z0P t (Z0g t (q+1)) else .ok q ():=by
 unfold Z1N
 rw [Z20 (by decide),Z20 (by decide)]
 simp only [Bool.or_eq_true,decide_eq_true_eq]
 rfl
theorem ZcX (q:Nat):numX t q=(Z1C t (pmN t q)).bind fun a _=>(Z0w t a).bind fun b _=>Z1N t b:=by
 unfold numX pmN
 rw [Z20 (by decide)]
 simp only [decide_eq_true_eq]
 rfl
def Z9W (t:List UInt8) (a a':Nat):Nd:={ nd 4 with text:=sl t a a',int:=(Zb (sl t a a')).1,whole:=(Zb (sl t a a')).2 }
theorem Z75 (ha:a < t.length) (hl:t.length≤262144) (hi:∀ i r,is=i::r→i < out.length) (hol:out.length≤1000000) (hs:is.length≤1000000) (hkid:∀ x∈out,0≤x.kids∧x.kids≤1000000) :
  Meets Tryz.prog 99 [.pointer (some ⟨p,0,none⟩)] F M (.blk p (jrV t (.slice oa out.length oc) (.slice na is.length nc) m a s k c b) 86::ouR oa oc out::opR na nc is::H)
   (match numX t a with
    | .ok a' _=>Zdt p t na nc m is out k c b H a' (Z9W t a a')
    | .bad c' b'=>ZaW p t (ouR oa oc out::opR na nc is::H) c' b'):=by
 refine Meets.enter Tryz.func99 rfl rfl ?_
 have hX:=ZcX (t:=t) a
 have hfit:=Z3Y (t:=t) (p:=a) (by omega)
 generalize numX t a=X at *
 refine S.seq ?_
 repeat' (first|refine Sg.Y2 ?_|fail)
 refine S.seq ?_
 repeat' (first|refine Sg.Y2 ?_|fail)
 refine S.seq ?_
 have hu:=fun q=>Z3k t q
 have h0:∀ q,bAt t q≠0→q < t.length:=fun q=>Z1Y
 refine S.cut (fun H' e'=>H'=.blk p (jrV t (.slice oa out.length oc) (.slice na is.length nc) m (pmN t a) s k c b) 86::ouR oa oc out::opR na nc is::H∧e'=[(0,.pointer (some ⟨p,0,none⟩)),(3,.int .i64 a)]) ?_ ?_
 ·intro k' hrest
  have hua:=hu a
  repeat' (first|refine Sg.Y1 ?_|fail)
  refine T.call rfl rfl ZY ?_
  rintro _ _ ⟨rfl,rfl⟩
  unfold pmN at hrest
  by_cases h1:bAt t a=45
  ·rw [if_pos h1] at hrest
   repeat' (first|refine Sg.Y7 ?_|(apply S.condQ;apply rfl;all_goals intro _)|fail)
   exact hrest _ _ _ ⟨rfl,rfl⟩ (by repeat' first|exact trivial|refine And.intro rfl ?_)
  ·rw [if_neg h1] at hrest
   repeat' (first|refine Sg.Y7 ?_|(apply S.condQ;apply rfl;all_goals intro _)|fail)
   exact hrest _ _ _ ⟨rfl,rfl⟩ (by repeat' first|exact trivial|refine And.intro rfl ?_)
 rintro _ _ ⟨rfl,rfl⟩
 have hpm:pmN t a≤t.length:=by
  unfold pmN
  split
  ·have:=h0 a (by omega);omega
  ·omega
 generalize pmN t a=q1 at *
 refine S.seq ?_
 refine S.cut (fun H' e'=>∃ q2,Z1C t q1=.ok q2 ()∧H'=.blk p (jrV t (.slice oa out.length oc) (.slice na is.length nc) m q2 s k c b) 86::ouR oa oc out::opR na nc is::H∧e'=[(0,.pointer (some ⟨p,0,none⟩)),(3,.int .i64 a)]∧q2≤t.length) ?_ ?_
 ·intro k' hrest
  have hua:=hu q1
  have hn:=Z9X (t:=t) q1
  repeat' (first|refine Sg.Y1 ?_|fail)
  refine T.call rfl rfl ZY ?_
  rintro _ _ ⟨rfl,rfl⟩
  by_cases h1:bAt t q1=48
  ·rw [if_pos h1] at hn
   have:=h0 q1 (by omega)
   repeat' (first|refine Sg.Y7 ?_|(apply S.condQ;apply rfl;all_goals intro _)|fail)
   exact hrest _ _ _ ⟨q1+1,hn,rfl,rfl,by omega⟩ (by repeat' first|exact trivial|refine And.intro rfl ?_)
  ·rw [if_neg h1] at hn
   repeat' (first|refine Sg.Y3 ?_|(apply S.condQ;apply rfl;all_goals intro _)|fail)
   refine T.call rfl rfl (Z1v hpm (by omega)) ?_
   have hd:=Z0c (t:=t) (p:=q1) hpm
   cases hx:Z0P t q1 with
   | ok q2 u =>
    rintro _ _ ⟨rfl,rfl⟩
    repeat' (first|refine Sg.Y2 ?_|fail)
    exact hrest _ _ _ ⟨q2,hn.trans hx,rfl,rfl,(hd q2 u hx).2⟩ (by repeat' first|exact trivial|refine And.intro rfl ?_)
   | bad e1 r1 =>
    rintro _ _ ⟨a1,rfl,rfl⟩
    rw [hn,hx] at hX
    subst hX
    repeat' (first|refine Sg.Y1 ?_|fail)
    exact ⟨_,PSub.refl _,_,_,_,_,_,_,rfl,rfl⟩
 rintro _ _ ⟨q2,hq2,rfl,rfl,hl2⟩
 rw [hq2] at hX
 refine S.seq ?_
 refine S.cut (fun H' e'=>∃ q3,Z0w t q2=.ok q3 ()∧H'=.blk p (jrV t (.slice oa out.length oc) (.slice na is.length nc) m q3 s k c b) 86::ouR oa oc out::opR na nc is::H∧e'=[(0,.pointer (some ⟨p,0,none⟩)),(3,.int .i64 a)]∧q3≤t.length) ?_ ?_
 ·intro k' hrest
  have hua:=hu q2
  have hn:=Z8G (t:=t) q2
  repeat' (first|refine Sg.Y1 ?_|fail)
  refine T.call rfl rfl ZY ?_
  rintro _ _ ⟨rfl,rfl⟩
  by_cases h1:bAt t q2=46
  ·rw [if_pos h1] at hn
   have h4:=h0 q2 (by omega)
   repeat' (first|refine Sg.Y3 ?_|(apply S.condQ;apply rfl;all_goals intro _)|fail)
   refine T.call rfl rfl (Z1v (a:=q2+1) (by omega) (by omega)) ?_
   have hd:=Z0c (t:=t) (p:=q2+1) (by omega)
   cases hx:Z0P t (q2+1) with
   | ok q3 u =>
    rintro _ _ ⟨rfl,rfl⟩
    repeat' (first|refine Sg.Y2 ?_|fail)
    exact hrest _ _ _ ⟨q3,hn.trans hx,rfl,rfl,(hd q3 u hx).2⟩ (by repeat' first|exact trivial|refine And.intro rfl ?_)
   | bad e1 r1 =>
    rintro _ _ ⟨a1,rfl,rfl⟩
    simp only [Gt.bind] at hX
    rw [hn,hx] at hX
    simp only at hX
    subst hX
    repeat' (first|refine Sg.Y1 ?_|fail)
    exact ⟨_,PSub.refl _,_,_,_,_,_,_,rfl,rfl⟩
  ·rw [if_neg h1] at hn
   repeat' (first|refine Sg.Y7 ?_|(apply S.condQ;apply rfl;all_goals intro _)|fail)
   exact hrest _ _ _ ⟨q2,hn,rfl,rfl,hl2⟩ (by repeat' first|exact trivial|refine And.intro rfl ?_)
 rintro _ _ ⟨q3,hq3,rfl,rfl,hl3⟩
 simp only [Gt.bind] at hX
 rw [hq3] at hX
 simp only at hX
 refine S.seq ?_
 refine S.cut (fun H' e'=>∃ q4,Z1N t q3=.ok q4 ()∧H'=.blk p (jrV t (.slice oa out.length oc) (.slice na is.length nc) m q4 s k c b) 86::ouR oa oc out::opR na nc is::H∧e'=[(0,.pointer (some ⟨p,0,none⟩)),(3,.int .i64 a)]∧q4≤t.length) ?_ ?_
 ·intro k' hrest
  have hua:=hu q3
  have hub:=hu (q3+1)
  have hn:=Z9Y (t:=t) q3
  repeat' (first|refine Sg.Y1 ?_|fail)
  refine T.call rfl rfl ZY ?_
  rintro _ _ ⟨rfl,rfl⟩
  by_cases h1:bAt t q3=101∨bAt t q3=69
  ·rw [if_pos h1,Z8E] at hn
   have h4:=h0 q3 (by omega)
   repeat' (first|refine Sg.Y3 ?_|(apply S.condQ;apply rfl;all_goals intro _)|(apply T.gcase;apply rfl;apply rfl;all_goals intro _)|fail)
   all_goals
    refine T.call rfl rfl (ZY (a:=q3+1)) ?_
    rintro _ _ ⟨rfl,rfl⟩
    by_cases h5:bAt t (q3+1)=43∨bAt t (q3+1)=45
    ·rw [if_pos h5] at hn
     have h6:=h0 (q3+1) (by omega)
     repeat' (first|refine Sg.Y3 ?_|(apply S.condQ;apply rfl;all_goals intro _)|(apply T.gcase;apply rfl;apply rfl;all_goals intro _)|fail)
     all_goals
      refine T.call rfl rfl (Z1v (a:=q3+1+1) (by omega) (by omega)) ?_
      have hd:=Z0c (t:=t) (p:=q3+1+1) (by omega)
      cases hx:Z0P t (q3+1+1) with
      | ok q4 u =>
       rintro _ _ ⟨rfl,rfl⟩
       repeat' (first|refine Sg.Y2 ?_|fail)
       exact hrest _ _ _ ⟨q4,hn.trans hx,rfl,rfl,(hd q4 u hx).2⟩ (by repeat' first|exact trivial|refine And.intro rfl ?_)
      | bad e1 r1 =>
       rintro _ _ ⟨a1,rfl,rfl⟩
       rw [hn,hx] at hX
       subst hX
       repeat' (first|refine Sg.Y1 ?_|fail)
       exact ⟨_,PSub.refl _,_,_,_,_,_,_,rfl,rfl⟩
    ·rw [if_neg h5] at hn
     have h7:¬bAt t (q3+1)=43∧¬bAt t (q3+1)=45:=not_or.1 h5
     repeat' (first|refine Sg.Y3 ?_|(apply S.condQ;apply rfl;all_goals intro _)|(apply T.gcase;apply rfl;apply rfl;all_goals intro _)|fail)
     refine T.call rfl rfl (Z1v (a:=q3+1) (by omega) (by omega)) ?_
     have hd:=Z0c (t:=t) (p:=q3+1) (by omega)
     cases hx:Z0P t (q3+1) with
     | ok q4 u =>
      rintro _ _ ⟨rfl,rfl⟩
      repeat' (first|refine Sg.Y2 ?_|fail)
      exact hrest _ _ _ ⟨q4,hn.trans hx,rfl,rfl,(hd q4 u hx).2⟩ (by repeat' first|exact trivial|refine And.intro rfl ?_)
     | bad e1 r1 =>
      rintro _ _ ⟨a1,rfl,rfl⟩
      rw [hn,hx] at hX
      subst hX
      repeat' (first|refine Sg.Y1 ?_|fail)
      exact ⟨_,PSub.refl _,_,_,_,_,_,_,rfl,rfl⟩
  ·rw [if_neg h1] at hn
   have h7:¬bAt t q3=101∧¬bAt t q3=69:=not_or.1 h1
   repeat' (first|refine Sg.Y3 ?_|(apply S.condQ;apply rfl;all_goals intro _)|(apply T.gcase;apply rfl;apply rfl;all_goals intro _)|fail)
   exact hrest _ _ _ ⟨q3,hn,rfl,rfl,hl3⟩ (by repeat' first|exact trivial|refine And.intro rfl ?_)
 rintro _ _ ⟨q4,hq4,rfl,rfl,hl4⟩
 rw [hq4] at hX
 subst hX
 obtain ⟨hf1,hf2⟩:=hfit q4 () rfl
 simp only
 have hsl:(sl t a q4).length≤262144:=by
  unfold sl
  rw [List.length_take,List.length_drop]
  omega
 refine S.seq ?_
 (apply S.draw;(case Hs=>exact .blk p (jrV t (.slice oa out.length oc) (.slice na is.length nc) m q4 s k c b) 86::ouR oa oc out::opR na nc is::H);(case es=>exact  [11,12]);(case n=>exact  13);(case hn=>rfl))
 repeat' (first|(apply T.alloc;apply rfl;intro nb)|(apply SA.qz;(iterate 4 apply rfl);kernel_rfl)|(apply SA.qsn;(iterate 3 apply rfl);kernel_rfl;(first|exact fun _ h=>h|exact fun _ h=>St.psub h (by ((repeat (first|dsimp only [List.set_cons_zero]|dsimp only [List.set_cons_succ]));repeat' first|exact PSub.refl _|exact PSub.nil|(apply PSub.take;(repeat' first|(with_reducible exact Z0)|(with_reducible apply Z1)))|(with_reducible apply PSub.drop)|((apply PSub.take);(repeat' first|exact Z0|(apply Z1)))))))|(apply SA.done;apply rfl;kernel_rfl)|(apply SK.intro;(first|exact fun _ h=>h|exact fun _ h=>St.psub h (by ((repeat (first|dsimp only [List.set_cons_zero]|dsimp only [List.set_cons_succ]));repeat' first|exact PSub.refl _|exact PSub.nil|(apply PSub.take;(repeat' first|(with_reducible exact Z0)|(with_reducible apply Z1)))|(with_reducible apply PSub.drop)|((apply PSub.take);(repeat' first|exact Z0|(apply Z1)))))))|refine Sg.Y1 ?_|fail)
 refine T.call rfl rfl (Z4G (t:=sl t a q4) (by omega)) ?_
 rintro _ _ ⟨rfl,hH⟩
 have hH2:=hH.symm
 subst hH2
 repeat' (first|refine Sg.Y1 ?_|fail)
 refine Sr.drop ?_
 refine T.call rfl rfl (Z43 (n:=Z9W t a q4) hi hol hs hkid) ?_
 rintro _ _ ⟨oa',oc',rfl,rfl⟩
 repeat' (first|refine Sg.Y1 ?_|fail)
 refine T.call rfl rfl Z1w ?_
 rintro _ _ ⟨rfl,rfl⟩
 repeat' (first|refine Sg.Y1 ?_|fail)
 exact ⟨_,PSub.refl _,oa',oc',rfl,rfl⟩
end
end Go.Proofs.YtophlopiigpbgaaGreatDoor
/- The walks of the program's reader of JSON: its state and the plain machine's. -/
namespace Go.Proofs.YtophlopiigpbgaaGreatDoor
open Sg Go.IntWalk
set_option maxRecDepth 100000
set_option maxHeartbeats 4000000
def OptR:Option (Nat × Ents)→Option (List (List UInt8))→Prop
 | none,none=>True
 | some y,some ns=>∀ x,eget y.2 x=if x∈ns then some 1 else none
 | _,_=>False
def StR:Stk→List (Nat × Option (List (List UInt8)))→Prop
 | [],[]=>True
 | x::r,z::q=>x.1=z.1∧OptR x.2 z.2∧StR r q
 | _,_=>False
structure Inv (t:List UInt8) (C:Jc):Prop where
 at_:C.a≤t.length
 outl:C.out.length≤C.a
 kids:∀ x∈C.out,0≤x.kids∧x.kids≤C.out.length
 idx:∀ x∈C.st,x.1 < C.out.length
 kind:∀ x∈C.st,(C.out.getD x.1 default).kind=if x.2.isSome=true then 7 else 6
 maps:∀ x∈C.st,∀ y,x.2=some y→y.2.length≤C.a
 dep:C.st.length≤32
structure Rel (C:Jc) (c:Cf):Prop where
 p:C.a=c.p
 s:C.s=c.s
 out:C.out=c.out
 key:C.k=c.key
 stk:StR C.st c.stk
theorem StR.len:∀ {a:Stk} {b:List (Nat × Option (List (List UInt8)))},StR a b→a.length=b.length
 | [],[],_=>rfl
 | _::_,_::_,h=>by rw [List.length_cons,List.length_cons,StR.len h.2.2]
 | [],_::_,h=>h.elim
 | _::_,[],h=>h.elim
theorem StR.fst:∀ {a:Stk} {b:List (Nat × Option (List (List UInt8)))},StR a b→a.map (·.1)=b.map (·.1)
 | [],[],_=>rfl
 | _::_,_::_,h=>by rw [List.map_cons,List.map_cons,h.1,StR.fst h.2.2]
 | [],_::_,h=>h.elim
 | _::_,[],h=>h.elim
theorem StR.beh {a:Stk} {b:List (Nat × Option (List (List UInt8)))} (h:StR a b):(if a.length=0 then 6 else 5)=behS b:=by
 cases a with
 | nil=>cases b with
  | nil=>rfl
  | cons _ _=>exact h.elim
 | cons _ _=>cases b with
  | nil=>exact h.elim
  | cons _ _=>rfl
theorem Z08 (H:List Res):∀ st:Stk,PSub H (ZC st H)
 | []=>PSub.refl _
 | (_,none)::r=>Z08 H r
 | (_,some _)::r=>PSub.drop (Z08 H r)
def StepP (p:Nat) (t:List UInt8) (H:List Res):Nx→Ending→List Res→Prop
 | .go c'=>fun e H'=>∃ C':Jc,e=.returned (.bool true)∧H'=C'.res p t H∧Rel C' c'∧Inv t C'
 | .stop code at_=>fun e H'=>∃ (o n m:Value) (a s:Nat) (k:List UInt8),e=.returned (.bool false)∧H'=.blk p (jrV t o n m a s k code at_) 86::H
theorem StepP.bool {p:Nat} {t:List UInt8} {H H':List Res} {r:Nx} {e:Ending} (h:StepP p t H r e H'):∃ v,e=.returned (.bool v):=by
 cases r with
 | go c' =>
  obtain ⟨C',h1,_⟩:=h
  exact ⟨_,h1⟩
 | stop c a =>
  obtain ⟨_,_,_,_,_,_,h1,_⟩:=h
  exact ⟨_,h1⟩
theorem Z92 {out:List Nd} {is:List Nat} {L:Nat} (h:∀ x∈out,0≤x.kids∧x.kids≤L):∀ x∈Z03 out is,0≤x.kids∧x.kids≤L+1:=by
 intro x hx
 cases is with
 | nil =>
  have:=h x hx
  omega
 | cons i r =>
  rcases Nat.lt_or_ge i out.length with hi|hi
  ·rw [Z03,Z4X out i Nd.more hi] at hx
   rcases List.mem_or_eq_of_mem_set hx with hx|rfl
   ·have:=h x hx
    omega
   ·have:=h (out.getD i default) (by rw [List.getD_eq_getElem?_getD,List.getElem?_eq_getElem hi,Option.getD_some];exact List.getElem_mem hi)
    show 0≤(out.getD i default).kids+1∧(out.getD i default).kids+1≤L+1
    omega
  ·have h1:Z03 out (i::r)=out:=by
    rw [Z03]
    exact List.modify_eq_self (by omega)
   rw [h1] at hx
   have:=h x hx
   omega
theorem Zag {out:List Nd} {is:List Nat} {n:Nd} {j:Nat} (h:j < out.length):((Z03 out is++[n]).getD j default).kind=(out.getD j default).kind:=by
 have h1:j < (Z03 out is).length:=by rw [Z2Q];exact h
 rw [List.getD_eq_getElem?_getD,List.getElem?_append_left h1,←List.getD_eq_getElem?_getD]
 cases is with
 | nil=>rfl
 | cons i r =>
  rw [Z03]
  simp only [List.getD_eq_getElem?_getD,List.getElem?_modify]
  by_cases hij:i=j
  ·subst hij
   rw [List.getElem?_eq_getElem h]
   simp [Nd.more]
  ·cases out[j]?<;>simp [hij]
section
variable {F:World} {M:List Nat} {H:List Res} {p:Nat} {t:List UInt8} {C:Jc} {c:Cf}
theorem Inv.laid (hi:Inv t C) {n:Nd} (hn:n.kids=0) {a':Nat} (h1:C.a < a') (h2:a'≤t.length) {oa':Option Addr} {oc' s':Nat} {k':List UInt8} :
  Inv t { C with oa:=oa',oc:=oc',out:=Z03 C.out (C.st.map (·.1))++[n.named C.k],a:=a',s:=s',k:=k' } where
 at_:=h2
 outl:=by
  have:=hi.outl
  show (Z03 C.out (C.st.map (·.1))++[n.named C.k]).length≤a'
  rw [Z29]
  omega
 kids:=fun x hx=>by
  show 0≤x.kids∧x.kids≤((Z03 C.out (C.st.map (·.1))++[n.named C.k]).length:Nat)
  rw [Z29]
  rcases List.mem_append.1 hx with hx|hx
  ·exact Z92 hi.kids x hx
  ·rw [List.mem_singleton] at hx
   subst hx
   show 0≤n.kids∧n.kids≤_
   rw [hn]
   omega
 idx:=fun x hx=>by
  have:=hi.idx x hx
  show x.1 < (Z03 C.out (C.st.map (·.1))++[n.named C.k]).length
  rw [Z29]
  omega
 kind:=fun x hx=>(Zag (hi.idx x hx)).trans (hi.kind x hx)
 maps:=fun x hx y hy=>by
  have:=hi.maps x hx y hy
  show y.2.length≤a'
  omega
 dep:=hi.dep
theorem Z44 (hr:Rel C c) (hi:Inv t C) {n:Nd} (hn:n.kids=0) {a':Nat} (h1:C.a < a') (h2:a'≤t.length) {e:Ending} {H':List Res}
  (h:Zdt p t C.na C.nc (.slice C.ma C.st.length C.mc) (C.st.map (·.1)) C.out C.k 0 0 (nmR C.ma C.mc C.st::ZC C.st H) a' n e H'):StepP p t H (.go (Cf.behind (Cf.lay { c with p:=a' } n))) e H':=by
 obtain ⟨oa',oc',rfl,rfl⟩:=h
 refine ⟨{ C with oa:=oa',oc:=oc',out:=Z03 C.out (C.st.map (·.1))++[n.named C.k],a:=a',s:=if C.st.length=0 then 6 else 5,k:=[] },rfl,?_,⟨rfl,hr.stk.beh,?_,rfl,hr.stk⟩,hi.laid hn h1 h2⟩
 ·unfold Jc.res Jc.cells
  dsimp only [ouR,opR,opS]
  rw [Z29,List.length_map]
 ·show Z03 C.out (C.st.map (·.1))++[n.named C.k]=bump c.out c.stk++[n.named c.key]
  rw [ZaJ,hr.out,hr.key,hr.stk.fst]
theorem Z56 {code:Int} {at_:Nat} {e:Ending} {H' H₀:List Res} (hp:PSub H H₀) (h:ZaW p t H₀ code at_ e H') {w:World} (hw:St F M w H'):∃ H'',StepP p t H (.stop code at_) e H''∧St F M w H'':=by
 obtain ⟨o,n,m,a,s,k,rfl,rfl⟩:=h
 exact ⟨_,⟨o,n,m,a,s,k,rfl,rfl⟩,hw.psub (PSub.take Z0 hp)⟩
theorem Meets.of_st {P:Program} {g:FuncId} {args:List Value} {H:List Res} {post post':Ending→List Res→Prop} (h:Meets P g args F M H post) (hp:∀ e H' w,post e H'→St F M w H'→∃ H'',post' e H''∧St F M w H''):Meets P g args F M H post':=fun w hw =>
 (h w hw).mono fun e w' ⟨H',h1,h2⟩=>hp e H' w' h1 h2
theorem Z1P {w:List UInt8} {kd:Nat} (hw:∀ x∈w,x≠0) (hwl:w.length≤100) (h0:0 < w.length) (hr:Rel C c) (hi:Inv t C) (hl:t.length≤262144) :
  Meets Tryz.prog 100 [.pointer (some ⟨p,0,none⟩),sV w,.int .i64 kd] F M (C.res p t H) (StepP p t H (match (Z0v t c.p w).bind (fun a _=>Gt.ok a [nd kd]) with
   | .bad e a=>.stop e a
   | .ok a l=>.go (Cf.behind (Cf.lay { c with p:=a } (l.headD (nd 0)))))):=by
 have hk:∀ x∈C.out,0≤x.kids∧x.kids≤1000000:=fun x hx=>by
  have:=hi.kids x hx
  have:=hi.outl
  have:=hi.at_
  omega
 have ho:=hi.outl
 have ha:=hi.at_
 have hd:=hi.dep
 have hx:∀ i r,C.st.map (·.1)=i::r→i < C.out.length:=fun i r h=>by
  cases hs:C.st with
  | nil=>rw [hs] at h;cases h
  | cons x q =>
   rw [hs] at h
   simp only [List.map_cons,List.cons.injEq] at h
   have:=hi.idx x (by rw [hs];exact List.mem_cons_self ..)
   omega
 have h:=Z6c (F:=F) (M:=M) (p:=p) (t:=t) (H:=nmR C.ma C.mc C.st::ZC C.st H) (m:=.slice C.ma C.st.length C.mc) (a:=C.a) (s:=C.s) (k:=C.k) (c:=0) (b:=0) (oa:=C.oa) (na:=C.na) (oc:=C.oc) (nc:=C.nc) (out:=C.out) (is:=C.st.map (·.1)) (w:=w) (kd:=kd) hw hwl hi.at_ hl hx (by omega) (by rw [List.length_map];omega) hk
 have hfit:=Z18 (t:=t) (ws:=w) hi.at_
 rw [hr.p] at h hfit
 have hml:(C.st.map (·.1)).length=C.st.length:=List.length_map _
 cases hx:Z0v t c.p w with
 | ok a' u =>
  rw [hx] at h
  obtain ⟨f1,f2⟩:=hfit a' u hx
  refine (show Meets _ _ _ F M (C.res p t H) _ from ?_)
  have h':=h.mono (post':=StepP p t H (.go (Cf.behind (Cf.lay { c with p:=a' } (nd kd))))) (fun e H' hL=>Z44 hr hi rfl (by rw [hr.p];omega) f2 hL)
  unfold Jc.res Jc.cells
  dsimp only [opR,opS] at h' ⊢
  rw [hml,←hr.p] at h'
  exact h'
 | bad e1 q1 =>
  rw [hx] at h
  have h':=Meets.of_st (post':=StepP p t H (.stop e1 q1)) h (fun e H' w hF hw=>Z56 (PSub.drop (PSub.drop (PSub.drop (Z08 H C.st)))) hF hw)
  unfold Jc.res Jc.cells
  dsimp only [opR,opS] at h' ⊢
  rw [hml,←hr.p] at h'
  exact h'
end
end Go.Proofs.YtophlopiigpbgaaGreatDoor
/- The walks of the program's reader of JSON: single steps. -/
namespace Go.Proofs.YtophlopiigpbgaaGreatDoor
open Sg Go.IntWalk
set_option maxRecDepth 100000
set_option maxHeartbeats 4000000
section
variable {F:World} {M:List Nat} {H:List Res} {p:Nat} {t:List UInt8} {C:Jc} {c:Cf}
theorem Inv.kid2 (hi:Inv t C) (hl:t.length≤262144):∀ x∈C.out,0≤x.kids∧x.kids≤1000000:=fun x hx=>by
 have:=hi.kids x hx
 have:=hi.outl
 have:=hi.at_
 omega
theorem Inv.idx2 (hi:Inv t C):∀ i r,C.st.map (·.1)=i::r→i < C.out.length:=fun i r h=>by
 cases hs:C.st with
 | nil=>rw [hs] at h;cases h
 | cons x q =>
  rw [hs] at h
  simp only [List.map_cons,List.cons.injEq] at h
  have:=hi.idx x (by rw [hs];exact List.mem_cons_self ..)
  omega
theorem Z74 (ha:C.a < t.length) (hr:Rel C c) (hi:Inv t C) (hl:t.length≤262144) :
  Meets Tryz.prog 99 [.pointer (some ⟨p,0,none⟩)] F M (C.res p t H) (StepP p t H (match (numX t c.p).bind (fun a _=>Gt.ok a [Z9W t c.p a]) with
   | .bad e a=>.stop e a
   | .ok a l=>.go (Cf.behind (Cf.lay { c with p:=a } (l.headD (nd 0)))))):=by
 have ho:=hi.outl
 have hd:=hi.dep
 have h:=Z75 (F:=F) (M:=M) (p:=p) (t:=t) (H:=nmR C.ma C.mc C.st::ZC C.st H) (m:=.slice C.ma C.st.length C.mc) (a:=C.a) (s:=C.s) (k:=C.k) (c:=0) (b:=0) (oa:=C.oa) (na:=C.na) (oc:=C.oc) (nc:=C.nc) (out:=C.out) (is:=C.st.map (·.1)) ha hl hi.idx2 (by omega) (by rw [List.length_map];omega) (hi.kid2 hl)
 have hfit:=Z3Y (t:=t) (p:=C.a) (by omega)
 rw [hr.p] at h hfit
 have hml:(C.st.map (·.1)).length=C.st.length:=List.length_map _
 cases hx:numX t c.p with
 | ok a' u =>
  rw [hx] at h
  obtain ⟨f1,f2⟩:=hfit a' u hx
  refine (show Meets _ _ _ F M (C.res p t H) _ from ?_)
  have h':=h.mono (post':=StepP p t H (.go (Cf.behind (Cf.lay { c with p:=a' } (Z9W t c.p a'))))) (fun e H' hL=>Z44 hr hi rfl (by rw [hr.p];omega) f2 hL)
  unfold Jc.res Jc.cells
  dsimp only [opR,opS] at h' ⊢
  rw [hml,←hr.p] at h'
  rw [←hr.p]
  exact h'
 | bad e1 q1 =>
  rw [hx] at h
  have h':=Meets.of_st (post':=StepP p t H (.stop e1 q1)) h (fun e H' w hF hw=>Z56 (PSub.drop (PSub.drop (PSub.drop (Z08 H C.st)))) hF hw)
  unfold Jc.res Jc.cells
  dsimp only [opR,opS] at h' ⊢
  rw [hml,←hr.p] at h'
  exact h'
theorem Z8d (ha:C.a < t.length) (hr:Rel C c) (hi:Inv t C) (hl:t.length≤262144) (hne:C.st≠[]) :
  Meets Tryz.prog 63 [.pointer (some ⟨p,0,none⟩)] F M (C.res p t H) (StepP p t H (.go (endC c))):=by
 obtain ⟨oa,oc,na,nc,ma,mc,out,st,a,s,k⟩:=C
 cases st with
 | nil=>exact absurd rfl hne
 | cons x r =>
  have hd:=hi.dep
  simp only [List.length_cons] at hd
  refine (ZbV (F:=F) (M:=M) (p:=p) (t:=t) (H:=H) (o:=.slice oa out.length oc) (a:=a) (s:=s) (k:=k) (c:=0) (b:=0) (na:=na) (ma:=ma) (nc:=nc) (mc:=mc) (x:=x) (r:=r) (Ho:=ouR oa oc out) (by have:=hi.at_;simp only at this;omega) (by omega)).mono ?_
  rintro e H' ⟨rfl,rfl⟩
  have hst:=hr.stk
  obtain ⟨cp,cs,co,ck,ckey⟩:=c
  cases ck with
  | nil=>exact hst.elim
  | cons z q =>
   refine ⟨⟨oa,oc,na,nc,ma,mc,out,r,a+1,if r.length=0 then 6 else 5,k⟩,rfl,rfl,⟨?_,hst.2.2.beh,hr.out,hr.key,hst.2.2⟩,⟨?_,?_,hi.kids,fun y hy=>hi.idx y (List.mem_cons_of_mem _ hy),fun y hy=>hi.kind y (List.mem_cons_of_mem _ hy),fun y hy z hz=>?_,(show r.length≤32 by omega)⟩⟩
   ·have:=hr.p
    simp only at this
    subst this
    rfl
   ·simp only at ha ⊢
    omega
   ·have:=hi.outl
    simp only at this ⊢
    omega
   ·have:=hi.maps y (List.mem_cons_of_mem _ hy) z hz
    simp only at this ⊢
    omega
theorem Z94 {ch:UInt8} (hch:ch=91∨ch=123) (ha:C.a < t.length) (hr:Rel C c) (hi:Inv t C) (hl:t.length≤262144) :
  Meets Tryz.prog 96 [.pointer (some ⟨p,0,none⟩),.int .u8 (ch.toNat:Nat)] F M (C.res p t H) (StepP p t H (begC c ch)):=by
 obtain ⟨oa,oc,na,nc,ma,mc,out,st,a,s,k⟩:=C
 have hd:=hi.dep
 have ho:=hi.outl
 simp only at hd ho ha
 refine Meets.of_st (Z95 (F:=F) (M:=M) (p:=p) (t:=t) (H:=H) (a:=a) (s:=s) (k:=k) (c:=0) (b:=0) (oa:=oa) (pa:=na) (ma:=ma) (oc:=oc) (pc:=nc) (mc:=mc) (out:=out) (st:=st) (ch:=ch) (by rcases hch with rfl|rfl<;>decide) (by omega) hi.idx2 (by omega) (by omega) (hi.kid2 hl)) ?_
 intro e H' w hp hw
 have hlen:=hr.stk.len
 simp only at hlen
 unfold begC
 have h123:(ch=123)=(ch.toNat=123):=propext UInt8.toNat_inj.symm
 by_cases h32:st.length=32
 ·rw [if_pos h32] at hp
  obtain ⟨rfl,rfl⟩:=hp
  rw [if_pos (by omega)]
  have hcp:=hr.p
  simp only at hcp
  refine ⟨_,⟨.slice oa out.length oc,.slice na st.length nc,.slice ma st.length mc,a,s,k,rfl,rfl⟩,?_⟩
  rw [←hcp]
  exact hw.psub (PSub.take Z0 (PSub.drop (PSub.drop (PSub.drop (Z08 H st)))))
 ·rw [if_neg h32] at hp
  rw [if_neg (by omega)]
  obtain ⟨oa',oc',na',nc',ma',mc',y,rfl,hy,rfl⟩:=hp
  have hfst:=hr.stk.fst
  simp only at hfst
  have hb:bump c.out c.stk=Z03 out (st.map (·.1)):=by
   have:=hr.out
   simp only at this
   rw [ZaJ,this,hfst]
  have hL:=Z29 out (st.map (·.1)) ((nd (if ch.toNat=123 then 7 else 6)).named k)
  refine ⟨_,⟨⟨oa',oc',na',nc',ma',mc',Z03 out (st.map (·.1))++[(nd (if ch.toNat=123 then 7 else 6)).named k],(out.length,y)::st,a+1,if ch.toNat=123 then 3 else 1,[]⟩,rfl,?_,?_,?_⟩,hw⟩
  ·unfold Jc.res Jc.cells
   simp only
   rw [hL]
   rfl
  ·have e1:=hr.p
   have e2:=hr.key
   simp only at e1 e2
   refine ⟨by rw [←e1],?_,?_,rfl,?_⟩
   ·simp only [h123]
   ·simp only [h123]
    rw [hb,e2]
   ·refine ⟨by rw [hb,Z2Q],?_,hr.stk⟩
    simp only [h123]
    by_cases h7:ch.toNat=123
    ·rw [if_pos h7] at hy ⊢
     obtain ⟨mb,rfl⟩:=hy
     exact fun x=>rfl
    ·rw [if_neg h7] at hy ⊢
     subst hy
     trivial
  ·have hI:=hi.laid (n:=nd (if ch.toNat=123 then 7 else 6)) rfl (a':=a+1) (by simp only;omega) (by omega) (oa':=oa') (oc':=oc') (s':=if ch.toNat=123 then 3 else 1) (k':=[])
   refine ⟨hI.at_,hI.outl,hI.kids,?_,?_,?_,by simp only [List.length_cons];omega⟩
   ·intro x hx
    rcases List.mem_cons.1 hx with rfl|hx
    ·show out.length < _
     rw [hL]
     omega
    ·exact hI.idx x hx
   ·intro x hx
    rcases List.mem_cons.1 hx with rfl|hx
    ·show ((Z03 out (st.map (·.1))++[(nd (if ch.toNat=123 then 7 else 6)).named k]).getD out.length default).kind=_
     have:(Z03 out (st.map (·.1))).length=out.length:=Z2Q ..
     rw [List.getD_eq_getElem?_getD,List.getElem?_append_right (by omega),this]
     simp only [Nat.sub_self,List.getElem?_cons_zero,Option.getD_some]
     by_cases h7:ch.toNat=123
     ·rw [if_pos h7] at hy ⊢
      obtain ⟨mb,rfl⟩:=hy
      rfl
     ·rw [if_neg h7] at hy ⊢
      subst hy
      rfl
    ·exact hI.kind x hx
   ·intro x hx z hz
    rcases List.mem_cons.1 hx with rfl|hx
    ·by_cases h7:ch.toNat=123
     ·rw [if_pos h7] at hy
      obtain ⟨mb,rfl⟩:=hy
      cases hz
      exact Nat.zero_le _
     ·rw [if_neg h7] at hy
      subst hy
      cases hz
    ·exact hI.maps x hx z hz
end
end Go.Proofs.YtophlopiigpbgaaGreatDoor
/- The walks of the program's reader of JSON: values. -/
namespace Go.Proofs.YtophlopiigpbgaaGreatDoor
open Sg Go.IntWalk
set_option maxRecDepth 100000
set_option maxHeartbeats 4000000
section
variable {F:World} {M:List Nat} {H:List Res} {p:Nat} {t:List UInt8} {C:Jc} {c:Cf}
theorem ZbB {n:Nd} {a':Nat} (hi:Inv t C) (hl:t.length≤262144) :
  Meets Tryz.prog 98 [.pointer (some ⟨p,0,none⟩),.agg ⟨ndV n⟩] F M (.blk p (jrV t (.slice C.oa C.out.length C.oc) (.slice C.na C.st.length C.nc) (.slice C.ma C.st.length C.mc) a' C.s C.k 0 0) 86::ouR C.oa C.oc C.out::opS C.na C.nc C.st::nmR C.ma C.mc C.st::ZC C.st H)
   (fun e H'=>∃ oa' oc',e=.returned (.tuple ⟨[]⟩)∧H'=.blk p (jrV t (.slice oa' (C.out.length+1) oc') (.slice C.na C.st.length C.nc) (.slice C.ma C.st.length C.mc) a' C.s [] 0 0) 86::ouR oa' oc' (Z03 C.out (C.st.map (·.1))++[n.named C.k])::opS C.na C.nc C.st::nmR C.ma C.mc C.st::ZC C.st H):=by
 have ho:=hi.outl
 have hat:=hi.at_
 have hd:=hi.dep
 have h:=Z43 (F:=F) (M:=M) (p:=p) (t:=t) (H:=nmR C.ma C.mc C.st::ZC C.st H) (m:=.slice C.ma C.st.length C.mc) (a:=a') (s:=C.s) (k:=C.k) (c:=0) (b:=0) (oa:=C.oa) (na:=C.na) (oc:=C.oc) (nc:=C.nc) (out:=C.out) (is:=C.st.map (·.1)) (n:=n) hi.idx2 (by omega) (by rw [List.length_map];omega) (hi.kid2 hl)
 have hml:(C.st.map (·.1)).length=C.st.length:=List.length_map _
 dsimp only [opR,opS] at h ⊢
 rw [hml] at h
 exact h
theorem Zd3 (hr:Rel C c) (hi:Inv t C) {n:Nd} (hn:n.kids=0) {a':Nat} (h1:C.a < a') (h2:a'≤t.length) (oa':Option Addr) (oc':Nat) :
  StepP p t H (.go (Cf.behind (Cf.lay { c with p:=a' } n))) (.returned (.bool true)) (.blk p (jrV t (.slice oa' (C.out.length+1) oc') (.slice C.na C.st.length C.nc) (.slice C.ma C.st.length C.mc) a' (if C.st.length=0 then 6 else 5) [] 0 0) 86::ouR oa' oc' (Z03 C.out (C.st.map (·.1))++[n.named C.k])::opS C.na C.nc C.st::nmR C.ma C.mc C.st::ZC C.st H):=by
 refine Z44 hr hi hn h1 h2 ⟨oa',oc',rfl,?_⟩
 dsimp only [opR,opS]
 rw [List.length_map]
theorem ZbN {q:Nat} {ch:UInt8} (h:ch.toNat=45∨48≤ch.toNat∧ch.toNat≤57):ZT Zb t q ch=(numX t q).bind fun a _=>.ok a [Z9W t q a]:=by
 have e1:∀ n:UInt8,(ch=n)↔(ch.toNat=n.toNat):=fun n=>UInt8.toNat_inj.symm
 have e3:(ZA ch=true)↔(48≤ch.toNat∧ch.toNat≤57):=by
  unfold ZA
  simp only [Bool.and_eq_true,decide_eq_true_eq]
  rfl
 have k1:¬ch=34:=fun hh=>by
  have:=(e1 34).1 hh
  have h34:(34:UInt8).toNat=34:=rfl
  omega
 unfold ZT
 rw [if_neg k1,if_pos (by rw [e1,e3];exact h)]
 rfl
theorem ZbM {q:Nat} {ch:UInt8} (h:¬(ch.toNat=45∨48≤ch.toNat∧ch.toNat≤57)):ZT Zb t q ch=if ch.toNat=34 then (ZL t (q+1)).bind fun a s=>.ok a [{ nd 5 with text:=s }] else if ch.toNat=110 then (Z0v t q [110,117,108,108]).bind fun a _=>.ok a [nd 1] else
  if ch.toNat=102 then (Z0v t q [102,97,108,115,101]).bind fun a _=>.ok a [nd 2] else if ch.toNat=116 then (Z0v t q [116,114,117,101]).bind fun a _=>.ok a [nd 3] else .bad 31 q:=by
 have e1:∀ n:UInt8,(ch=n)↔(ch.toNat=n.toNat):=fun n=>UInt8.toNat_inj.symm
 have e3:(ZA ch=true)↔(48≤ch.toNat∧ch.toNat≤57):=by
  unfold ZA
  simp only [Bool.and_eq_true,decide_eq_true_eq]
  rfl
 unfold ZT
 by_cases h34:ch.toNat=34
 ·rw [if_pos h34,if_pos ((e1 34).2 h34)]
 rw [if_neg h34,if_neg (fun hh=>h34 ((e1 34).1 hh)),if_neg (fun hh=>h (hh.imp (e1 45).1 e3.1))]
 by_cases h110:ch.toNat=110
 ·rw [if_pos h110,if_pos ((e1 110).2 h110)]
 rw [if_neg h110,if_neg (fun hh=>h110 ((e1 110).1 hh))]
 by_cases h102:ch.toNat=102
 ·rw [if_pos h102,if_pos ((e1 102).2 h102)]
 rw [if_neg h102,if_neg (fun hh=>h102 ((e1 102).1 hh))]
 by_cases h116:ch.toNat=116
 ·rw [if_pos h116,if_pos ((e1 116).2 h116)]
 rw [if_neg h116,if_neg (fun hh=>h116 ((e1 116).1 hh))]
theorem Z8n (hT:Tabs F M) {ch:UInt8} (ha:C.a < t.length) (hr:Rel C c) (hi:Inv t C) (hl:t.length≤262144) :
  Meets Tryz.prog 64 [.pointer (some ⟨p,0,none⟩),.int .u8 (ch.toNat:Nat)] F M (C.res p t H) (StepP p t H (valC Zb t c ch)):=by
 have hu:=ch.toNat_lt
 have e1:∀ n:UInt8,(ch=n)↔(ch.toNat=n.toNat):=fun n=>UInt8.toNat_inj.symm
 have hval:valC Zb t c ch=if ch.toNat=91∨ch.toNat=123 then begC c ch else (match ZT Zb t c.p ch with
  | .bad e a=>.stop e a
  | .ok a l=>.go (Cf.behind (Cf.lay { c with p:=a } (l.headD (nd 0))))):=by
  unfold valC
  by_cases hh:ch.toNat=91∨ch.toNat=123
  ·rw [if_pos hh,if_pos (by rw [e1,e1];exact hh)]
  ·rw [if_neg hh,if_neg (by rw [e1,e1];exact hh)]
   rfl
 rw [hval]
 refine Meets.enter Tryz.func64 rfl rfl ?_
 by_cases h91:ch.toNat=91∨ch.toNat=123
 ·rw [if_pos h91]
  have hb:=Z94 (F:=F) (M:=M) (p:=p) (H:=H) (ch:=ch) (by rw [e1,e1];exact h91) ha hr hi hl
  by_cases h9:ch.toNat=91
  ·repeat' (first|refine Sg.Y8 ?_|(apply T.gcase;apply rfl;apply rfl;all_goals intro _)|fail)
   refine T.call rfl rfl hb ?_
   intro e H' hS
   obtain ⟨v,rfl⟩:=hS.bool
   repeat' (first|refine Sg.Y10 ?_|fail)
   exact ⟨_,PSub.refl _,hS⟩
  ·have h12:ch.toNat=123:=h91.resolve_left h9
   repeat' (first|refine Sg.Y8 ?_|(apply S.condQ;apply rfl;all_goals intro _)|(apply T.gcase;apply rfl;apply rfl;all_goals intro _)|fail)
   refine T.call rfl rfl hb ?_
   intro e H' hS
   obtain ⟨v,rfl⟩:=hS.bool
   repeat' (first|refine Sg.Y10 ?_|fail)
   exact ⟨_,PSub.refl _,hS⟩
 rw [if_neg h91]
 have h9:¬ch.toNat=91:=fun h=>h91 (.inl h)
 have h12:¬ch.toNat=123:=fun h=>h91 (.inr h)
 clear h91 hval
 by_cases hnum:ch.toNat=45∨48≤ch.toNat∧ch.toNat≤57
 ·rw [ZbN hnum]
  have hb:=Z74 (F:=F) (M:=M) (p:=p) (H:=H) ha hr hi hl
  have h34:¬ch.toNat=34:=by omega
  by_cases h45:ch.toNat=45
  ·repeat' (first|refine Sg.Y8 ?_|(apply S.condQ;apply rfl;all_goals intro _)|(apply T.gcase;apply rfl;apply rfl;all_goals intro _)|fail)
   refine T.call rfl rfl hb ?_
   intro e H' hS
   obtain ⟨v,rfl⟩:=hS.bool
   repeat' (first|refine Sg.Y10 ?_|fail)
   exact ⟨_,PSub.refl _,hS⟩
  ·obtain ⟨h48,h57⟩:=hnum.resolve_left h45
   repeat' (first|refine Sg.Y8 ?_|(apply S.condQ;apply rfl;all_goals intro _)|(apply T.gcase;apply rfl;apply rfl;all_goals intro _)|fail)
   refine T.call rfl rfl hb ?_
   intro e H' hS
   obtain ⟨v,rfl⟩:=hS.bool
   repeat' (first|refine Sg.Y10 ?_|fail)
   exact ⟨_,PSub.refl _,hS⟩
 rw [ZbM hnum]
 have h45:¬ch.toNat=45:=fun h=>hnum (.inl h)
 by_cases h34:ch.toNat=34
 ·rw [if_pos h34]
  clear hnum
  unfold Jc.res Jc.cells
  repeat' (first|refine Sg.Y8 ?_|(apply S.condQ;apply rfl;all_goals intro _)|(apply T.gcase;apply rfl;apply rfl;all_goals intro _)|fail)
  refine T.call rfl rfl (Z3P hT (by exact ha) hl) ?_
  have hfit:=ZP (t:=t) (p:=C.a+1) (by omega)
  rw [hr.p] at hfit ⊢
  cases hx:ZL t (c.p+1) with
  | bad e1 q1 =>
   rintro _ _ ⟨a',rfl,rfl⟩
   repeat' (first|refine Sg.Y9 ?_|fail)
   exact ⟨_,PSub.take Z0 (PSub.drop (PSub.drop (PSub.drop (Z08 H C.st)))),_,_,_,_,_,_,rfl,rfl⟩
  | ok a' x =>
   obtain ⟨f1,f2⟩:=hfit a' x hx
   rintro _ _ ⟨rfl,rfl⟩
   repeat' (first|refine Sg.Y9 ?_|fail)
   refine T.call rfl rfl (ZbB (n:={ nd 5 with text:=x }) hi hl) ?_
   rintro _ _ ⟨oa',oc',rfl,rfl⟩
   repeat' (first|refine Sg.Y10 ?_|fail)
   refine T.call rfl rfl Z1w ?_
   rintro _ _ ⟨rfl,rfl⟩
   repeat' (first|refine Sg.Y9 ?_|fail)
   exact ⟨_,PSub.refl _,Zd3 hr hi rfl (by rw [hr.p];omega) f2 oa' oc'⟩
 rw [if_neg h34]
 have hlo:¬(48≤ch.toNat∧ch.toNat≤57):=fun h=>hnum (.inr h)
 clear hnum
 by_cases h110:ch.toNat=110
 ·rw [if_pos h110]
  have h57:¬ch.toNat≤57:=by omega
  have h48:48≤ch.toNat:=by omega
  have hb:=Z1P (F:=F) (M:=M) (p:=p) (H:=H) (w:=[110,117,108,108]) (kd:=1) (by decide) (by decide) (by decide) hr hi hl
  repeat' (first|refine Sg.Y8 ?_|(apply S.condQ;apply rfl;all_goals intro _)|(apply T.gcase;apply rfl;apply rfl;all_goals intro _)|fail)
  refine T.call rfl rfl hb ?_
  intro e H' hS
  obtain ⟨v,rfl⟩:=hS.bool
  repeat' (first|refine Sg.Y10 ?_|fail)
  exact ⟨_,PSub.refl _,hS⟩
 rw [if_neg h110]
 by_cases h102:ch.toNat=102
 ·rw [if_pos h102]
  have h57:¬ch.toNat≤57:=by omega
  have h48:48≤ch.toNat:=by omega
  have hb:=Z1P (F:=F) (M:=M) (p:=p) (H:=H) (w:=[102,97,108,115,101]) (kd:=2) (by decide) (by decide) (by decide) hr hi hl
  repeat' (first|refine Sg.Y8 ?_|(apply S.condQ;apply rfl;all_goals intro _)|(apply T.gcase;apply rfl;apply rfl;all_goals intro _)|fail)
  refine T.call rfl rfl hb ?_
  intro e H' hS
  obtain ⟨v,rfl⟩:=hS.bool
  repeat' (first|refine Sg.Y10 ?_|fail)
  exact ⟨_,PSub.refl _,hS⟩
 rw [if_neg h102]
 by_cases h116:ch.toNat=116
 ·rw [if_pos h116]
  have h57:¬ch.toNat≤57:=by omega
  have h48:48≤ch.toNat:=by omega
  have hb:=Z1P (F:=F) (M:=M) (p:=p) (H:=H) (w:=[116,114,117,101]) (kd:=3) (by decide) (by decide) (by decide) hr hi hl
  repeat' (first|refine Sg.Y8 ?_|(apply S.condQ;apply rfl;all_goals intro _)|(apply T.gcase;apply rfl;apply rfl;all_goals intro _)|fail)
  refine T.call rfl rfl hb ?_
  intro e H' hS
  obtain ⟨v,rfl⟩:=hS.bool
  repeat' (first|refine Sg.Y10 ?_|fail)
  exact ⟨_,PSub.refl _,hS⟩
 rw [if_neg h116]
 unfold Jc.res Jc.cells
 rw [hr.p]
 by_cases h48:48≤ch.toNat
 ·have h57:¬ch.toNat≤57:=by omega
  repeat' (first|refine Sg.Y8 ?_|(apply S.condQ;apply rfl;all_goals intro _)|(apply T.gcase;apply rfl;apply rfl;all_goals intro _)|fail)
  refine T.call rfl rfl ZK ?_
  rintro _ _ ⟨rfl,rfl⟩
  repeat' (first|refine Sg.Y10 ?_|fail)
  exact ⟨_,PSub.take Z0 (PSub.drop (PSub.drop (PSub.drop (Z08 H C.st)))),_,_,_,_,_,_,rfl,rfl⟩
 ·repeat' (first|refine Sg.Y8 ?_|(apply S.condQ;apply rfl;all_goals intro _)|(apply T.gcase;apply rfl;apply rfl;all_goals intro _)|fail)
  refine T.call rfl rfl ZK ?_
  rintro _ _ ⟨rfl,rfl⟩
  repeat' (first|refine Sg.Y10 ?_|fail)
  exact ⟨_,PSub.take Z0 (PSub.drop (PSub.drop (PSub.drop (Z08 H C.st)))),_,_,_,_,_,_,rfl,rfl⟩
end
end Go.Proofs.YtophlopiigpbgaaGreatDoor
/- The walks of the program's reader of JSON: names. -/
namespace Go.Proofs.YtophlopiigpbgaaGreatDoor
open Sg Go.IntWalk
set_option maxRecDepth 100000
set_option maxHeartbeats 4000000
section
variable {F:World} {M:List Nat} {H:List Res} {p:Nat} {t:List UInt8} {C:Jc} {c:Cf}
theorem Z2H {t:List UInt8}:∀ {f q a:Nat} {acc x:List UInt8},q≤t.length→ZD t f q acc=.ok a x→x.length+4*q≤acc.length+4*a
 | 0,q,a,acc,x,_,h=>by rw [ZD] at h;cases h
 | f+1,q,a,acc,x,hq,h=>by
  rcases Nat.lt_or_ge q t.length with h6|h6
  ·have hc:t[q]?=some (t.getD q 0):=by simp [List.getD,h6]
   rw [Z63 hc] at h
   split at h
   ·cases h
   ·split at h
    ·cases h
     omega
    ·split at h
     ·cases hx:escX t q with
      | bad e1 q1=>rw [hx] at h;cases h
      | ok a1 u =>
       rw [hx] at h
       have hf:=Z1V (t:=t) (fr:=q) a1 u hx
       have:=Z2H (q:=a1) (by omega) h
       have:=Z7A u
       rw [List.length_append] at *
       omega
     ·split at h
      ·have:=Z2H (q:=q+1) (by omega) h
       rw [List.length_append] at this
       simp only [List.length_cons,List.length_nil] at this
       omega
      ·cases hx:Z2D t q (t.getD q 0) with
       | bad e1 q1=>rw [hx] at h;cases h
       | ok a1 u =>
        rw [hx] at h
        have hf:=Z0E (t:=t) (p:=q) (c:=t.getD q 0) h6 a1 u hx
        have:=Z2H (q:=a1) (by omega) h
        rw [List.length_append,List.length_take] at this
        omega
  ·rw [ZD,List.getElem?_eq_none h6] at h
   cases h
theorem Za2 {o n:Value} {a s:Nat} {k:List UInt8} {c b:Int} {Ho Hn:Res} {ma:Option Addr} {mc i mb:Nat} {m:Ents} {r:Stk} (hT:Tabs F M) (ha:a < t.length) (hl:t.length≤262144) (hs:r.length≤1000000) (hm:m.length≤1000000) :
  Meets Tryz.prog 66 [.pointer (some ⟨p,0,none⟩)] F M (.blk p (jrV t o n (.slice ma (r.length+1) mc) a s k c b) 86::Ho::Hn::nmR ma mc ((i,some (mb,m))::r)::mpR mb m::H)
   (match ZL t (a+1) with
    | .bad c1 q1=>fun e H'=>∃ a':Nat,e=.returned (.bool false)∧H'=.blk p (jrV t o n (.slice ma (r.length+1) mc) a' s k c1 q1) 86::Ho::Hn::nmR ma mc ((i,some (mb,m))::r)::mpR mb m::H
    | .ok a' x=>if 0 < (eget m x).getD 0 then fun e H'=>e=.returned (.bool false)∧H'=.blk p (jrV t o n (.slice ma (r.length+1) mc) a' s k 34 a) 86::Ho::Hn::nmR ma mc ((i,some (mb,m))::r)::mpR mb m::H
     else fun e H'=>e=.returned (.bool true)∧H'=.blk p (jrV t o n (.slice ma (r.length+1) mc) a' 4 x c b) 86::Ho::Hn::nmR ma mc ((i,some (mb,m))::r)::mpR mb (eput m x 1)::H):=by
 have e1:(((r.length+1:Nat)):Int) - 1=((r.length:Nat):Int):=by omega
 have htop:=Z6I mpV (i,some (mb,m)) r
 have hupl:(upL mpV ((i,some (mb,m))::r)).length=r.length+1:=by rw [Z6J];rfl
 refine Meets.enter Tryz.func66 rfl rfl ?_
 repeat' (first|refine Sg.Y1 ?_|fail)
 refine T.call rfl rfl (Z3P hT ha hl) ?_
 have hfit:=ZP (t:=t) (p:=a+1) (by omega)
 have hlen:=fun a' x=>Z2H (t:=t) (f:=t.length+1 - (a+1)) (q:=a+1) (a:=a') (x:=x) (acc:=[]) (by omega)
 cases hx:ZL t (a+1) with
 | bad c1 q1 =>
  rintro _ _ ⟨a',rfl,rfl⟩
  repeat' (first|refine Sg.Y1 ?_|fail)
  exact ⟨_,PSub.refl _,a',rfl,rfl⟩
 | ok a' x =>
  obtain ⟨f1,f2⟩:=hfit a' x hx
  have hxl:x.length≤maxLen:=by
   have:=hlen a' x hx
   simp only [List.length_nil,maxLen] at this ⊢
   omega
  have hml:m.length < maxLen:=by simp only [maxLen];omega
  rintro _ _ ⟨rfl,rfl⟩
  simp only
  by_cases hg:0 < (eget m x).getD 0
  ·rw [if_pos hg]
   repeat' (first|(apply T.subI;apply rfl;apply rfl;omega;apply rfl;rw [e1])|(apply T.loadE;apply rfl;apply rfl;infer_instance;exact htop;apply rfl)|refine Sg.Y3 ?_|(apply S.condQ;apply rfl;all_goals intro _)|fail)
   refine T.call rfl rfl ZZ ?_
   rintro _ _ ⟨rfl,rfl⟩
   repeat' (first|refine Sg.Y2 ?_|fail)
   exact ⟨_,PSub.refl _,rfl,rfl⟩
  ·rw [if_neg hg]
   repeat' (first|(apply T.subI;apply rfl;apply rfl;omega;apply rfl;rw [e1])|(apply T.loadE;apply rfl;apply rfl;infer_instance;exact htop;apply rfl)|refine Sg.Y3 ?_|(apply S.condQ;apply rfl;all_goals intro _)|fail)
   refine Sr.front mb ?_
   refine T.mapPutT rfl rfl rfl hxl hml rfl ?_
   refine Sr.front p ?_
   repeat' (first|refine Sg.Y1 ?_|fail)
   exact ⟨_,PSub.take Z0 (PSub.take (Z1 Z0) (PSub.take (Z1 Z0) (PSub.take (Z1 Z0) (PSub.take Z0 (PSub.refl _))))),rfl,rfl⟩
end
end Go.Proofs.YtophlopiigpbgaaGreatDoor
