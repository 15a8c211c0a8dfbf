/- Texts put together by a program: LwA Bld Blda SplA SplB LwB PlnB. -/
import Derived.Test.YtophlopiigpbgaaGreatDoorMk
import Derived.Test.YtophlopiigpbgaaGreatDoorMb
import Derived.Laws.StructEq
import Derived.ChangeKeysEq
import Derived.Test.YtophlopiigpbgaaGreatDoorMc
import Derived.Lib.Builder
import Derived.Lib.MakeNoZero
import Derived.Lib.UnsafeStr
import Derived.Laws.Externs
import Derived.Laws.CopyRow
import Derived.Test.YtophlopiigpbgaaGreatDoorFacts
import Derived.Test.YtophlopiigpbgaaGreatDoorMd
import Derived.Lib.Bytealg
import Derived.Test.YtophlopiigpbgaaGreatDoorMg
set_option linter.unusedVariables false
set_option linter.unusedSimpArgs false
/- The law's small functions: nodes and texts held against each other, copies. -/
namespace Sg
def ndEq (a b:Nd):Bool:=a.kind==b.kind&&a.key==b.key&&a.text==b.text&&a.whole==b.whole&&a.int==b.int&&a.kids==b.kids
theorem Zbw (a b:Nd):ndEq a b=true↔a=b:=by
 obtain ⟨a1,a2,a3,a4,a5,a6⟩:=a
 obtain ⟨b1,b2,b3,b4,b5,b6⟩:=b
 simp [ndEq,and_assoc]
theorem Za0 (a:Nd):ndEq a a=true:=(Zbw a a).2 rfl
def Z5o (a b:List Nd):Bool:=decide (a.length=b.length)&&(List.range a.length).all fun i=>ndEq (a.getD i default) (b.getD i default)
theorem Z4W (a:List Nd):Z5o a a=true:=by simp [Z5o,Za0]
end Sg
namespace Go.Proofs.YtophlopiigpbgaaGreatDoor
open Sg Go Go.RowKit Go.IntWalk
set_option maxRecDepth 100000
set_option maxHeartbeats 4000000
section
variable {P:Program} {w:World} {d:Nat} {xs ys:Array Value} {f:Field} {fs:List Field}
theorem Zaz {r : Bool} {x y : Value} (hk : P.plainKey f.type = true) (hx : xs[f.offset]? = some x) (hy : ys[f.offset]? = some y) (hn : f.name ≠ "_") (he : (Op.equalIn d f.type x y).run P w = .ok r w) : (Op.eqFields d xs ys (f :: fs)).run P w = if r = true then (Op.eqFields d xs ys fs).run P w else .ok false w := by
 simp only [Op.eqFields,Sem.run_ite,Sem.run_bind,if_pos hn,run_part_plain w hk hx,run_part_plain w hk hy,Result.andThen_ok,he]
 cases r<;>simp
theorem Z7h {k k1 : IntKind} {a b : Int} (hu : P.underlying f.type = some (.int k)) (hx : xs[f.offset]? = some (.int k1 a)) (hy : ys[f.offset]? = some (.int k1 b)) (hn : f.name ≠ "_") : (Op.eqFields (d + 1) xs ys (f :: fs)).run P w = if (a == b) = true then (Op.eqFields (d + 1) xs ys fs).run P w else .ok false w :=
 Zaz (by simp [Program.plainKey,hu]) hx hy hn (run_equalIn_int w d f.type k1 k a b hu)
theorem ZbU {a b : Bool} (hu : P.underlying f.type = some .bool) (hx : xs[f.offset]? = some (.bool a)) (hy : ys[f.offset]? = some (.bool b)) (hn : f.name ≠ "_") : (Op.eqFields (d + 1) xs ys (f :: fs)).run P w = if (a == b) = true then (Op.eqFields (d + 1) xs ys fs).run P w else .ok false w :=
 Zaz (by simp [Program.plainKey,hu]) hx hy hn (run_equalIn_bool w d f.type a b hu)
theorem Zay {a b : List UInt8} (hu : P.underlying f.type = some .string) (hx : xs[f.offset]? = some (sV a)) (hy : ys[f.offset]? = some (sV b)) (hn : f.name ≠ "_") : (Op.eqFields (d + 1) xs ys (f :: fs)).run P w = if (a == b) = true then (Op.eqFields (d + 1) xs ys fs).run P w else .ok false w :=
 Zaz (by simp [Program.plainKey,hu]) hx hy hn (by
  have h:=run_equalIn_string w d f.type (ByteArray.mk a.toArray) (ByteArray.mk b.toArray) hu
  rw [ByteArray.toList_eq,ByteArray.toList_eq] at h
  exact h)
end
theorem ZcZ (a b:Nd) (w:World):(Op.equalIn 10000 34 (.agg ⟨ndV a⟩) (.agg ⟨ndV b⟩)).run Tryz.prog w=.ok (ndEq a b) w:=by
 have hS:Tryz.prog.underlying 34=some (.struct (Tryz.prog.fieldsOf 34)):=by kernel_rfl
 have hp:Tryz.prog.stoodInHeld 34=false:=by kernel_rfl
 rw [show (10000:Nat)=9999+1 from rfl,run_equalIn_struct w 9999 34 _ _ hS hp]
 simp only [Program.fieldsOf,Tryz.underlying34]
 rw [Z7h Tryz.underlying32 rfl rfl (by decide),Zay Tryz.underlying9 rfl rfl (by decide),Zay Tryz.underlying9 rfl rfl (by decide),ZbU Tryz.underlying4 rfl rfl (by decide),Z7h Tryz.underlying2 rfl rfl (by decide),Z7h Tryz.underlying3 rfl rfl (by decide)]
 unfold ndEq
 simp only [Op.eqFields,Sem.run_pure]
 cases a.kind==b.kind<;>cases a.key==b.key<;>cases a.text==b.text<;>cases a.whole==b.whole<;>cases a.int==b.int<;>cases a.kids==b.kids<;>rfl
section
variable {c:Ctx} {ds:List Deferred} {H:List Res} {ops:Array Oper} {l:List Oper} {κ:List Res→Env→Prop} {q:Sg.Mode} {e:Env} {ty:TypeId} {pos:String} {aft:Array Edge}
theorem Zbv (op:BinOp) (x y:Operand) (a b:Nd) (w:World):(eqGuard op 34 x y (.agg ⟨ndV a⟩) (.agg ⟨ndV b⟩)).run Tryz.prog w=.ok () w:=run_eqGuard_agg w op _ x y _ _ (by kernel_rfl)
theorem T.neqNd {x y:Operand} {d:Tmp} {a b:Nd} {u:TypeId} (hP:c.P=Tryz.prog) (hx:ev e x=some (.agg ⟨ndV a⟩)) (hy:ev e y=some (.agg ⟨ndV b⟩)) (hlt:Nat.blt d c.fn.ntmps=true) (hk:Sr q c ds H ops l κ ((d,.bool (!(ndEq a b)))::e)):Sr q c ds H ops (⟨some d,.binOp .neq 34 x y u,ty,pos,aft,none⟩::l) κ e :=
 Sr.p (fun w ac _ ha=>by
  have h:=ZcZ a b w
  have hg:=Zbv .neq x y a b w
  rw [←hP] at h hg
  simp only [execOp,ha.ev hx,ha.ev hy,Sem.run_bind,hg,Result.andThen_ok,run_neq_struct,h]
  rfl) rfl hlt rfl hk
end
section
variable {F:World} {M:List Nat} {H:List Res}
theorem Z2n {a b:List Nd} {aa ba:Option Addr} {ac bc:Nat} (hA:Rd F M H aa (a.flatMap ndV)) (hB:Rd F M H ba (b.flatMap ndV)) (hl:a.length≤1000000000000) (hl2:b.length≤1000000000000) :
  Meets Tryz.prog 10 [.slice aa a.length ac,.slice ba b.length bc] F M H (fun e H'=>e=.returned (.bool (Z5o a b))∧H'=H):=by
 refine Meets.enter Tryz.func10 rfl rfl ?_
 by_cases h0:a.length=b.length
 ·repeat' (first|refine Sg.Y8 ?_|(apply S.condQ;apply rfl;all_goals intro _)|fail)
  refine S.loopE 0 [0,1] (fun R b' μ H' e=>∃ i:Nat,H'=R∧e=(5,.int .i64 i)::b'∧(i≤a.length∧∀ j,j < i→ndEq (a.getD j default) (b.getD j default)=true)∧μ=a.length - i) rfl rfl ?_ _ _ ⟨0,rfl,rfl,⟨Nat.zero_le _,fun j hj=>by omega⟩,rfl⟩ (by repeat' first|exact trivial|refine And.intro rfl ?_)
  rintro _ _ _ ⟨i,rfl,rfl,⟨h1,h2⟩,rfl⟩ ih
  by_cases h3:i < a.length
  ·cases hq:ndEq (a.getD i default) (b.getD i default) with
   | true =>
    repeat' (first|((with_reducible apply T.neqNd rfl);(iterate 3 apply rfl);rw [hq])|refine Sg.Y8 ?_|(apply S.condQ;apply rfl;all_goals intro _)|fail)
    exact ih _ _ _ _ ⟨i+1,rfl,rfl,⟨by omega,fun j hj=>by
     rcases Nat.lt_succ_iff_lt_or_eq.1 hj with hj|rfl
     ·exact h2 j hj
     ·exact hq⟩,rfl⟩ (by omega) (by repeat' first|exact trivial|refine And.intro rfl ?_)
   | false =>
    have hq2:Z5o a b=false:=by
     unfold Z5o
     rw [Bool.and_eq_false_iff]
     refine .inr ?_
     rw [List.all_eq_false]
     exact ⟨i,List.mem_range.2 h3,by rw [hq];simp⟩
    rw [hq2]
    repeat' (first|((with_reducible apply T.neqNd rfl);(iterate 3 apply rfl);rw [hq])|refine Sg.Y8 ?_|(apply S.condQ;apply rfl;all_goals intro _)|fail)
    exact ⟨_,PSub.refl _,rfl,rfl⟩
  ·obtain rfl:i=a.length:=by omega
   have hq:Z5o a b=true:=by
    unfold Z5o
    rw [decide_eq_true h0,Bool.true_and,List.all_eq_true]
    exact fun j hj=>h2 j (List.mem_range.1 hj)
   rw [hq]
   repeat' (first|refine Sg.Y8 ?_|(apply S.condQ;apply rfl;all_goals intro _)|fail)
   exact ⟨_,PSub.refl _,rfl,rfl⟩
 ·have hq:Z5o a b=false:=by
   unfold Z5o
   rw [decide_eq_false h0,Bool.false_and]
  rw [hq]
  repeat' (first|refine Sg.Y8 ?_|(apply S.condQ;apply rfl;all_goals intro _)|fail)
  exact ⟨_,PSub.refl _,rfl,rfl⟩
theorem Z7n {v:List Nd} {va:Option Addr} {vc:Nat} (hR:Rd F M H va (v.flatMap ndV)) (hl:v.length≤1000000000) :
  Meets Tryz.prog 6 [.slice va v.length vc] F M H (fun e H'=>∃ oa oc,e=.returned (.slice oa v.length oc)∧H'=noR oa oc v::H):=by
 refine Meets.enter Tryz.func6 rfl rfl ?_
 refine S.nilrow 34 6 ?_
 repeat' (first|(apply Sr.same;refine T.appendAllF (g:=ndV) (xs:=[]) (us:=v) rfl rfl inferInstance inferInstance rfl (fun _=>rfl) (fun _=>rfl) rfl rfl (by constructor<;>omega) rfl ?_;intro oa oc)|refine Sg.Y9 ?_|fail)
 rw [Nat.zero_add,List.nil_append]
 skip
 exact ⟨_,PSub.refl _,oa,oc,rfl,rfl⟩
abbrev txR (a:Option Addr) (c:Nat) (l:List (List UInt8)):Res:=.row a c 9 1 l.length (l.map sV)
end
end Go.Proofs.YtophlopiigpbgaaGreatDoor
/- Rules for what a builder of texts needs: pointers by way of unsafe ones, calls of functions without a body, bytes turned to a text and frozen. -/
namespace Sg
open Go Go.RowKit
section
variable {c:Ctx} {ds:List Deferred} {H:List Res} {ops:Array Oper} {l:List Oper} {κ:List Res→Env→Prop} {q:Mode} {dr:Bool} {e:Env} {ty:TypeId} {pos:String} {aft:Array Edge}
theorem St.shape {F:World} {M:List Nat} {w:World} {b:Nat} {vs:List Value} {E:TypeId} (h:St F M w H) (hm : .blk b vs E∈H):w.shape? b=some (E,vs.length):=by
 have hb:w.heap[b]?=some (.cells ⟨vs⟩ E (0,0)):=h.res _ hm
 simp [World.shape?,hb]
theorem T.toUnsafe {x:Operand} {d b:Nat} {s t t' E by_ sz:Nat} {z:Value} {vs:List Value} [HU c.P s (.pointer t')] [HU c.P t .unsafePointer] [HI c.P t' z sz by_] (hx:ev e x=some (.pointer (some ⟨b,0,none⟩))) (hb:InB H b vs E) (hsz:Nat.blt 0 sz=true) (hl:Nat.blt 0 vs.length=true)
  (hlt:Nat.blt d c.fn.ntmps=true) (hk:Sr q c ds H ops l κ ((d,.pointer (some ⟨b,0,none⟩))::e)):Sr q c ds H ops (⟨some d,.convert s t x,ty,pos,aft,none⟩::l) κ e :=
 Sr.p (fun w a hw ha=>by
  obtain ⟨j,hj,_,h2,_⟩:=HI.h (P:=c.P) (t:=t')
  have h0:0 < sz:=by simpa [Nat.blt_eq] using hsz
  have h1:0 < vs.length:=by simpa [Nat.blt_eq] using hl
  have:=Lib.run_to_unsafe (P:=c.P) w ⟨b,0,none⟩ (HU.h (P:=c.P) (t:=s)) (HU.h (P:=c.P) (t:=t)) hj (by omega) (hw.shape hb.h) h1
  simp [execOp,ha.ev hx,this]) rfl hlt rfl hk
theorem T.fromUnsafe {x:Operand} {d b:Nat} {s t t' E by_ sz:Nat} {z:Value} {vs:List Value} [HU c.P s .unsafePointer] [HU c.P t (.pointer t')] [HI c.P t' z sz by_] (hx:ev e x=some (.pointer (some ⟨b,0,none⟩))) (hb:InB H b vs E)
  (hlies:liesAt c.P c.P.depth E (vs.length / c.P.cellsOf E) 0 t' 1=true)
  (hlt:Nat.blt d c.fn.ntmps=true) (hk:Sr q c ds H ops l κ ((d,.pointer (some ⟨b,0,none⟩))::e)):Sr q c ds H ops (⟨some d,.convert s t x,ty,pos,aft,none⟩::l) κ e :=
 Sr.p (fun w a hw ha=>by
  obtain ⟨j,hj,_⟩:=HI.h (P:=c.P) (t:=t')
  have:=Lib.run_from_unsafe (P:=c.P) w ⟨b,0,none⟩ (HU.h (P:=c.P) (t:=s)) (HU.h (P:=c.P) (t:=t)) hj (hw.shape hb.h) hlies
  simp [execOp,ha.ev hx,this]) rfl hlt rfl hk
theorem T.pneqSame {x y:Operand} {d:Nat} {ad:Addr} {t t' u by_ sz:Nat} {z:Value} [HU c.P t (.pointer t')] [HI c.P t' z sz by_] (hx:ev e x=some (.pointer (some ad))) (hy:ev e y=some (.pointer (some ad)))
  (hlt:Nat.blt d c.fn.ntmps=true) (hk:Sr q c ds H ops l κ ((d,.bool false)::e)):Sr q c ds H ops (⟨some d,.binOp .neq t x y u,ty,pos,aft,none⟩::l) κ e :=
 Sr.p (fun w a hw ha=>by
  obtain ⟨j,hj,_⟩:=HI.h (P:=c.P) (t:=t')
  have:=Lib.run_neq_ptr_same (P:=c.P) w ad (HU.h (P:=c.P) (t:=t)) hj
  simp [execOp,ha.ev hx,ha.ev hy,eqGuard,this]) rfl hlt rfl hk
theorem T.callX {d:Tmp} {args:List Operand} {ats:Array TypeId} {g:FuncId} {vs:List Value} {K:Value→List Res→Prop} (hargs:evs e args=some vs) (hd:Nat.blt d c.fn.ntmps=true)
  (hrun:∀ w,St c.F c.M w H→∃ v w' H',(callFunc g ⟨vs⟩).run c.P w=.ok (.value v) w'∧St c.F c.M w' H'∧K v H')
  (hk:∀ v H',K v H'→Sr (.eff dr) c ds H' ops l κ ((d,v)::e)) :
  Sr (.eff dr) c ds H ops (⟨some d,.call ⟨.value (.func g),args.toArray,ats⟩,ty,pos,aft,none⟩::l) κ e :=
 Sr.eff (K:=K) (fun w a hw ha=>by
  obtain ⟨v,w',H',h1,h2,h3⟩:=hrun w hw
  have h4:=ha.evs hargs
  have hm:Array.map a.eval args.toArray=⟨vs⟩:=by rw [←h4];simp
  refine ⟨v,w',H',.inl ?_,h2,h3⟩
  simp only [execOp,resolve,hm,Deferred.ofValue,pure_bind,invoke,Act.eval]
  simpa using h1) hd rfl hk
theorem T.unsafeData {d:Tmp} {x:Operand} {ad:Option Addr} {n cp t:Nat} (hx:ev e x=some (.slice ad n cp)) (h0:0 < cp∨ad=none) (hlt:Nat.blt d c.fn.ntmps=true) (hk:Sr q c ds H ops l κ ((d,.pointer ad)::e)) :
  Sr q c ds H ops (⟨some d,.call ⟨.builtin .unsafeSliceData,#[x],#[t]⟩,ty,pos,aft,none⟩::l) κ e :=
 Sr.p (fun w a hw ha=>by
  cases ad with
  | none =>
   have:=Lib.run_unsafeSliceData_nil (P:=c.P) w #[t] ty n cp
   simp [execOp,ha.ev hx,resolve,invoke,builtin,this]
  | some ad =>
   have:=Lib.run_unsafeSliceData_row (P:=c.P) w #[t] ty ad n cp (by rcases h0 with h|h;omega;cases h)
   simp [execOp,ha.ev hx,resolve,invoke,builtin,this]) rfl hlt rfl hk
theorem T.unsafeStr {d:Tmp} {x y:Operand} {ad:Option Addr} {n cp pt it E:Nat} [HU c.P pt (.pointer E)] {z:Value} {by_:Nat} [HI c.P E z 1 by_] {xs:List UInt8} {f:Res→List Res} (hx:ev e x=some (.pointer ad)) (hy:ev e y=some (.int .i64 (n:Int))) (hr:AtR H ad cp E 1 n (xs.map bV) f)
  (h0:0 < n) (hlt:Nat.blt d c.fn.ntmps=true) (hk:Sr (.eff dr) c ds (f (.row none 0 E 1 0 [])) ops l κ ((d,sV xs)::e)) :
  Sr (.eff dr) c ds H ops (⟨some d,.call ⟨.builtin .unsafeString,#[x,y],#[pt,it]⟩,ty,pos,aft,none⟩::l) κ e :=
 Sr.eff (K:=fun v H'=>v=sV xs∧H'=f (.row none 0 E 1 0 [])) (fun w a hw ha=>by
  obtain ⟨rest,p1,p2⟩:=hr.h
  have hw':=hw.perm p1
  have hown:w.ownsRow 0 E 1 (.slice ad n cp) n (xs.map bV):=hw'.res _ (List.mem_cons_self ..)
  have hlen:xs.length=n:=by simpa using hown.1
  obtain ⟨ti,hi,_,hsz,_⟩:=HI.h (P:=c.P) (t:=E)
  have hc1:c.P.cellsOf E=1:=by simp [Program.cellsOf,hi,hsz]
  rcases hown.2 with ⟨hv,hn0⟩|⟨g,cap,cur,hv,_,hh,hle,hmx,hcs,htk⟩
  ·omega
  ·simp only [Value.slice.injEq,true_and] at hv
   obtain ⟨rfl,rfl⟩:=hv
   have hsh:w.shape? g=some (E,cur.size):=by simp [World.shape?,hh]
   have hmax:n≤9223372036854775807:=by unfold maxLen at hmx;omega
   have hcells:=hown.cells (g:=g) rfl
   have hrun:=Lib.run_unsafeString_row (P:=c.P) w pt it ty E (HU.h (P:=c.P)) hc1 g cur.size hsh xs (fun h=>by rw [h] at hlen;simp at hlen;omega) (by rw [hlen];omega) (by omega) (fun j x hx=>hcells j (bV x) (by simp [hx]))
   rw [hlen] at hrun
   refine ⟨sV xs,w.freeze ⟨g,0,none⟩ n,f (.row none 0 E 1 0 []),.inl (by simp [execOp,ha.ev hx,ha.ev hy,resolve,invoke,builtin,hrun]),St.perm (hw'.turn (r':=.row none 0 E 1 0 []) ?_ ?_ ?_ ?_ ?_ (World.ownsRow_nil _ 0 E 1) (fun q hq=>by simp [Res.foot] at hq) (by simp [Res.foot])) (p2 _),rfl,rfl⟩
   all_goals unfold World.freeze
   all_goals split
   all_goals try rfl
   ·exact Nat.le_refl _
   ·simp
   ·intro j _ hj;rfl
   ·intro j _ hj
    simp only [Array.getElem?_modify]
    rw [if_neg]
    intro h
    exact hj (by simp [Res.foot,h])) hlt rfl (fun v H' ⟨h2,h3⟩=>by subst h2 h3;exact hk)
end
end Sg
/- The walks of strings.Builder, by hand. -/
namespace Go.Proofs.YtophlopiigpbgaaGreatDoor
open Sg Go.IntWalk
set_option maxRecDepth 100000
set_option maxHeartbeats 4000000
section
variable {F:World} {M:List Nat} {H:List Res} {b:Nat} {p v:Value}
def BdOk (b:Nat) (p:Value):Prop:=p=.pointer none∨p=.pointer (some ⟨b,0,none⟩)
theorem BdOk.self (b:Nat):BdOk b (.pointer (some ⟨b,0,none⟩)):=.inr rfl
abbrev bdB (b:Nat) (p:Value) (na:Option Addr) (n cp:Nat):Res:=.blk b [p,.slice na n cp] 112
abbrev byR (na:Option Addr) (cp:Nat) (xs:List UInt8):Res:=.row na cp 5 1 xs.length (xs.map bV)
theorem _root_.Sg.Y18 {P R:Prop} (k:R) (h:Sg.Kp R→P:=by intro k;(first|(apply T.sadd;apply rfl;apply rfl;(first|omega|(simp only [List.length_append,List.length_cons,List.length_nil];omega));apply rfl)|(apply T.pneqSame;(iterate 3 apply rfl))|(apply T.toUnsafe;apply rfl;infer_instance;(iterate 3 apply rfl))|(apply T.orU64;apply rfl;apply rfl;omega;omega;apply rfl)|((with_reducible apply T.mulNK 3);apply rfl;apply rfl;omega;apply rfl)|((with_reducible apply T.addKN 2);apply rfl;apply rfl;omega;apply rfl)|((with_reducible apply T.mulNK 4);apply rfl;apply rfl;omega;apply rfl)|(apply T.sadd;apply rfl;apply rfl;omega;apply rfl)|(apply T.sslice;(iterate 3 apply rfl);omega;apply rfl)|(apply T.mapLook;apply rfl;apply rfl;infer_instance;(first|assumption|(simp only [maxLen];omega)|omega);apply rfl)|(apply T.seql;(iterate 3 apply rfl))|(apply T.slen;apply rfl;apply rfl)|(apply T.sidx;apply rfl;apply rfl;omega;apply rfl)|(apply T.convS;apply rfl;infer_instance;(first|rfl|assumption|exact beN_len _ _|(simp;done)|(simp;omega));apply rfl)|(apply T.eqlP;apply rfl;apply rfl)|(apply T.eqlP0;apply rfl;apply rfl)|(apply T.neqP0;apply rfl;apply rfl)|(apply T.ptrLook;apply rfl;apply rfl;infer_instance;(first|assumption|(simp only [maxLen];omega)|omega);apply rfl)|(apply T.mv;apply rfl;apply rfl)|(apply T.asn;apply rfl;apply rfl)|(apply T.len;apply rfl;apply rfl)|(apply T.nilCheck;apply rfl;apply rfl)|(apply T.fieldAddrZ;apply rfl;apply rfl)|(apply T.load;apply rfl;apply rfl;infer_instance;apply rfl;apply rfl)|(apply T.lss;(iterate 3 apply rfl))|(apply T.gtr;(iterate 3 apply rfl))|(apply T.geq;(iterate 3 apply rfl))|(apply T.eql;(iterate 3 apply rfl))|(apply T.neq;(iterate 3 apply rfl))|(apply T.addI;apply rfl;apply rfl;omega;apply rfl)|(apply T.subI;apply rfl;apply rfl;omega;apply rfl)|(apply T.extract;(iterate 3 apply rfl))|(apply T.ixC;apply rfl;infer_instance;omega;(first|omega|(simp only [List.length_map];omega)|(simp;omega));apply rfl)|(apply T.ixF;apply rfl;apply rfl;infer_instance;exact (fun _=>rfl);apply rfl;omega;omega;apply rfl)|(apply T.fieldAddrF;apply rfl;infer_instance;exact (fun _=>rfl);apply rfl;omega;apply rfl)|(apply T.loadF;apply rfl;apply rfl;infer_instance;exact (fun _=>rfl);apply rfl;exact Zf (by omega);apply rfl;apply rfl)|(apply T.loadFN;apply rfl;apply rfl;infer_instance;exact (fun _=>rfl);apply rfl;exact Zf (by omega);apply rfl)|(apply T.loadB;apply rfl;infer_instance;omega;apply rfl)|(apply T.not;apply rfl;apply rfl)|(apply T.notB;apply rfl;apply rfl)|(apply T.pickT;(iterate 3 apply rfl))|(apply T.pickF;(iterate 3 apply rfl))|(apply T.buildL;(iterate 3 apply rfl))|(apply T.loadW;apply rfl;apply rfl;infer_instance;(first|rfl|(simp only [List.length_append,List.length_map,List.length_set,List.length_replicate,List.length_cons,List.length_nil];first|done|omega));apply rfl)|(apply T.sliceHK;apply rfl;apply rfl;omega;apply rfl)|(apply T.assert;(iterate 4 apply rfl))|(apply T.neqIf;apply rfl;apply rfl)|(apply T.neqNil;apply rfl;apply rfl)|(apply T.storeW;apply rfl;apply rfl;infer_instance;(first|rfl|(simp only [List.length_append,List.length_map,List.length_set,List.length_replicate,List.length_cons,List.length_nil];first|done|omega));(first|rfl|(simp only [List.length_append,List.length_map,List.length_set,List.length_replicate,List.length_cons,List.length_nil];first|done|omega));(first|rfl|(repeat' first|apply all_nV|apply Z11|apply all_iV|rfl|apply all_app)))|(apply T.store;apply rfl;apply rfl;infer_instance;(first|decide|(simp;omega)|simp);apply rfl)|(apply T.makeI;(iterate 3 apply rfl))|(with_reducible refine Sr.nil ?_)|(with_reducible refine S.seq ?_)|(with_reducible refine S.block ?_)|(with_reducible refine S.reg ?_)|(with_reducible refine S.skip ?_)|(with_reducible refine S.inBlock ?_)|(apply S.exit;apply rfl)|(apply S.quiet;apply rfl;kernel_rfl)|(apply T.ungV;apply rfl;(first|with_reducible rfl|decide))|(apply T.skip;apply rfl;(first|with_reducible rfl|decide);apply rfl)|(apply T.skipU;apply rfl;apply rfl)|(apply S.condTV;apply rfl;(first|with_reducible rfl|decide))|(apply S.condFV;apply rfl;(first|with_reducible rfl|decide))|(apply T.retW;apply rfl)|(apply T.doneW;apply rfl)|(with_reducible apply T.ofRet)|(apply T.retC;apply rfl;((repeat' first|apply RV.nil|(apply RV.tmp;apply rfl)|(apply RV.cellW;apply rfl;apply rfl;infer_instance;(first|rfl|(simp only [List.length_append,List.length_map,List.length_set,List.length_replicate,List.length_cons,List.length_nil];first|done|omega)))|(apply RV.cellP;apply rfl;apply rfl;infer_instance;apply rfl)));apply rfl)|(apply SA.en;apply rfl;apply rfl;kernel_rfl)|(apply T.ung;apply rfl)|fail);exact k.h):P:=h ⟨k⟩
theorem _root_.Sg.Y19 {P R:Prop} (k:R) (h:Sg.Kp R→P:=by intro k;(first|(apply T.sadd;apply rfl;apply rfl;(first|omega|(simp only [List.length_append,List.length_cons,List.length_nil];omega));apply rfl)|(apply T.sadd;apply rfl;apply rfl;decide;apply rfl)|(apply T.fromUnsafe;apply rfl;infer_instance;kernel_rfl;apply rfl)|(apply T.convBU64;apply rfl;apply rfl)|(apply T.sslice;(iterate 3 apply rfl);omega;apply rfl)|(apply T.ixN;apply rfl;apply rfl;infer_instance;omega;(first|omega|(simp only [List.length_map];omega)|(simp;omega));apply rfl)|(apply T.mapLook;apply rfl;apply rfl;infer_instance;(first|assumption|(simp only [maxLen];omega)|omega);apply rfl)|(apply T.convS;apply rfl;infer_instance;(first|rfl|assumption|exact beN_len _ _|(simp;done)|(simp;omega));apply rfl)|(apply T.neqP;apply rfl;apply rfl)|(apply T.neqP0;apply rfl;apply rfl)|(apply T.mv;apply rfl;apply rfl)|(apply T.asn;apply rfl;apply rfl)|(apply T.len;apply rfl;apply rfl)|(apply T.nilCheck;apply rfl;apply rfl)|(apply T.fieldAddrZ;apply rfl;apply rfl)|(apply T.load;apply rfl;apply rfl;infer_instance;apply rfl;apply rfl)|(apply T.lss;(iterate 3 apply rfl))|(apply T.eql;(iterate 3 apply rfl))|(apply T.addI;apply rfl;apply rfl;omega;apply rfl)|(apply T.extract;(iterate 3 apply rfl))|(apply T.ixF;apply rfl;apply rfl;infer_instance;exact (fun _=>rfl);apply rfl;omega;omega;apply rfl)|(apply T.fieldAddrF;apply rfl;infer_instance;exact (fun _=>rfl);apply rfl;omega;apply rfl)|(apply T.loadF;apply rfl;apply rfl;infer_instance;exact (fun _=>rfl);apply rfl;exact Zf (by omega);apply rfl;apply rfl)|(apply T.notB;apply rfl;apply rfl)|(apply T.pickT;(iterate 3 apply rfl))|(apply T.pickF;(iterate 3 apply rfl))|(apply T.buildL;(iterate 3 apply rfl))|(apply T.loadW;apply rfl;apply rfl;infer_instance;(first|rfl|(simp only [List.length_append,List.length_map,List.length_set,List.length_replicate,List.length_cons,List.length_nil];first|done|omega));apply rfl)|(apply T.sliceLC;apply rfl;omega;apply rfl)|(apply T.storeW;apply rfl;apply rfl;infer_instance;(first|rfl|(simp only [List.length_append,List.length_map,List.length_set,List.length_replicate,List.length_cons,List.length_nil];first|done|omega));(first|rfl|(simp only [List.length_append,List.length_map,List.length_set,List.length_replicate,List.length_cons,List.length_nil];first|done|omega));(first|rfl|(repeat' first|apply all_nV|apply Z11|apply all_iV|rfl|apply all_app)))|(apply T.store;apply rfl;apply rfl;infer_instance;(first|decide|(simp;omega)|simp);apply rfl)|(with_reducible refine Sr.nil ?_)|(with_reducible refine S.reg ?_)|(with_reducible refine S.skip ?_)|(with_reducible refine S.inBlock ?_)|(apply S.exit;apply rfl)|(apply T.ungV;apply rfl;(first|with_reducible rfl|decide))|(apply T.skip;apply rfl;(first|with_reducible rfl|decide);apply rfl)|(apply S.condTV;apply rfl;(first|with_reducible rfl|decide))|(apply S.condFV;apply rfl;(first|with_reducible rfl|decide))|(apply T.retW;apply rfl)|(apply T.doneW;apply rfl)|(with_reducible apply T.diesW)|(with_reducible apply T.ofRet)|(with_reducible apply T.ofPan)|(apply T.retC;apply rfl;((repeat' first|apply RV.nil|(apply RV.tmp;apply rfl)|(apply RV.cellW;apply rfl;apply rfl;infer_instance;(first|rfl|(simp only [List.length_append,List.length_map,List.length_set,List.length_replicate,List.length_cons,List.length_nil];first|done|omega)))|(apply RV.cellP;apply rfl;apply rfl;infer_instance;apply rfl)));apply rfl)|(apply SA.en;apply rfl;apply rfl;kernel_rfl)|fail);exact k.h):P:=h ⟨k⟩
theorem Z2q (hp:BdOk b p):Meets Tryz.prog 121 [.pointer (some ⟨b,0,none⟩)] F M (.blk b [p,v] 112::H) (fun e H'=>e=.returned (.tuple ⟨[]⟩)∧H'=.blk b [.pointer (some ⟨b,0,none⟩),v] 112::H):=by
 refine Meets.enter Tryz.func121 rfl rfl ?_
 rcases hp with rfl|rfl
 ·repeat' (first|refine Sg.Y18 ?_|fail)
  refine T.callX (vs:=[.pointer (some ⟨b,0,none⟩)]) (K:=fun v H'=>v=.pointer (some ⟨b,0,none⟩)∧H'=_) rfl rfl (fun w hw=>⟨_,w,_,by rw [run_callFunc_extern Tryz.func145 (by kernel_rfl) (by kernel_rfl) (by kernel_rfl) (e:=Extern.AbiNoEscape.same) (by kernel_rfl)];rfl,hw,rfl,rfl⟩) ?_
  rintro _ _ ⟨rfl,rfl⟩
  repeat' (first|refine Sg.Y19 ?_|fail)
  exact ⟨_,PSub.refl _,rfl,rfl⟩
 ·repeat' (first|refine Sg.Y18 ?_|fail)
  exact ⟨_,PSub.refl _,rfl,rfl⟩
theorem Z96 {na:Option Addr} {n cp:Nat}:Meets Tryz.prog 60 [.pointer (some ⟨b,0,none⟩)] F M (bdB b p na n cp::H) (fun e H'=>e=.returned (.int .i64 n)∧H'=bdB b p na n cp::H):=by
 refine Meets.enter Tryz.func60 rfl rfl ?_
 repeat' (first|refine Sg.Y1 ?_|fail)
 exact ⟨_,PSub.refl _,rfl,rfl⟩
theorem Zp {na:Option Addr} {cp:Nat} {xs s:List UInt8} (hp:BdOk b p) (hl:xs.length+s.length≤100000000) :
  Meets Tryz.prog 92 [.pointer (some ⟨b,0,none⟩),sV s] F M (bdB b p na xs.length cp::byR na cp xs::H)
   (fun e H'=>∃ na' cp',e=.returned (.tuple ⟨[.int .i64 s.length,.nilIface]⟩)∧H'=bdB b (.pointer (some ⟨b,0,none⟩)) na' (xs++s).length cp'::byR na' cp' (xs++s)::H):=by
 refine Meets.enter Tryz.func92 rfl rfl ?_
 have hL:(xs++s).length=xs.length+s.length:=List.length_append
 repeat' (first|refine Sg.Y1 ?_|fail)
 refine T.call rfl rfl (Z2q hp) ?_
 rintro _ _ ⟨rfl,rfl⟩
 repeat' (first|(apply T.appendS;apply rfl;apply rfl;infer_instance;omega;apply rfl;intro na nc)|refine Sg.Y1 ?_|fail)
 dsimp only [bdB,byR]
 rw [hL]
 exact ⟨_,PSub.refl _,_,_,rfl,rfl⟩
theorem Zv {na:Option Addr} {cp:Nat} {xs:List UInt8} {x:UInt8} (hp:BdOk b p) (hl:xs.length≤100000000) :
  Meets Tryz.prog 94 [.pointer (some ⟨b,0,none⟩),.int .u8 (x.toNat:Nat)] F M (bdB b p na xs.length cp::byR na cp xs::H)
   (fun e H'=>∃ na' cp',e=.returned .nilIface∧H'=bdB b (.pointer (some ⟨b,0,none⟩)) na' (xs++[x]).length cp'::byR na' cp' (xs++[x])::H):=by
 refine Meets.enter Tryz.func94 rfl rfl ?_
 have hL:(xs++[x]).length=xs.length+1:=List.length_append
 repeat' (first|refine Sg.Y1 ?_|fail)
 refine T.call rfl rfl (Z2q hp) ?_
 rintro _ _ ⟨rfl,rfl⟩
 repeat' (first|(apply T.bs;(iterate 6 apply rfl);intro nb)|(apply T.appendB;apply rfl;apply rfl;infer_instance;apply rfl;(constructor<;>omega);apply rfl;intro na nc)|refine Sg.Y1 ?_|fail)
 dsimp only [bdB,byR]
 rw [hL]
 exact ⟨_,PSub.refl _,_,_,rfl,rfl⟩
theorem Z5G {na:Option Addr} {cp:Nat} {xs:List UInt8} (hx:0 < xs.length) :
  Meets Tryz.prog 61 [.pointer (some ⟨b,0,none⟩)] F M (bdB b p na xs.length cp::byR na cp xs::H) (fun e H'=>e=.returned (sV xs)∧H'=H):=by
 refine Meets.enter Tryz.func61 rfl rfl ?_
 refine S.capR (ad:=na) inferInstance fun hcap=>?_
 have h0:0 < cp∨na=none:=.inl (by omega)
 refine S.seq ?_
 repeat' (first|refine Sg.Y2 ?_|fail)
 refine S.seq ?_
 (apply S.draw;(case Hs=>exact bdB b p na xs.length cp::H);(case es=>exact  [10]);(case n=>exact  12);(case hn=>rfl))
 repeat' (first|(apply T.unsafeData;apply rfl;exact h0;apply rfl)|(refine T.unsafeStr (xs:=xs) rfl rfl inferInstance hx rfl ?_)|(apply SA.qn;(iterate 4 apply rfl);kernel_rfl)|(apply SA.done;apply rfl;kernel_rfl)|(apply SK.intro;(first|exact fun _ h=>h|exact fun _ h=>St.psub h (by ((repeat (first|dsimp only [List.set_cons_zero]|dsimp only [List.set_cons_succ]));repeat' first|exact PSub.refl _|exact PSub.nil|(apply PSub.take;(repeat' first|(with_reducible exact Z0)|(with_reducible apply Z1)))|(with_reducible apply PSub.drop)|((apply PSub.take);(repeat' first|exact Z0|(apply Z1)))))))|refine Sg.Y2 ?_|fail)
 exact ⟨_,PSub.drop (PSub.drop (PSub.refl _)),rfl,rfl⟩
end
end Go.Proofs.YtophlopiigpbgaaGreatDoor
/- The walks of the program's spelling of texts and values. -/
namespace Sg
open Go Go.RowKit
section
variable {c:Ctx} {ds:List Deferred} {H:List Res} {ops:Array Oper} {l:List Oper} {κ:List Res→Env→Prop} {q:Mode} {e:Env} {ty:TypeId} {pos:String} {aft:Array Edge}
theorem T.bshr4 {x:Operand} {d:Tmp} {t u:TypeId} {a:UInt8} {kd':IntKind} (hx:ev e x=some (.int .u8 (a.toNat:Int))) (hlt:Nat.blt d c.fn.ntmps=true) (hk:Sr q c ds H ops l κ ((d,.int .u8 ((a.toNat / 16:Nat):Int))::e)) :
  Sr q c ds H ops (⟨some d,.binOp .shr t x (.const (.int kd' 4)) u,ty,pos,aft,none⟩::l) κ e:=Sr.p (Pu.shr hx rfl (by decide) (by
 show (a.toNat:Int).fdiv (2 ^ 4)=((a.toNat / 16:Nat):Int)
 rw [Int.fdiv_eq_ediv_of_nonneg _ (by decide)]
 omega)) rfl hlt rfl hk
theorem T.band15 {x:Operand} {d:Tmp} {t u:TypeId} {a:UInt8} (hx:ev e x=some (.int .u8 (a.toNat:Int))) (hlt:Nat.blt d c.fn.ntmps=true) (hk:Sr q c ds H ops l κ ((d,.int .u8 ((a.toNat % 16:Nat):Int))::e)) :
  Sr q c ds H ops (⟨some d,.binOp .and t x (.const (.int .u8 15)) u,ty,pos,aft,none⟩::l) κ e:=T.band (b:=15) hx rfl hlt (by
 rw [show (a&&&15).toNat=a.toNat % 16 by
  rw [UInt8.toNat_and]
  exact Nat.and_two_pow_sub_one_eq_mod a.toNat 4]
 exact hk)
theorem T.badd1 {x:Operand} {d:Tmp} {t u:TypeId} {n:Nat} (hx:ev e x=some (.int .u8 (n:Int))) (hn:n < 255) (hlt:Nat.blt d c.fn.ntmps=true) (hk:Sr q c ds H ops l κ ((d,.int .u8 ((n+1:Nat):Int))::e)) :
  Sr q c ds H ops (⟨some d,.binOp .add t x (.const (.int .u8 1)) u,ty,pos,aft,none⟩::l) κ e:=Sr.p (Pu.add hx rfl (by
 show IntKind.u8.wrap ((n:Int)+1)=((n+1:Nat):Int)
 rw [Z5c]
 omega)) rfl hlt rfl hk
end
def hexL:List UInt8:=[48,49,50,51,52,53,54,55,56,57,97,98,99,100,101,102]
theorem ZbH:∀ k:Fin 16,(hexL.drop k.val).take (k.val+1 - k.val)=[hexD k.val]:=by decide
theorem Zaq {k:Nat} (h:k < 16):(hexL.drop k).take (k+1 - k)=[hexD k]:=ZbH ⟨k,h⟩
def escL:List UInt8:=[8,12,10,13,9,34,92]
def escT:List UInt8:=[98,102,110,114,116,34,92]
theorem ZdW:∀ n:Fin 256,(Lib.indexByte escL (UInt8.ofNat n.val) = -1∧(n.val < 32→qB (UInt8.ofNat n.val)=[92,117,48,48,hexD (n.val / 16),hexD (n.val % 16)])∧n.val≠34∧n.val≠92) ∨
  (∃ i:Fin 7,Lib.indexByte escL (UInt8.ofNat n.val)=(i.val:Int)∧qB (UInt8.ofNat n.val)=92::(escT.drop i.val).take (i.val+1 - i.val)):=by decide +kernel
theorem ZdX (c:UInt8):(Lib.indexByte escL c = -1∧(c.toNat < 32→qB c=[92,117,48,48,hexD (c.toNat / 16),hexD (c.toNat % 16)])∧c.toNat≠34∧c.toNat≠92) ∨
  (∃ i:Nat,i < 7∧Lib.indexByte escL c=(i:Int)∧qB c=92::(escT.drop i).take (i+1 - i)):=by
 have h:=ZdW ⟨c.toNat,c.toNat_lt⟩
 simp only [UInt8.ofNat_toNat] at h
 rcases h with h|⟨i,h1,h2⟩
 ·exact .inl h
 ·exact .inr ⟨i.val,i.isLt,h1,h2⟩
theorem Zbm {c:UInt8} (h1:¬c.toNat < 32) (h2:c.toNat≠34) (h3:c.toNat≠92):qB c=[c]:=by
 unfold qB
 rw [if_neg (by omega),if_neg (by omega),if_neg (by omega),if_neg (by omega),if_neg (by omega),if_neg (by omega),if_neg (by omega)]
end Sg
namespace Go.Proofs.YtophlopiigpbgaaGreatDoor
open Sg Go.IntWalk
set_option maxRecDepth 100000
set_option maxHeartbeats 4000000
section
variable {F:World} {M:List Nat} {H:List Res} {b:Nat} {p v:Value}
theorem Z4A {s:List UInt8} {ch:UInt8}:Meets Tryz.prog 43 [sV s,.int .u8 (ch.toNat:Nat)] F M H (fun e H'=>e=.returned (.int .i64 (Lib.indexByte s ch))∧H'=H):=by
 refine Meets.enter Tryz.func43 rfl rfl ?_
 repeat' (first|refine Sg.Y1 ?_|fail)
 refine T.call rfl rfl (Meets.enter (post:=fun e H'=>e=.returned (.int .i64 (Lib.indexByte s ch))∧H'=H) Tryz.func69 rfl rfl ?_) ?_
 ·repeat' (first|refine Sg.Y1 ?_|fail)
  refine T.callX (vs:=[sV s,.int .u8 (ch.toNat:Nat)]) (K:=fun v H'=>v=.int .i64 (Lib.indexByte s ch)∧H'=_) rfl rfl (fun w hw=>⟨.int .i64 (Lib.indexByte s ch),w,_,by
   have h:=Lib.run_indexByteString (P:=Tryz.prog) (ByteArray.mk s.toArray) (ch.toNat:Nat) w
   rw [run_callFunc_extern Tryz.func103 (by kernel_rfl) (by kernel_rfl) (by kernel_rfl) (e:=Extern.BytealgIndexByte.indexByte) (by kernel_rfl)]
   refine (congrArg (fun r=>Result.andThen r fun v w'=>Result.ok (Next.value v) w') h).trans ?_
   rw [Int.toNat_natCast]
   have h2:ch.toNat.toUInt8=ch:=by simp
   rw [h2]
   rfl,hw,rfl,rfl⟩) ?_
  rintro _ _ ⟨rfl,rfl⟩
  repeat' (first|refine Sg.Y2 ?_|fail)
  exact ⟨_,PSub.refl _,rfl,rfl⟩
 rintro _ _ ⟨rfl,rfl⟩
 repeat' (first|refine Sg.Y2 ?_|fail)
 exact ⟨_,PSub.refl _,rfl,rfl⟩
theorem Z8s {s:List UInt8} {f i:Nat} (h:i < s.length) (hf:f≤i):(s.drop f).take (i+1 - f)=(s.drop f).take (i - f)++[s.getD i 0]:=by
 rw [show i+1 - f=(i - f)+1 by omega,List.take_succ_eq_append_getElem (by rw [List.length_drop];omega),List.getElem_drop]
 simp [List.getD,show f+(i - f)=i by omega,h]
theorem Zav {s:List UInt8} {i:Nat} (h:i < s.length):(s.take (i+1)).flatMap qB=(s.take i).flatMap qB++qB (s.getD i 0):=by
 rw [List.take_succ_eq_append_getElem h,List.flatMap_append]
 simp [List.getD,h]
theorem _root_.Sg.Y20 {P R:Prop} (k:R) (h:Sg.Kp R→P:=by intro k;(first|(apply T.sadd;apply rfl;apply rfl;(first|omega|(simp only [List.length_append,List.length_cons,List.length_nil];omega));apply rfl)|(apply T.sadd;apply rfl;apply rfl;decide;apply rfl)|(apply T.bshr4;apply rfl;apply rfl)|(apply T.band15;apply rfl;apply rfl)|(apply T.badd1;apply rfl;omega;apply rfl)|(apply T.convBU64;apply rfl;apply rfl)|(apply T.sslice;(iterate 3 apply rfl);omega;apply rfl)|(apply T.ixN;apply rfl;apply rfl;infer_instance;omega;(first|omega|(simp only [List.length_map];omega)|(simp;omega));apply rfl)|(apply T.mapLook;apply rfl;apply rfl;infer_instance;(first|assumption|(simp only [maxLen];omega)|omega);apply rfl)|(apply T.convS;apply rfl;infer_instance;(first|rfl|assumption|exact beN_len _ _|(simp;done)|(simp;omega));apply rfl)|(apply T.neqP;apply rfl;apply rfl)|(apply T.neqP0;apply rfl;apply rfl)|(apply T.mv;apply rfl;apply rfl)|(apply T.asn;apply rfl;apply rfl)|(apply T.len;apply rfl;apply rfl)|(apply T.nilCheck;apply rfl;apply rfl)|(apply T.fieldAddrZ;apply rfl;apply rfl)|(apply T.load;apply rfl;apply rfl;infer_instance;apply rfl;apply rfl)|(apply T.lss;(iterate 3 apply rfl))|(apply T.eql;(iterate 3 apply rfl))|(apply T.addI;apply rfl;apply rfl;omega;apply rfl)|(apply T.extract;(iterate 3 apply rfl))|(apply T.ixF;apply rfl;apply rfl;infer_instance;exact (fun _=>rfl);apply rfl;omega;omega;apply rfl)|(apply T.fieldAddrF;apply rfl;infer_instance;exact (fun _=>rfl);apply rfl;omega;apply rfl)|(apply T.loadF;apply rfl;apply rfl;infer_instance;exact (fun _=>rfl);apply rfl;exact Zf (by omega);apply rfl;apply rfl)|(apply T.notB;apply rfl;apply rfl)|(apply T.pickT;(iterate 3 apply rfl))|(apply T.pickF;(iterate 3 apply rfl))|(apply T.buildL;(iterate 3 apply rfl))|(apply T.loadW;apply rfl;apply rfl;infer_instance;(first|rfl|(simp only [List.length_append,List.length_map,List.length_set,List.length_replicate,List.length_cons,List.length_nil];first|done|omega));apply rfl)|(apply T.sliceLC;apply rfl;omega;apply rfl)|(apply T.storeW;apply rfl;apply rfl;infer_instance;(first|rfl|(simp only [List.length_append,List.length_map,List.length_set,List.length_replicate,List.length_cons,List.length_nil];first|done|omega));(first|rfl|(simp only [List.length_append,List.length_map,List.length_set,List.length_replicate,List.length_cons,List.length_nil];first|done|omega));(first|rfl|(repeat' first|apply all_nV|apply Z11|apply all_iV|rfl|apply all_app)))|(apply T.store;apply rfl;apply rfl;infer_instance;(first|decide|(simp;omega)|simp);apply rfl)|(with_reducible refine Sr.nil ?_)|(with_reducible refine S.reg ?_)|(with_reducible refine S.skip ?_)|(with_reducible refine S.inBlock ?_)|(apply S.exit;apply rfl)|(apply T.ungV;apply rfl;(first|with_reducible rfl|decide))|(apply T.skip;apply rfl;(first|with_reducible rfl|decide);apply rfl)|(apply S.condTV;apply rfl;(first|with_reducible rfl|decide))|(apply S.condFV;apply rfl;(first|with_reducible rfl|decide))|(apply T.retW;apply rfl)|(apply T.doneW;apply rfl)|(with_reducible apply T.diesW)|(with_reducible apply T.ofRet)|(with_reducible apply T.ofPan)|(apply T.retC;apply rfl;((repeat' first|apply RV.nil|(apply RV.tmp;apply rfl)|(apply RV.cellW;apply rfl;apply rfl;infer_instance;(first|rfl|(simp only [List.length_append,List.length_map,List.length_set,List.length_replicate,List.length_cons,List.length_nil];first|done|omega)))|(apply RV.cellP;apply rfl;apply rfl;infer_instance;apply rfl)));apply rfl)|(apply SA.en;apply rfl;apply rfl;kernel_rfl)|fail);exact k.h):P:=h ⟨k⟩
theorem Z32 {na:Option Addr} {cp:Nat} {xs s:List UInt8} (hp:BdOk b p) (hl:xs.length+6*s.length+2≤100000000) :
  Meets Tryz.prog 93 [.pointer (some ⟨b,0,none⟩),sV s] F M (bdB b p na xs.length cp::byR na cp xs::H)
   (fun e H'=>∃ na' cp',e=.returned (.tuple ⟨[]⟩)∧H'=bdB b (.pointer (some ⟨b,0,none⟩)) na' (xs++quoS s).length cp'::byR na' cp' (xs++quoS s)::H):=by
 refine Meets.enter Tryz.func93 rfl rfl ?_
 repeat' (first|refine Sg.Y1 ?_|fail)
 refine T.call rfl rfl (Zv (x:=34) hp (by omega)) ?_
 rintro _ _ ⟨na1,cp1,rfl,rfl⟩
 repeat' (first|refine Sg.Y1 ?_|fail)
 refine S.loopE 2 [0,1,11] (fun R b' μ H' e=>∃ (i f:Nat) (na:Option Addr) (cp:Nat) (ys A:List UInt8),H'=bdB b (.pointer (some ⟨b,0,none⟩)) na ys.length cp::byR na cp ys::R∧e=(4,.int .i64 f)::(12,.int .i64 i)::b' ∧
  (i≤s.length∧f≤i∧ys=xs++34::A∧A++(s.drop f).take (i - f)=(s.take i).flatMap qB)∧μ=s.length - i) rfl rfl ?_ _ _ ⟨0,0,na1,cp1,xs++[34],[],rfl,rfl,⟨Nat.zero_le _,Nat.le_refl _,rfl,rfl⟩,rfl⟩ (by repeat' first|exact trivial|refine And.intro rfl ?_)
 rintro _ _ _ ⟨i,f,na,cp,ys,A,rfl,rfl,⟨h1,h2,h3,h4⟩,rfl⟩ ih
 have hA:A.length≤6*i:=by
  have h5:=Z0N Z7P (s.take i)
  have h6:=congrArg List.length h4
  rw [List.length_take] at h5
  rw [List.length_append] at h6
  omega
 have hy:ys.length=xs.length+A.length+1:=by rw [h3,List.length_append,List.length_cons];omega
 by_cases h7:i < s.length
 ·have hn:=Z8s h7 h2
  have hq:=Zav h7
  generalize hc:s.getD i 0=ch at *
  have h8:=ch.toNat_lt
  by_cases hpl:¬ch.toNat < 32∧ch.toNat≠34∧ch.toNat≠92
  ·obtain ⟨p1,p2,p3⟩:=hpl
   rw [Zbm p1 p2 p3,←h4,List.append_assoc,←hn] at hq
   repeat' (first|(apply T.sidx;apply rfl;apply rfl;omega;apply rfl;rw [hc])|refine Sg.Y3 ?_|(apply S.condQ;apply rfl;all_goals intro _)|(apply T.gcase;apply rfl;apply rfl;all_goals intro _)|fail)
   exact ih _ _ _ _ ⟨i+1,f,_,_,ys,A,rfl,rfl,⟨h7,by omega,h3,hq.symm⟩,rfl⟩ (by omega) (by repeat' first|exact trivial|refine And.intro rfl ?_)
  ·have hT:((s.drop f).take (i - f)).length≤i:=by rw [List.length_take];omega
   have h5:A.length+((s.drop f).take (i - f)).length≤6*i:=by
    have g1:=Z0N Z7P (s.take i)
    have g2:=congrArg List.length h4
    have g3:(s.take i).length≤i:=List.length_take_le ..
    rw [List.length_append] at g2
    omega
   rw [←h4] at hq
   generalize hTd:(s.drop f).take (i - f)=tl at *
   have hyl:(ys++tl).length=ys.length+tl.length:=List.length_append
   repeat' (first|(apply T.sidx;apply rfl;apply rfl;omega;apply rfl;rw [hc])|(apply T.sslice;(iterate 3 apply rfl);omega;apply rfl;rw [hTd])|refine Sg.Y3 ?_|(apply S.condQ;apply rfl;all_goals intro _)|(apply T.gcase;apply rfl;apply rfl;all_goals intro _)|fail)
   all_goals
    refine T.call rfl rfl (Zp (BdOk.self b) (by omega)) ?_
    rintro _ _ ⟨na2,cp2,rfl,rfl⟩
    repeat' (first|refine Sg.Y1 ?_|fail)
    refine T.call rfl rfl (Z4A (s:=escL) (ch:=ch)) ?_
    rintro _ _ ⟨rfl,rfl⟩
    rcases ZdX ch with ⟨e1,e2,e3,e4⟩|⟨k,e0,e1,e3⟩
    ·all_goals try (exfalso;omega)
     all_goals
      have hlt:ch.toNat < 32:=by omega
      have e5:=e2 hlt
      have x1:=Zaq (k:=ch.toNat / 16) (by omega)
      have x2:=Zaq (k:=ch.toNat % 16) (by omega)
      rw [e1]
      repeat' (first|refine Sg.Y1 ?_|fail)
      (apply S.draw;(case Hs=>exact []);(case es=>exact  [15]);(case n=>exact  16);(case hn=>rfl))
      repeat' (first|(refine T.sslice (bs:=hexL) (i:=ch.toNat / 16) (j:=ch.toNat / 16+1) rfl rfl rfl ⟨by omega,by show _≤16;omega⟩ rfl ?_;rw [x1])|(refine T.sslice (bs:=hexL) (i:=ch.toNat % 16) (j:=ch.toNat % 16+1) rfl rfl rfl ⟨by omega,by show _≤16;omega⟩ rfl ?_;rw [x2])|(refine T.sadd (a:=[92,117,48,48]) (b:=[hexD (ch.toNat / 16)]) rfl rfl (by show 4+1≤_;omega) rfl ?_)|(refine T.sadd (b:=[hexD (ch.toNat % 16)]) rfl rfl (by show 5+1≤_;omega) rfl ?_)|(refine T.call rfl rfl (Zp (BdOk.self b) (by rw [hyl];show _+6≤_;omega)) ?_;rintro _ _ ⟨na3,cp3,rfl,rfl⟩)|(apply SA.qn;(iterate 4 apply rfl);kernel_rfl)|(apply SA.done;apply rfl;kernel_rfl)|(apply SK.intro;(first|exact fun _ h=>h|exact fun _ h=>St.psub h (by ((repeat (first|dsimp only [List.set_cons_zero]|dsimp only [List.set_cons_succ]));repeat' first|exact PSub.refl _|exact PSub.nil|(apply PSub.take;(repeat' first|(with_reducible exact Z0)|(with_reducible apply Z1)))|(with_reducible apply PSub.drop)|((apply PSub.take);(repeat' first|exact Z0|(apply Z1)))))))|refine Sg.Y20 ?_|fail)
      skip
      exact ih _ _ _ _ ⟨i+1,i+1,_,_,(ys++tl)++(([92,117,48,48]++[hexD (ch.toNat / 16)])++[hexD (ch.toNat % 16)]),A++tl++qB ch,rfl,rfl,⟨h7,Nat.le_refl _,by rw [h3,e5];simp,by rw [Nat.sub_self,List.take_zero,List.append_nil,hq]⟩,rfl⟩ (by omega) (by repeat' first|exact trivial|refine And.intro rfl ?_)
    ·have hk1:((escT.drop k).take (k+1 - k)).length≤1:=by rw [List.length_take];omega
     rw [e1]
     repeat' (first|(refine T.sslice (bs:=escT) (i:=k) (j:=k+1) rfl rfl rfl ⟨by omega,by show _≤7;omega⟩ rfl ?_)|(refine T.sadd (a:=[92]) rfl rfl (by show 1+_≤_;omega) rfl ?_)|refine Sg.Y3 ?_|(apply S.condQ;apply rfl;all_goals intro _)|fail)
     refine T.call rfl rfl (Zp (BdOk.self b) (by rw [hyl,List.length_append];show _+(1+_)≤_;omega)) ?_
     rintro _ _ ⟨na3,cp3,rfl,rfl⟩
     repeat' (first|refine Sg.Y2 ?_|fail)
     exact ih _ _ _ _ ⟨i+1,i+1,_,_,(ys++tl)++([92]++(escT.drop k).take (k+1 - k)),A++tl++qB ch,rfl,rfl,⟨h7,Nat.le_refl _,by rw [h3,e3];simp,by rw [Nat.sub_self,List.take_zero,List.append_nil,hq]⟩,rfl⟩ (by omega) (by repeat' first|exact trivial|refine And.intro rfl ?_)
 ·obtain rfl:i=s.length:=by omega
  have h9:(s.drop f).length=s.length - f:=List.length_drop
  have h8:(s.drop f).take (s.length - f)=s.drop f:=by rw [←h9,List.take_length]
  rw [h8,List.take_length] at h4
  have h10:=congrArg List.length h4
  have h11:=Z0N Z7P s
  rw [List.length_append] at h10
  repeat' (first|(refine T.ssliceL (i:=f) rfl rfl (by omega) rfl ?_)|(refine T.sadd rfl rfl (by show _+1≤_;omega) rfl ?_)|refine Sg.Y3 ?_|(apply S.condQ;apply rfl;all_goals intro _)|fail)
  refine T.call rfl rfl (Zp (BdOk.self b) (by rw [List.length_append];show _+(_+1)≤_;omega)) ?_
  rintro _ _ ⟨na3,cp3,rfl,rfl⟩
  have h12:ys++(s.drop f++[34])=xs++quoS s:=by rw [h3,quoS,←h4];simp
  repeat' (first|refine Sg.Y2 ?_|fail)
  exact ⟨_,PSub.refl _,_,_,rfl,by rw [←h12]⟩
end
end Go.Proofs.YtophlopiigpbgaaGreatDoor
/- The walks of the program's printing of values. -/
namespace Go.Proofs.YtophlopiigpbgaaGreatDoor
open Sg Go.IntWalk
set_option maxRecDepth 100000
set_option maxHeartbeats 4000000
section
variable {F:World} {M:List Nat} {H:List Res} {b:Nat} {v:List Nd} {oa:Option Addr} {oc n:Nat}
theorem Z5Q:∀ (L:Nat) {x r:List Nd} {p cp:Nat} {na:Option Addr} {pv:Value} {bs:List UInt8} {H:List Res} [Rd F M H oa (v.flatMap ndV)],x.length≤L→v.length=n→n≤2200000→Fo 1 x→(∀ m∈x,NdSh m)→v.drop p=x++r→BdOk b pv→bs.length+wL x≤50000010+6*(Z3 x).key.length →
  Meets Tryz.prog 59 [.pointer (some ⟨b,0,none⟩),.slice oa n oc,.int .i64 p] F M (bdB b pv na bs.length cp::byR na cp bs::H)
   (fun e H'=>∃ na' cp',e=.returned (.int .i64 (p+x.length:Nat))∧H'=bdB b (.pointer (some ⟨b,0,none⟩)) na' (bs++Ze L x).length cp'::byR na' cp' (bs++Ze L x)::H):=by
 intro L
 induction L with
 | zero =>
  intro x r p cp na pv bs H _ hL hn hl hx hok hd hb hw
  have:=hx.pos
  omega
 | succ L IH =>
  intro x r p cp na pv bs H _ hL hn hl hx hok hd hb hw
  subst hn
  refine Meets.enter Tryz.func59 rfl rfl ?_
  obtain ⟨nn,xs,rfl,ha⟩:=At.of_fo hd hx
  obtain ⟨g1,g2⟩:=Z0j ha.drop
  subst g1
  have g3:(v.getD p default).kids=(xs.length:Int):=ha.kids
  have hxl:((v.getD p default)::xs.flatten).length=xs.flatten.length+1:=rfl
  have hxs:=(Fo.of ha.fo).le
  have hvl:=Z3a hd hx.pos
  have hwx:wL ((v.getD p default)::xs.flatten)=6*((v.getD p default).text.length+(v.getD p default).key.length)+20+wL xs.flatten:=rfl
  have hhk:Z3 ((v.getD p default)::xs.flatten)=(v.getD p default):=rfl
  rw [hhk,hwx] at hw
  rw [hxl] at hL hvl ⊢
  have h0:¬ZF (v.getD p default)→xs=[]:=fun h=>by
   have h9:=(hok (v.getD p default) (List.mem_cons_self ..)).2.2 h
   rw [g3] at h9
   exact List.eq_nil_of_length_eq_zero (by omega)
  obtain ⟨hkl,hku,-⟩:=hok (v.getD p default) (List.mem_cons_self ..)
  by_cases k1:(v.getD p default).kind=1
  ·have hxs:xs=[]:=h0 (by unfold ZF;omega)
   subst hxs
   have hsp:Ze (L+1) ((v.getD p default)::([]:List (List Nd)).flatten)=[110,117,108,108]:=by rw [Ze,if_pos k1]
   repeat' (first|(apply T.alloc;apply rfl;intro nb)|refine Sg.Y3 ?_|(apply S.condQ;apply rfl;all_goals intro _)|fail)
   refine Sr.frontR na ?_
   refine Sr.front b ?_
   refine T.call rfl rfl (Zp (s:=[110,117,108,108]) hb (by show _+4≤_;omega)) ?_
   rintro _ _ ⟨na1,cp1,rfl,rfl⟩
   repeat' (first|refine Sg.Y1 ?_|fail)
   rw [hsp]
   exact ⟨_,PSub.take Z0 (PSub.take Z0 (PSub.drop (PSub.refl _))),_,_,rfl,rfl⟩
  by_cases k2:(v.getD p default).kind=2
  ·have hxs:xs=[]:=h0 (by unfold ZF;omega)
   subst hxs
   have hsp:Ze (L+1) ((v.getD p default)::([]:List (List Nd)).flatten)=[102,97,108,115,101]:=by rw [Ze,if_neg k1,if_pos k2]
   repeat' (first|(apply T.alloc;apply rfl;intro nb)|refine Sg.Y3 ?_|(apply S.condQ;apply rfl;all_goals intro _)|fail)
   refine Sr.frontR na ?_
   refine Sr.front b ?_
   refine T.call rfl rfl (Zp (s:=[102,97,108,115,101]) hb (by show _+5≤_;omega)) ?_
   rintro _ _ ⟨na1,cp1,rfl,rfl⟩
   repeat' (first|refine Sg.Y1 ?_|fail)
   rw [hsp]
   exact ⟨_,PSub.take Z0 (PSub.take Z0 (PSub.drop (PSub.refl _))),_,_,rfl,rfl⟩
  by_cases k3:(v.getD p default).kind=3
  ·have hxs:xs=[]:=h0 (by unfold ZF;omega)
   subst hxs
   have hsp:Ze (L+1) ((v.getD p default)::([]:List (List Nd)).flatten)=[116,114,117,101]:=by rw [Ze,if_neg k1,if_neg k2,if_pos k3]
   repeat' (first|(apply T.alloc;apply rfl;intro nb)|refine Sg.Y3 ?_|(apply S.condQ;apply rfl;all_goals intro _)|fail)
   refine Sr.frontR na ?_
   refine Sr.front b ?_
   refine T.call rfl rfl (Zp (s:=[116,114,117,101]) hb (by show _+4≤_;omega)) ?_
   rintro _ _ ⟨na1,cp1,rfl,rfl⟩
   repeat' (first|refine Sg.Y1 ?_|fail)
   rw [hsp]
   exact ⟨_,PSub.take Z0 (PSub.take Z0 (PSub.drop (PSub.refl _))),_,_,rfl,rfl⟩
  by_cases k4:(v.getD p default).kind=4
  ·have hxs:xs=[]:=h0 (by unfold ZF;omega)
   subst hxs
   have hsp:Ze (L+1) ((v.getD p default)::([]:List (List Nd)).flatten)=(v.getD p default).text:=by rw [Ze,if_neg k1,if_neg k2,if_neg k3,if_pos k4]
   repeat' (first|(apply T.alloc;apply rfl;intro nb)|refine Sg.Y3 ?_|(apply S.condQ;apply rfl;all_goals intro _)|fail)
   refine Sr.frontR na ?_
   refine Sr.front b ?_
   refine T.call rfl rfl (Zp hb (by omega)) ?_
   rintro _ _ ⟨na1,cp1,rfl,rfl⟩
   repeat' (first|refine Sg.Y1 ?_|fail)
   rw [hsp]
   exact ⟨_,PSub.take Z0 (PSub.take Z0 (PSub.drop (PSub.refl _))),_,_,rfl,rfl⟩
  by_cases k5:(v.getD p default).kind=5
  ·have hxs:xs=[]:=h0 (by unfold ZF;omega)
   subst hxs
   have hsp:Ze (L+1) ((v.getD p default)::([]:List (List Nd)).flatten)=quoS (v.getD p default).text:=by rw [Ze,if_neg k1,if_neg k2,if_neg k3,if_neg k4,if_pos k5]
   repeat' (first|(apply T.alloc;apply rfl;intro nb)|refine Sg.Y3 ?_|(apply S.condQ;apply rfl;all_goals intro _)|fail)
   refine Sr.frontR na ?_
   refine Sr.front b ?_
   refine T.call rfl rfl (Z32 hb (by omega)) ?_
   rintro _ _ ⟨na1,cp1,rfl,rfl⟩
   repeat' (first|refine Sg.Y1 ?_|fail)
   rw [hsp]
   exact ⟨_,PSub.take Z0 (PSub.take Z0 (PSub.drop (PSub.refl _))),_,_,rfl,rfl⟩
  by_cases k7:(v.getD p default).kind=7
  ·skip
   repeat' (first|(refine T.sidx (i:=0) rfl rfl (by decide) rfl ?_)|(apply T.alloc;apply rfl;intro nb)|refine Sg.Y3 ?_|(apply S.condQ;apply rfl;all_goals intro _)|fail)
   refine Sr.frontR na ?_
   refine Sr.front b ?_
   refine T.call rfl rfl (Zv (x:=123) hb (by omega)) ?_
   rintro _ _ ⟨na1,cp1,rfl,rfl⟩
   repeat' (first|refine Sg.Y1 ?_|fail)
   refine S.loopE 2 [0,1,7,8,26] (fun R b' μ H' e=>∃ (i q:Nat) (na:Option Addr) (cp:Nat) (ys:List UInt8),H'=bdB b (.pointer (some ⟨b,0,none⟩)) na ys.length cp::byR na cp ys::R∧e=(2,.int .i64 q)::(27,.int .i64 i)::b' ∧
    (i≤xs.length∧q=p+1+(xs.take i).flatten.length∧ys=bs++123::Zk ((xs.take i).map (Z0S L ((v.getD p default).kind=7))))∧μ=xs.length - i) rfl rfl ?_ _ _ ⟨0,p+1,na1,cp1,bs++[123],rfl,rfl,⟨Nat.zero_le _,rfl,rfl⟩,rfl⟩ (by repeat' first|exact trivial|refine And.intro rfl ?_)
   rintro _ _ _ ⟨i,q,na,cp,ys,rfl,rfl,⟨h1,h3,h5⟩,rfl⟩ ih
   have hjl:=Z48 (g:=Z0S L ((v.getD p default).kind=7)) (xs:=xs.take i) fun y hy=>Z6l (ha.fo _ (List.mem_of_mem_take hy)) (by have:=Z0b (List.mem_of_mem_take hy);omega)
   have hyl:ys.length=bs.length+1+(Zk ((xs.take i).map (Z0S L ((v.getD p default).kind=7)))).length:=by rw [h5,List.length_append,List.length_cons];omega
   have hwt:=Z9e xs i
   by_cases h4:i < xs.length
   ·have hk:=ha.kid h4
    rw [←h3] at hk
    have hx2:=ha.fo _ (List.getElem_mem h4)
    have hq:=Z3a hk hx2.pos
    have hxp:=hx2.pos
    have ht:=Z0p h4
    have hjn:=Z6e (g:=Z0S L ((v.getD p default).kind=7)) h4
    have hws:=Z7u h4
    have hfl:=Z0b (List.getElem_mem h4)
    have hok2:∀ m∈xs[i],NdSh m:=fun m hm=>hok m (List.mem_cons_of_mem _ (List.mem_flatten.2 ⟨_,List.getElem_mem h4,hm⟩))
    have hhd:v.getD q default=Z3 xs[i]:=by
     obtain ⟨n2,xs2,e2,-⟩:=At.of_fo hk hx2
     rw [e2] at hk ⊢
     exact (Z0j hk).1
    have hql:=Z07 (Z3 xs[i]).key
    have hsl:=Z0q L xs[i] hx2 (by omega)
    have hyq:(ys++quoS (Z3 xs[i]).key).length=ys.length+(quoS (Z3 xs[i]).key).length:=List.length_append
    have hyq1:(ys++[44]++quoS (Z3 xs[i]).key).length=ys.length+1+(quoS (Z3 xs[i]).key).length:=by rw [List.length_append,List.length_append];rfl
    have hit:Z0S L ((v.getD p default).kind=7) xs[i]=quoS (Z3 xs[i]).key++[58]++Ze L xs[i]:=by unfold Z0S;rw [if_pos k7]
    have hy44:(ys++[44]).length=ys.length+1:=List.length_append
    rw [hit] at hjn
    by_cases hi0:i=0
    ·rw [if_pos hi0] at hjn
     repeat' (first|refine Sg.Y3 ?_|(apply S.condQ;apply rfl;all_goals intro _)|fail)
     rw [hhd]
     refine T.call rfl rfl (Z32 (BdOk.self b) (by omega)) ?_
     rintro _ _ ⟨na3,cp3,rfl,rfl⟩
     repeat' (first|refine Sg.Y2 ?_|fail)
     refine T.call rfl rfl (Zv (x:=58) (BdOk.self b) (by omega)) ?_
     rintro _ _ ⟨na4,cp4,rfl,rfl⟩
     repeat' (first|refine Sg.Y2 ?_|fail)
     refine T.call rfl rfl (IH (x:=xs[i]) (by omega) rfl hl hx2 hok2 hk (BdOk.self b) (by rw [List.length_append,hyq];show _+_+1+_≤_;omega)) ?_
     rintro _ _ ⟨na5,cp5,rfl,rfl⟩
     repeat' (first|refine Sg.Y2 ?_|fail)
     exact ih _ _ _ _ ⟨i+1,q+xs[i].length,_,_,((ys++quoS (Z3 xs[i]).key)++[58])++Ze L xs[i],rfl,rfl,⟨h4,by omega,by rw [h5,hjn];simp⟩,rfl⟩ (by omega) (by repeat' first|exact trivial|refine And.intro rfl ?_)
    ·rw [if_neg hi0] at hjn
     repeat' (first|refine Sg.Y3 ?_|(apply S.condQ;apply rfl;all_goals intro _)|fail)
     refine T.call rfl rfl (Zv (x:=44) (BdOk.self b) (by omega)) ?_
     rintro _ _ ⟨na2,cp2,rfl,rfl⟩
     repeat' (first|refine Sg.Y3 ?_|(apply S.condQ;apply rfl;all_goals intro _)|fail)
     rw [hhd]
     refine T.call rfl rfl (Z32 (BdOk.self b) (by omega)) ?_
     rintro _ _ ⟨na3,cp3,rfl,rfl⟩
     repeat' (first|refine Sg.Y2 ?_|fail)
     refine T.call rfl rfl (Zv (x:=58) (BdOk.self b) (by omega)) ?_
     rintro _ _ ⟨na4,cp4,rfl,rfl⟩
     repeat' (first|refine Sg.Y2 ?_|fail)
     refine T.call rfl rfl (IH (x:=xs[i]) (by omega) rfl hl hx2 hok2 hk (BdOk.self b) (by rw [List.length_append,hyq1];show _+_+1+_≤_;omega)) ?_
     rintro _ _ ⟨na5,cp5,rfl,rfl⟩
     repeat' (first|refine Sg.Y2 ?_|fail)
     exact ih _ _ _ _ ⟨i+1,q+xs[i].length,_,_,(((ys++[44])++quoS (Z3 xs[i]).key)++[58])++Ze L xs[i],rfl,rfl,⟨h4,by omega,by rw [h5,hjn];simp⟩,rfl⟩ (by omega) (by repeat' first|exact trivial|refine And.intro rfl ?_)
   ·obtain rfl:i=xs.length:=by omega
    rw [List.take_length] at h3 h5
    repeat' (first|(refine T.sidx (i:=1) rfl rfl (by decide) rfl ?_)|refine Sg.Y3 ?_|(apply S.condQ;apply rfl;all_goals intro _)|fail)
    refine T.call rfl rfl (Zv (x:=125) (BdOk.self b) (by omega)) ?_
    rintro _ _ ⟨na2,cp2,rfl,rfl⟩
    repeat' (first|refine Sg.Y1 ?_|fail)
    have h12:ys++[125]=bs++Ze (L+1) ((v.getD p default)::xs.flatten):=by rw [Z0D ha.kids ha.fo k1 k2 k3 k4 k5,h5,if_pos k7,if_pos k7];simp
    exact ⟨_,PSub.take Z0 (PSub.take Z0 (PSub.drop (PSub.refl _))),_,_,by rw [h3];congr 3;omega,by rw [←h12]⟩
  ·skip
   repeat' (first|(refine T.sidx (i:=0) rfl rfl (by decide) rfl ?_)|(apply T.alloc;apply rfl;intro nb)|refine Sg.Y3 ?_|(apply S.condQ;apply rfl;all_goals intro _)|fail)
   refine Sr.frontR na ?_
   refine Sr.front b ?_
   refine T.call rfl rfl (Zv (x:=91) hb (by omega)) ?_
   rintro _ _ ⟨na1,cp1,rfl,rfl⟩
   repeat' (first|refine Sg.Y1 ?_|fail)
   refine S.loopE 2 [0,1,7,8,26] (fun R b' μ H' e=>∃ (i q:Nat) (na:Option Addr) (cp:Nat) (ys:List UInt8),H'=bdB b (.pointer (some ⟨b,0,none⟩)) na ys.length cp::byR na cp ys::R∧e=(2,.int .i64 q)::(27,.int .i64 i)::b' ∧
    (i≤xs.length∧q=p+1+(xs.take i).flatten.length∧ys=bs++91::Zk ((xs.take i).map (Z0S L ((v.getD p default).kind=7))))∧μ=xs.length - i) rfl rfl ?_ _ _ ⟨0,p+1,na1,cp1,bs++[91],rfl,rfl,⟨Nat.zero_le _,rfl,rfl⟩,rfl⟩ (by repeat' first|exact trivial|refine And.intro rfl ?_)
   rintro _ _ _ ⟨i,q,na,cp,ys,rfl,rfl,⟨h1,h3,h5⟩,rfl⟩ ih
   have hjl:=Z48 (g:=Z0S L ((v.getD p default).kind=7)) (xs:=xs.take i) fun y hy=>Z6l (ha.fo _ (List.mem_of_mem_take hy)) (by have:=Z0b (List.mem_of_mem_take hy);omega)
   have hyl:ys.length=bs.length+1+(Zk ((xs.take i).map (Z0S L ((v.getD p default).kind=7)))).length:=by rw [h5,List.length_append,List.length_cons];omega
   have hwt:=Z9e xs i
   by_cases h4:i < xs.length
   ·have hk:=ha.kid h4
    rw [←h3] at hk
    have hx2:=ha.fo _ (List.getElem_mem h4)
    have hq:=Z3a hk hx2.pos
    have hxp:=hx2.pos
    have ht:=Z0p h4
    have hjn:=Z6e (g:=Z0S L ((v.getD p default).kind=7)) h4
    have hws:=Z7u h4
    have hfl:=Z0b (List.getElem_mem h4)
    have hok2:∀ m∈xs[i],NdSh m:=fun m hm=>hok m (List.mem_cons_of_mem _ (List.mem_flatten.2 ⟨_,List.getElem_mem h4,hm⟩))
    have hhd:v.getD q default=Z3 xs[i]:=by
     obtain ⟨n2,xs2,e2,-⟩:=At.of_fo hk hx2
     rw [e2] at hk ⊢
     exact (Z0j hk).1
    have hql:=Z07 (Z3 xs[i]).key
    have hsl:=Z0q L xs[i] hx2 (by omega)
    have hyq:(ys++quoS (Z3 xs[i]).key).length=ys.length+(quoS (Z3 xs[i]).key).length:=List.length_append
    have hyq1:(ys++[44]++quoS (Z3 xs[i]).key).length=ys.length+1+(quoS (Z3 xs[i]).key).length:=by rw [List.length_append,List.length_append];rfl
    have hit:Z0S L ((v.getD p default).kind=7) xs[i]=Ze L xs[i]:=by unfold Z0S;rw [if_neg k7];rfl
    have hy44:(ys++[44]).length=ys.length+1:=List.length_append
    rw [hit] at hjn
    by_cases hi0:i=0
    ·rw [if_pos hi0] at hjn
     repeat' (first|refine Sg.Y3 ?_|(apply S.condQ;apply rfl;all_goals intro _)|fail)
     skip
     refine T.call rfl rfl (IH (x:=xs[i]) (by omega) rfl hl hx2 hok2 hk (BdOk.self b) (by omega)) ?_
     rintro _ _ ⟨na5,cp5,rfl,rfl⟩
     repeat' (first|refine Sg.Y2 ?_|fail)
     exact ih _ _ _ _ ⟨i+1,q+xs[i].length,_,_,ys++Ze L xs[i],rfl,rfl,⟨h4,by omega,by rw [h5,hjn];simp⟩,rfl⟩ (by omega) (by repeat' first|exact trivial|refine And.intro rfl ?_)
    ·rw [if_neg hi0] at hjn
     repeat' (first|refine Sg.Y3 ?_|(apply S.condQ;apply rfl;all_goals intro _)|fail)
     refine T.call rfl rfl (Zv (x:=44) (BdOk.self b) (by omega)) ?_
     rintro _ _ ⟨na2,cp2,rfl,rfl⟩
     repeat' (first|refine Sg.Y3 ?_|(apply S.condQ;apply rfl;all_goals intro _)|fail)
     skip
     refine T.call rfl rfl (IH (x:=xs[i]) (by omega) rfl hl hx2 hok2 hk (BdOk.self b) (by omega)) ?_
     rintro _ _ ⟨na5,cp5,rfl,rfl⟩
     repeat' (first|refine Sg.Y2 ?_|fail)
     exact ih _ _ _ _ ⟨i+1,q+xs[i].length,_,_,(ys++[44])++Ze L xs[i],rfl,rfl,⟨h4,by omega,by rw [h5,hjn];simp⟩,rfl⟩ (by omega) (by repeat' first|exact trivial|refine And.intro rfl ?_)
   ·obtain rfl:i=xs.length:=by omega
    rw [List.take_length] at h3 h5
    repeat' (first|(refine T.sidx (i:=1) rfl rfl (by decide) rfl ?_)|refine Sg.Y3 ?_|(apply S.condQ;apply rfl;all_goals intro _)|fail)
    refine T.call rfl rfl (Zv (x:=93) (BdOk.self b) (by omega)) ?_
    rintro _ _ ⟨na2,cp2,rfl,rfl⟩
    repeat' (first|refine Sg.Y1 ?_|fail)
    have h12:ys++[93]=bs++Ze (L+1) ((v.getD p default)::xs.flatten):=by rw [Z0D ha.kids ha.fo k1 k2 k3 k4 k5,h5,if_neg k7,if_neg k7];simp
    exact ⟨_,PSub.take Z0 (PSub.take Z0 (PSub.drop (PSub.refl _))),_,_,by rw [h3];congr 3;omega,by rw [←h12]⟩
theorem Z33 (hT:Tabs F M) [Rd F M H oa (v.flatMap ndV)] (hn:v.length=n) (hl:n≤2200000) (htx:∀ x∈v,(x.kind=4→x.text.length≤2200000)∧x.text.length≤9223372036854775807∧x.key.length≤2200000∧x.kids≤9223372036854775807) (hw:wL v≤50000000) :
  Meets Tryz.prog 33 [.slice oa n oc] F M H (fun e H'=>e=.returned (.tuple ⟨[sV (Z1L Lib.validD v).1,.int .i64 (Z1L Lib.validD v).2]⟩)∧H'=H):=by
 subst hn
 refine Meets.enter Tryz.func33 rfl rfl ?_
 cases hs:ZG Lib.validD v with
 | false =>
  have hp:Z1L Lib.validD v=([],31):=by unfold Z1L;rw [hs,if_neg (by simp)]
  rw [hp]
  repeat' (first|refine Sg.Y1 ?_|fail)
  refine T.call rfl rfl (Z1n (oa:=oa) hT rfl hl htx) ?_
  rintro _ _ ⟨rfl,rfl⟩
  rw [hs]
  repeat' (first|refine Sg.Y1 ?_|fail)
  exact ⟨_,PSub.refl _,rfl,rfl⟩
 | true =>
  have hp:Z1L Lib.validD v=if 262144 < (Ze v.length v).length then ([],10) else (Ze v.length v,0):=by unfold Z1L;rw [hs,if_pos rfl]
  rw [hp]
  obtain ⟨hf,hok⟩:=Z5V hs
  have hsl:=Z0q v.length v hf (Nat.le_refl _)
  have hps:=Z9u hs
  repeat' (first|refine Sg.Y1 ?_|fail)
  refine T.call rfl rfl (Z1n (oa:=oa) hT rfl hl htx) ?_
  rintro _ _ ⟨rfl,rfl⟩
  rw [hs]
  repeat' (first|(apply T.alloc;apply rfl;intro nb)|refine Sg.Y1 ?_|fail)
  refine Sr.nilrow 5 1 ?_
  refine Sr.front nb ?_
  refine T.call rfl rfl (Z5Q v.length (x:=v) (r:=[]) (p:=0) (bs:=[]) (pv:=.pointer none) (na:=none) (cp:=0) (Nat.le_refl _) rfl hl hf hok (by simp) (.inl rfl) (by rw [List.length_nil];omega)) ?_
  rintro _ _ ⟨na1,cp1,rfl,rfl⟩
  rw [List.nil_append]
  generalize Ze v.length v=tx at *
  repeat' (first|refine Sg.Y1 ?_|fail)
  refine T.call rfl rfl Z96 ?_
  rintro _ _ ⟨rfl,rfl⟩
  by_cases hL:262144 < tx.length
  ·rw [if_pos hL]
   repeat' (first|refine Sg.Y3 ?_|(apply S.condQ;apply rfl;all_goals intro _)|fail)
   exact ⟨_,PSub.drop (PSub.drop (PSub.refl _)),rfl,rfl⟩
  ·rw [if_neg hL]
   repeat' (first|refine Sg.Y3 ?_|(apply S.condQ;apply rfl;all_goals intro _)|fail)
   refine T.call rfl rfl (Z5G hps) ?_
   rintro _ _ ⟨rfl,rfl⟩
   repeat' (first|refine Sg.Y2 ?_|fail)
   exact ⟨_,PSub.refl _,rfl,rfl⟩
end
end Go.Proofs.YtophlopiigpbgaaGreatDoor
/- The law's look at a payload that is known: a hidden member is revealed, and one that is not disclosed is gone. -/
namespace Go.Proofs.YtophlopiigpbgaaGreatDoor
open Sg Go Go.RowKit Go.IntWalk
set_option maxRecDepth 100000
set_option maxHeartbeats 4000000
abbrev alB:List UInt8:=[91,34,115,34,44,34,97,34,44,49,93]
abbrev alD:List UInt8:=[87,121,74,122,73,105,119,105,89,83,73,115,77,86,48]
abbrev alG:List UInt8:=[66,71,84,120,121,85,101,70,99,107,66,106,52,53,119,107,118,70,104,121,116,81,122,84,69,108,78,57,56,53,113,52,56,115,53,56,57,68,108,122,90,75,119]
abbrev alT:List UInt8:=[123,34,98,34,58,50,44,34,95,115,100,34,58,91,34,120,34,44,34,66,71,84,120,121,85,101,70,99,107,66,106,52,53,119,107,118,70,104,121,116,81,122,84,69,108,78,57,56,53,113,52,56,115,53,56,57,68,108,122,90,75,119,34,93,125]
def alV:List Nd:=[⟨7,[],[],false,0,2⟩,⟨4,[98],[50],true,2,0⟩,⟨6,sdN,[],false,0,2⟩,⟨5,[],[120],false,0,0⟩,⟨5,[],alG,false,0,0⟩]
def alO:List Nd:=[⟨7,[],[],false,0,2⟩,⟨4,[98],[50],true,2,0⟩,⟨4,[97],[49],true,1,0⟩]
theorem Ze6:enc urlS alB=alD:=by decide +kernel
theorem Ze7:Z2 alD=alG:=by decide +kernel
theorem Zc1:Zy Zb alT=.ok 65 alV:=by kernel_rfl
theorem ZaR:Z31 Lib.validD Z2G alV [alD]=(0,alO):=by kernel_rfl
theorem Zc0:Z1L Lib.validD alO=([123,34,98,34,58,50,44,34,97,34,58,49,125],0):=by kernel_rfl
theorem Zc2:AllB alV:=by unfold AllB NdB alV;decide
theorem Z97 {F:World} {M:List Nat} {H:List Res} (hT:Tabs F M) (hS:ShP F M):Meets Tryz.prog 12 [] F M H (fun e H'=>e=.returned (.bool true)∧H'=H):=by
 refine Meets.enter Tryz.func12 rfl rfl ?_
 repeat' (first|(apply T.bs;(iterate 6 apply rfl);intro nb)|refine Sg.Y1 ?_|fail)
 rw [show ([.int .u8 91,.int .u8 34,.int .u8 115,.int .u8 34,.int .u8 44,.int .u8 34,.int .u8 97,.int .u8 34,.int .u8 44,.int .u8 49,.int .u8 93]:List Value)=alB.map bV from rfl]
 refine T.convM (E':=5) rfl rfl ?_
 have hp:Rd F M (.obj nb (.cells ⟨alB.map bV⟩ 5 ((alB.map bV).length,(alB.map bV).length+1))::H) (some ⟨nb,0,none⟩) (alB.map bV):=Rd.mrk
 refine T.call rfl rfl (Z1t (bs:=alB) (c:=11) hp (by decide) (by decide)) ?_
 rintro _ _ ⟨rfl,r,rfl⟩
 rw [Ze6]
 repeat' (first|refine Sg.Y1 ?_|fail)
 refine T.call rfl rfl (Z0Q (bs:=alD) hS (by decide)) ?_
 rintro _ _ ⟨rfl,rfl⟩
 rw [Ze7]
 repeat' (first|(apply T.sadd;apply rfl;apply rfl;decide;apply rfl)|(with_reducible apply T.ofRet)|fail)
 refine T.call rfl rfl (Z0F (t:=alT) hT (by decide)) ?_
 rw [Zc1]
 rintro _ _ ⟨va,vc,rfl,rfl⟩
 repeat' (first|(apply T.bs;(iterate 6 apply rfl);intro nb)|refine Sg.Y1 ?_|fail)
 rename_i nb'
 have hp2:Rd F M (.blk nb [sV alD] 9::ouR va vc alV::r::.obj nb' (.cells ⟨alB.map bV⟩ 5 ((alB.map bV).length,(alB.map bV).length+1))::H) (some ⟨nb,0,none⟩) ([alD].map sV):=Rd.blk0
 refine T.call rfl rfl (Z2t (v:=alV) (ts:=[alD]) (va:=va) (vc:=vc) (tc:=1) hT hS Rd.tl hp2 Zc2 (by unfold alV;decide) (by decide) (by decide)) ?_
 rw [ZaR]
 rintro _ _ ⟨oa,oc,rfl,rfl⟩
 repeat' (first|refine Sg.Y1 ?_|fail)
 refine T.call rfl rfl (Z33 (v:=alO) hT rfl (by decide) (by unfold alO;decide) (by decide)) ?_
 rw [Zc0]
 rintro _ _ ⟨rfl,rfl⟩
 repeat' (first|refine Sg.Y1 ?_|fail)
 exact ⟨H,PSub.drop (PSub.drop (PSub.drop (PSub.drop (PSub.drop (PSub.refl _))))),rfl,rfl⟩
end Go.Proofs.YtophlopiigpbgaaGreatDoor
/- The law of SdPlain: walked. -/
namespace Sg
def Z66 (v:List Nd):Bool:=v.all (fun n=>decide (n.key≠sdN)&&decide (n.key≠ZJ))&&decide ((Z3 v).kind=7)
theorem plainB_iff {v:List Nd}:Z66 v=true↔Bare v∧(Z3 v).kind=7:=by
 simp [Z66,Bare]
end Sg
namespace Go.Proofs.YtophlopiigpbgaaGreatDoor
open Sg Go Go.RowKit Go.IntWalk
set_option maxRecDepth 100000
set_option maxHeartbeats 4000000
section
variable {F:World} {M:List Nat} {H:List Res}
theorem Z71 {v:List Nd} {va:Option Addr} {vc:Nat} (hR:Rd F M H va (v.flatMap ndV)) (hl:v.length≤1000000000000) :
  Meets Tryz.prog 14 [.slice va v.length vc] F M H (fun e H'=>e=.returned (.bool (Z66 v))∧H'=H):=by
 refine Meets.enter Tryz.func14 rfl rfl ?_
 generalize hQ:Z66 v=Q
 repeat' (first|refine Sg.Y1 ?_|fail)
 refine S.loopE 0 [0] (fun R b' μ H' e=>∃ i:Nat,H'=R∧e=(3,.int .i64 i)::b'∧(i≤v.length∧∀ j,j < i→(v.getD j default).key≠[95,115,100]∧(v.getD j default).key≠[46,46,46])∧μ=v.length - i) rfl rfl ?_ _ _ ⟨0,rfl,rfl,⟨Nat.zero_le _,fun j hj=>by omega⟩,rfl⟩ (by repeat' first|exact trivial|refine And.intro rfl ?_)
 rintro _ _ _ ⟨i,rfl,rfl,⟨h1,h2⟩,rfl⟩ ih
 by_cases h3:i < v.length
 ·have bad:¬((v.getD i default).key≠[95,115,100]∧(v.getD i default).key≠[46,46,46])→Q=false:=fun hb=>by
   rw [←hQ,←Bool.not_eq_true,plainB_iff]
   rintro ⟨p1,-⟩
   refine hb (p1 _ ?_)
   rw [List.getD_eq_getElem?_getD,List.getElem?_eq_getElem h3]
   exact List.getElem_mem h3
  by_cases k1:(v.getD i default).key=[95,115,100]
  ·obtain rfl:=bad (fun h=>h.1 k1)
   repeat' (first|refine Sg.Y3 ?_|(apply S.condQ;apply rfl;all_goals intro _)|(apply T.gcase;apply rfl;apply rfl;all_goals intro _)|fail)
   exact ⟨_,PSub.refl _,rfl,rfl⟩
  ·by_cases k2:(v.getD i default).key=[46,46,46]
   ·obtain rfl:=bad (fun h=>h.2 k2)
    repeat' (first|refine Sg.Y3 ?_|(apply S.condQ;apply rfl;all_goals intro _)|(apply T.gcase;apply rfl;apply rfl;all_goals intro _)|fail)
    exact ⟨_,PSub.refl _,rfl,rfl⟩
   ·repeat' (first|refine Sg.Y3 ?_|(apply S.condQ;apply rfl;all_goals intro _)|(apply T.gcase;apply rfl;apply rfl;all_goals intro _)|fail)
    exact ih _ _ _ _ ⟨i+1,rfl,rfl,⟨by omega,fun j hj=>by
     rcases Nat.lt_succ_iff_lt_or_eq.1 hj with hj|rfl
     ·exact h2 j hj
     ·exact ⟨k1,k2⟩⟩,rfl⟩ (by omega) (by repeat' first|exact trivial|refine And.intro rfl ?_)
 ·obtain rfl:i=v.length:=by omega
  have hb:Bare v:=fun n hn=>by
   obtain ⟨j,hj,rfl⟩:=List.mem_iff_getElem.1 hn
   have:=h2 j hj
   rw [List.getD_eq_getElem?_getD,List.getElem?_eq_getElem hj] at this
   exact this
  clear ih
  by_cases h0:0 < v.length
  ·have e0:Z3 v=v.getD 0 default:=by
    cases v with
    | nil=>exact absurd h0 (by simp)
    | cons n r=>rfl
   by_cases k7:(v.getD 0 default).kind=7
   ·obtain rfl:Q=true:=by
     rw [←hQ,plainB_iff]
     exact ⟨hb,by rw [e0];exact k7⟩
    repeat' (first|refine Sg.Y3 ?_|(apply S.condQ;apply rfl;all_goals intro _)|(apply T.gcase;apply rfl;apply rfl;all_goals intro _)|fail)
    exact ⟨_,PSub.refl _,by rw [decide_eq_true k7],rfl⟩
   ·obtain rfl:Q=false:=by
     rw [←hQ,←Bool.not_eq_true,plainB_iff]
     exact fun h=>k7 (by rw [←e0];exact h.2)
    repeat' (first|refine Sg.Y3 ?_|(apply S.condQ;apply rfl;all_goals intro _)|(apply T.gcase;apply rfl;apply rfl;all_goals intro _)|fail)
    exact ⟨_,PSub.refl _,by rw [decide_eq_false k7],rfl⟩
  ·obtain rfl:Q=false:=by
    rw [←hQ,←Bool.not_eq_true,plainB_iff]
    obtain rfl:v=[]:=List.eq_nil_of_length_eq_zero (by omega)
    rintro ⟨-,h⟩
    exact absurd h (by decide)
   repeat' (first|refine Sg.Y3 ?_|(apply S.condQ;apply rfl;all_goals intro _)|(apply T.gcase;apply rfl;apply rfl;all_goals intro _)|fail)
   exact ⟨_,PSub.refl _,rfl,rfl⟩
end
end Go.Proofs.YtophlopiigpbgaaGreatDoor
