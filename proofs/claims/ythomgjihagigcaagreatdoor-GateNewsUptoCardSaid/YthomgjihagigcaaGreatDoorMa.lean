/- Texts put together by a program: Law LawR LawU Mark MoreB MoreC Str Map MapT MapU ShaP Word StrB LawT LawS Bulk GtR JsnP JsnU. -/
import Derived.Test.YthomgjihagigcaaGreatDoorRecs
import Derived.ProofKit
import Derived.Carry
import Derived.LaidMore
import Derived.OpenShut
import Derived.Stop.Joined
import Derived.SizedLaws
import Derived.DataReads
import Derived.Deep.DeepHandedRow
import Derived.Laws.Strings
import Derived.Laws.Strings2
import Derived.Laws.Slices
import Derived.Laws.BytesString
import Derived.Maps.OwnSet
import Derived.Maps.Range
import Derived.Lib.AppendStr
import Derived.Sort.KeysCollected
import Derived.Sort.Walk0
import Derived.Laws.CopyRow
import Derived.Lib.ConvBytes
import Derived.LaidLaws
import Derived.Handed
import Derived.Shelf.Vars
import Derived.Test.YthomgjihagigcaaGreatDoorRows
import Derived.Lib.SliceRun
import Derived.ArgAppend
import Derived.Test.YthomgjihagigcaaGreatDoorCore
import Derived.Lib.DecodeNEq
/- From a walk of a law to its row: the arguments opened, and read again behind the call; for every program. -/
namespace Sg
open Go Go.ChangeShapes Go.WideShapes Go.RowKit

theorem Z1f {H:Type} {enc:TypeId × Value→H} {P:Program} (hl:laidOutB P=true) {W W':World} (hb:Below W.heap.size W W'):∀ {ts:List TypeId} {vs:List Value} {ds:List (DataW H)} {ps:List MemPlace},
  ts.all (fun t=>P.readableRec t&&decide (t < P.types.size))=true→DataW.TrodAll enc P W 0 (fun _=>true) true ts vs ds ps→(∀ x∈ps,x.block < W.heap.size)→DataW.TrodAll enc P W' 0 (fun b=>decide (b < W.heap.size)) true ts vs ds ps
 | [],[],[],_,_,h,_=>h
 | t::ts,v::vs,d::ds,ps,ht,h,hlt=>by
  obtain ⟨p,q,h1,h2,rfl⟩:=h
  simp only [List.all_cons,Bool.and_eq_true,decide_eq_true_eq] at ht
  exact ⟨p,q,Below.trod hl ht.1.1 ht.1.2 h1 hb (fun x hx=>hlt x (List.mem_append_left _ hx)),Z1f hl hb (by simpa using ht.2) h2 (fun x hx=>hlt x (List.mem_append_right _ hx)),rfl⟩
 | [],_::_,_,_,_,h,_=>h.elim
 | [],[],_::_,_,_,h,_=>h.elim
 | _::_,[],_,_,_,h,_=>h.elim
 | _::_,_::_,[],_,_,h,_=>h.elim
theorem Z1T {H:Type} {enc:TypeId × Value→H} {P:Program} {W:World} {base:Nat} {sp:Nat→Bool} {held:Bool}:∀ {ts:List TypeId} {vs:List Value} {ds:List (DataW H)} {ps:List MemPlace},DataW.TrodAll enc P W base sp held ts vs ds ps→ds.length=ts.length
 | [],[],[],_,_=>rfl
 | t::ts,v::vs,d::ds,ps,h=>by
  obtain ⟨p,q,h1,h2,rfl⟩:=h
  rw [List.length_cons,List.length_cons,Z1T h2]
 | [],_::_,_,_,h=>h.elim
 | [],[],_::_,_,h=>h.elim
 | _::_,[],_,_,h=>h.elim
 | _::_,_::_,[],_,h=>h.elim
/- Arguments, opened. -/
theorem Z8e {w:World} {a:Addr} {v:Value} (h:w.cell? a=some v):a.block < w.heap.size:=by
 rcases Nat.lt_or_ge a.block w.heap.size with h1|h1
 ·exact h1
 ·simp [World.cell?,Array.getElem?_eq_none h1] at h
theorem Rd.ofF {F:World} {H:List Res} {ad:Option Addr} {vs:List Value} (h:∀ j u,vs[j]?=some u→∃ a,ad=some a∧F.cell? (a.add j)=some u):Rd F [] H ad vs:=⟨fun w hw j u hu=>by
 obtain ⟨a,ha,hc⟩:=h j u hu
 refine ⟨a,ha,?_⟩
 have hlt:=Z8e hc
 have:=hw.keep _ hlt (by simp)
 simp only [World.cell?] at hc ⊢
 rw [this]
 exact hc⟩
/- Listed arrays of numbers. -/
theorem Z6F {P:Program} {W:World} {nm:String} {g T E n:Nat} {k:IntKind} {ns:List Int} {cs:Array Value} {fuel:Nat} {p:List MemPlace} {sp:Nat→Bool} (hg:P.globalNamed nm=some g) (hT:P.underlying T=some (.array n E)) (hE:P.underlying E=some (.int k)) (hc:P.cellsOf E=1)
  (hv:W.var? P nm=some cs) (hd:DataW.trod (fun _=>()) P W 0 sp false fuel T cs.toList=some (.agg (ns.map fun z=>.lit (.int k z)),p)):∀ j z,ns[j]?=some z→W.cell? ⟨g,j,none⟩=some (.int k z):=by
 intro j z hz
 obtain ⟨xs,m,rfl,hx,hlen,hn,hel⟩:=DataW.trod_array hT hd
 simp only [Prod.mk.injEq,DataW.agg.injEq] at hx
 have hj:j < ns.length:=(List.getElem?_eq_some_iff.1 hz).1
 have hxl:xs.length=ns.length:=by
  have:=congrArg List.length hx.1
  simpa using this.symm
 have h1:=hel j (by omega)
 rw [hc,Nat.mul_one,List.getElem?_eq_getElem (by omega)] at h1
 obtain ⟨z',e1,e2,-⟩:=DataW.trod_int hE h1
 have h2:(xs.map (·.1))[j]?=(ns.map fun z=>(DataW.lit (.int k z):DataW Unit))[j]?:=by rw [hx.1]
 rw [List.getElem?_map,List.getElem?_map,hz,List.getElem?_eq_getElem (by omega),e2] at h2
 simp only [Option.map_some,Option.some.injEq,DataW.lit.injEq,Lit.int.injEq,true_and] at h2
 subst h2
 have h3:cs[j]?=some (.int k z'):=by
  have:(cs.toList.drop j).take 1=[.int k z']:=e1
  have h4:((cs.toList.drop j).take 1)[0]?=some (.int k z'):=by rw [this];rfl
  rw [List.getElem?_take_of_lt (by omega),List.getElem?_drop] at h4
  simpa using h4
 rw [World.var?_cell hg hv j]
 exact h3
end Sg
/- Slices of records handed in, opened; for every program. -/
namespace Sg
open Go Go.ChangeShapes Go.WideShapes Go.RowKit
theorem Z6C {α:Type} {Q:Nat→α→Prop}:∀ (n:Nat),(∀ i,i < n→∃ a,Q i a)→∃ xs:List α,xs.length=n∧∀ i a,xs[i]?=some a→Q i a
 | 0,_=>⟨[],rfl,fun i a h=>by simp at h⟩
 | n+1,h=>by
  obtain ⟨xs,h1,h2⟩:=Z6C n (fun i hi=>h i (by omega))
  obtain ⟨a,ha⟩:=h n (by omega)
  refine ⟨xs++[a],by simp [h1],fun i b hb=>?_⟩
  by_cases hi:i < xs.length
  ·rw [List.getElem?_append_left hi] at hb
   exact h2 i b hb
  ·have hl:=(List.getElem?_eq_some_iff.1 hb).1
   simp only [List.length_append,List.length_cons,List.length_nil] at hl
   have hie:i=xs.length:=by omega
   subst hie
   rw [List.getElem?_append_right (Nat.le_refl _),Nat.sub_self,List.getElem?_cons_zero,Option.some.injEq] at hb
   subst hb
   rw [h1]
   exact ha
theorem Z8h (a:Addr) (x y:Nat):a.add (x+y)=(a.add x).add y:=by
 unfold Addr.add
 by_cases hx:x=0
 ·subst hx
  simp
 ·by_cases hy:y=0
  ·subst hy
   simp
  ·simp [hx,hy,Nat.add_assoc]
end Sg
/- From a walk of a law to its row in the second form (what it reads is of bounded bulk); for every program. -/
namespace Sg
open Go Go.ChangeShapes Go.WideShapes Go.RowKit
end Sg
/- A byte slice of a literal turned into its own type: its block is marked behind its last cell, and only read from then on. -/
namespace Sg
open Go Go.RowKit
instance Rd.mrk {F:World} {M:List Nat} {H:List Res} {b:Nat} {vs:List Value} {E:TypeId} {fr:Nat × Nat}:Rd F M (.obj b (.cells ⟨vs⟩ E fr)::H) (some ⟨b,0,none⟩) vs:=⟨fun w hw j u hu=>⟨⟨b,0,none⟩,rfl,by
 have hb:w.heap[b]?=some (.cells ⟨vs⟩ E fr):=hw.res _ (List.mem_cons_self ..)
 rw [Zh,Nat.zero_add]
 simp [World.cell?,hb,hu]⟩⟩
section
variable {c:Ctx} {H:List Res} {e:Env} {dst:Option Tmp} {ty:TypeId} {pos:String} {aft:Array Edge} {g:Option (Nat × Bool)}
theorem Ef.convM {x:Operand} {b n cp:Nat} {vs:List Value} {t E E':TypeId} (hx:ev e x=some (.slice (some ⟨b,0,none⟩) n cp)) [HU c.P t (.slice E')] [HU c.P E' (.int .u8)] :
  Ef c (.blk b vs E::H) e ⟨dst,.convert t t x,ty,pos,aft,g⟩ fun v H'=>v=.slice (some ⟨b,0,none⟩) n cp∧H'=.obj b (.cells ⟨vs⟩ E (vs.length,vs.length+1))::H:=fun w a hw ha=>by
 have hb:w.heap[b]?=some (.cells ⟨vs⟩ E (0,0)):=hw.res _ (List.mem_cons_self ..)
 have hsh:w.shape? b=some (E,vs.length):=by
  unfold World.shape?
  rw [hb]
  rfl
 have h1:∀ j,b≠j→(w.freeze ⟨b,vs.length,none⟩ 1).heap[j]?=w.heap[j]?:=fun j hj=>by
  unfold World.freeze
  rw [if_neg (by decide)]
  show (w.heap.modify b _)[j]?=_
  rw [Array.getElem?_modify,if_neg hj]
 have h2:(w.freeze ⟨b,vs.length,none⟩ 1).heap[b]?=some (.cells ⟨vs⟩ E (vs.length,vs.length+1)):=by
  unfold World.freeze
  rw [if_neg (by decide)]
  show (w.heap.modify b _)[b]?=_
  rw [Array.getElem?_modify,if_pos rfl,hb]
  rfl
 have h3:(w.freeze ⟨b,vs.length,none⟩ 1).heap.size=w.heap.size:=by
  unfold World.freeze
  rw [if_neg (by decide)]
  simp
 refine ⟨_,w.freeze ⟨b,vs.length,none⟩ 1,_,.inl ?_,?_,rfl,rfl⟩
 ·simp [execOp,ha.ev hx,convert,Z6 (d:=.slice E'),Z6 (d:=.int .u8),markStringish,hsh]
 ·refine hw.turn ?_ ?_ ?_ (Nat.le_of_eq h3.symm) (fun j _ hj=>h1 j (by simpa [Res.foot,eq_comm] using hj)) h2 (fun c hc=>.inl hc) (by simp [Res.foot])
  all_goals (unfold World.freeze;rw [if_neg (by decide)])
end
theorem T.convM {c:Ctx} {dr:Bool} {ds:List Deferred} {H:List Res} {e:Env} {ops:Array Oper} {l:List Oper} {κ:List Res→Env→Prop} {ty:TypeId} {pos:String} {aft:Array Edge} {d:Tmp} {x:Operand} {b n cp:Nat} {vs:List Value} {t E E':TypeId} (hx:ev e x=some (.slice (some ⟨b,0,none⟩) n cp)) [HU c.P t (.slice E')] [HU c.P E' (.int .u8)] (hlt:Nat.blt d c.fn.ntmps=true)
  (hk:Sr (.eff dr) c ds (.obj b (.cells ⟨vs⟩ E (vs.length,vs.length+1))::H) ops l κ ((d,.slice (some ⟨b,0,none⟩) n cp)::e)):Sr (.eff dr) c ds (.blk b vs E::H) ops (⟨some d,.convert t t x,ty,pos,aft,none⟩::l) κ e :=
 Sr.eff (Ef.convM (E':=E') hx) hlt rfl fun v H' ⟨hv,hH⟩=>by
  subst hv hH
  exact hk
end Sg
/- More rules: the complement of a number, shifts of negative ones, a literal as a slice that may grow. -/
namespace Sg
open Go Go.RowKit
theorem St.weakB {F:World} {M:List Nat} {w:World} {H H':List Res} (h:St F M w H) (hf:∀ b∈feet H',b∈feet H) (hn:(feet H').Nodup) (hr:∀ r∈H',r.holds w):St F M w H' :=
 ⟨h.os,h.tape,h.output,h.size,h.keep,fun b hb=>h.own b (hf b hb),hn,hr⟩
theorem St.blkRow {F:World} {M:List Nat} {w:World} {H:List Res} {b n:Nat} {vs:List Value} {E:TypeId} (h:St F M w (.blk b vs E::H)) (hn:vs.length=n) (hm:n≤maxLen):St F M w (.row (some ⟨b,0,none⟩) n E 1 n vs::H):=by
 refine h.weakB (fun _ h=>h) h.nd (fun r hr=>?_)
 rcases List.mem_cons.1 hr with rfl|hr
 ·have hb:w.heap[b]?=some (.cells ⟨vs⟩ E (0,0)):=h.res _ (List.mem_cons_self ..)
  subst hn
  exact ⟨(Nat.mul_one _).symm,.inr ⟨b,vs.length,⟨vs⟩,rfl,Nat.zero_le _,hb,Nat.le_refl _,hm,by simp,by simp⟩⟩
 ·exact h.res r (List.mem_cons_of_mem _ hr)
section
variable {c:Ctx} {dr:Bool} {ds:List Deferred} {H:List Res} {e:Env} {ops:Array Oper} {l:List Oper} {κ:List Res→Env→Prop} {ty:TypeId} {pos:String} {aft:Array Edge} {q:Mode}
theorem Sr.rowOf {b n:Nat} {vs:List Value} {E:TypeId} (hn:vs.length=n) (hm:n≤maxLen) (h:Sr (.eff dr) c ds (.row (some ⟨b,0,none⟩) n E 1 n vs::H) ops l κ e):Sr (.eff dr) c ds (.blk b vs E::H) ops l κ e:=h.weaken fun _ hw=>hw.blkRow hn hm
theorem S.rowOf {k:List Item} {b n:Nat} {vs:List Value} {E:TypeId} (hn:vs.length=n) (hm:n≤maxLen) (h:S c ds (.row (some ⟨b,0,none⟩) n E 1 n vs::H) k e):S c ds (.blk b vs E::H) k e:=h.weaken fun _ hw=>hw.blkRow hn hm
end
end Sg
/- More rules: a whole slice of records appended. -/
namespace Sg
open Go Go.RowKit
section
variable {c:Ctx} {dr:Bool} {ds:List Deferred} {H:List Res} {e:Env} {ops:Array Oper} {l:List Oper} {κ:List Res→Env→Prop} {ty:TypeId} {pos:String} {aft:Array Edge}
theorem T.appendAllF {α:Type} {g:α→List Value} {sz:Nat} {d:Tmp} {x y:Operand} {ad sad:Option Addr} {n cp m scp t E:Nat} [HU c.P t (.slice E)] {z:Value} {by_:Nat} [HI c.P E z sz by_] {xs us:List α} {f:Res→List Res} (hx:ev e x=some (.slice ad n cp)) (hy:ev e y=some (.slice sad m scp))
  (hr:AtR H ad cp E sz n (xs.flatMap g) f) (hs:Rd c.F c.M H sad (us.flatMap g)) (hm:us.length=m) (hg:∀ a,(g a).length=sz) (hone:∀ a,(g a).all (·.oneCell')=true) (hzs:z.cells.size=sz) (hsz:Nat.blt 0 sz=true) (hroom:(n+m)*by_≤140737488355328∧n+m≤140737488355328) (hlt:Nat.blt d c.fn.ntmps=true)
  (hk:∀ ad' cp',Sr (.eff dr) c ds (f (.row ad' cp' E sz (n+m) ((xs++us).flatMap g))) ops l κ ((d,.slice ad' (n+m) cp')::e)) :
  Sr (.eff dr) c ds H ops (⟨some d,.call ⟨.builtin .append,#[x,y],#[t,t]⟩,ty,pos,aft,none⟩::l) κ e:=by
 have hs0:0 < sz:=by simpa [Nat.blt_eq] using hsz
 have hk':∀ ad' cp',Sr (.eff dr) c ds (f (.row ad' cp' E sz (n+m) (xs.flatMap g++us.flatMap g))) ops l κ ((d,.slice ad' (n+m) cp')::e):=fun ad' cp'=>by rw [←List.flatMap_append];exact hk ad' cp'
 have hfl:(us.flatMap g).length=m*sz:=by rw [Z0a hg,hm]
 have hall:(us.flatMap g).all (·.oneCell')=true:=by
  rw [List.all_eq_true]
  intro v hv
  obtain ⟨a,_,ha⟩:=List.mem_flatMap.1 hv
  exact List.all_eq_true.1 (hone a) v ha
 cases sad with
 | some q=>exact Sr.appendR (z:=z) (by_:=by_) hx hy (by simp) hfl hall hzs hs0 hroom hlt hk'
 | none =>
  have he:Ef c H e ⟨some d,.call ⟨.builtin .append,#[x,y],#[t,t]⟩,ty,pos,aft,none⟩ (fun v H'=>∃ ad' cp',v=.slice ad' (n+m) cp'∧H'=f (.row ad' cp' E sz (n+m) (xs.flatMap g++us.flatMap g))):=fun w a hw ha=>by
   have hus:us=[]:=by
    cases us with
    | nil=>rfl
    | cons u r =>
     cases hgu:g u with
     | nil =>
      have:=hg u
      rw [hgu] at this
      simp at this
      omega
     | cons v vs =>
      obtain ⟨ad',h1,-⟩:=hs.h w hw 0 v (by simp [hgu])
      cases h1
   subst hus
   subst hm
   obtain ⟨rest,h1,h2⟩:=hr.h
   have hcap:n≤cp:=Z4q ((hw.perm h1).res _ (List.mem_cons_self ..))
   have hrun:=Z31 (P:=c.P) (t:=t) (E:=E) (ty:=ty) (z:=z) (sz:=sz) (by_:=by_) (ad:=ad) (scp:=scp) hcap w
   refine ⟨.slice ad n cp,w,_,.inl (by simp [execOp,ha.ev hx,ha.ev hy,resolve,invoke,builtin,hrun]),hw.perm ((h1.trans ?_)),ad,cp,rfl,rfl⟩
   simpa using h2 (.row ad cp E sz n (xs.flatMap g))
  exact Sr.eff he hlt rfl (fun v H' ⟨ad',cp',hv,hH⟩=>by subst hv hH;exact hk' ad' cp')
end
end Sg
/- Rules on texts: a text is the list of its bytes. -/
namespace Sg
open Go Go.RowKit
abbrev sV (l:List UInt8):Value:=.string (ByteArray.mk l.toArray)
theorem Z79 (s:ByteArray):Value.string s=sV s.data.toList:=by
 cases s
 simp [sV]
theorem Z6X (a b:List UInt8):(a==b)=decide (a=b):=by by_cases h:a=b<;>simp [h]
section
variable {c:Ctx} {dr:Bool} {ds:List Deferred} {H:List Res} {e:Env} {ops:Array Oper} {l:List Oper} {κ:List Res→Env→Prop} {dst:Option Tmp} {ty:TypeId} {pos:String} {aft:Array Edge} {g:Option (Nat × Bool)} {q:Mode}
theorem Pu.sop {x y:Operand} {a b:List UInt8} {op:BinOp} {t u:TypeId} {v:Value} (hop:op=.eql∨op=.neq∨op=.lss∨op=.leq∨op=.gtr∨op=.geq∨op=.add) (hx:ev e x=some (sV a)) (hy:ev e y=some (sV b))
  (hv:∀ w,(Op.stringOp op (ByteArray.mk a.toArray) (ByteArray.mk b.toArray)).run c.P w=.ok v w):Pu c H e ⟨dst,.binOp op t x y u,ty,pos,aft,g⟩ v:=fun w ac _ ha=>by
 rcases hop with rfl|rfl|rfl|rfl|rfl|rfl|rfl<;>simp [execOp,ha.ev hx,ha.ev hy,eqGuard,binOp,hv]
theorem T.sop {x y:Operand} {d:Tmp} {a b:List UInt8} {op:BinOp} {t u:TypeId} {v:Value} (hop:op=.eql∨op=.neq∨op=.lss∨op=.leq∨op=.gtr∨op=.geq∨op=.add) (hx:ev e x=some (sV a)) (hy:ev e y=some (sV b))
  (hv:∀ w,(Op.stringOp op (ByteArray.mk a.toArray) (ByteArray.mk b.toArray)).run c.P w=.ok v w) (hlt:Nat.blt d c.fn.ntmps=true) (hk:Sr q c ds H ops l κ ((d,v)::e)):Sr q c ds H ops (⟨some d,.binOp op t x y u,ty,pos,aft,none⟩::l) κ e :=
 Sr.p (Pu.sop hop hx hy hv) rfl hlt rfl hk
theorem T.seql {x y:Operand} {d:Tmp} {a b:List UInt8} {t u:TypeId} (hx:ev e x=some (sV a)) (hy:ev e y=some (sV b)) (hlt:Nat.blt d c.fn.ntmps=true) (hk:Sr q c ds H ops l κ ((d,.bool (decide (a=b)))::e)):Sr q c ds H ops (⟨some d,.binOp .eql t x y u,ty,pos,aft,none⟩::l) κ e :=
 T.sop (by simp) hx hy (fun w=>by
  simp [Op.stringOp,Sem.run_pure]
  rw [Z6X]) hlt hk
theorem T.sneq {x y:Operand} {d:Tmp} {a b:List UInt8} {t u:TypeId} (hx:ev e x=some (sV a)) (hy:ev e y=some (sV b)) (hlt:Nat.blt d c.fn.ntmps=true) (hk:Sr q c ds H ops l κ ((d,.bool (decide (¬a=b)))::e)):Sr q c ds H ops (⟨some d,.binOp .neq t x y u,ty,pos,aft,none⟩::l) κ e :=
 T.sop (by simp) hx hy (fun w=>by
  simp [Op.stringOp,Sem.run_pure]
  rw [Z6X]) hlt hk
theorem T.sadd {x y:Operand} {d:Tmp} {a b:List UInt8} {t u:TypeId} (hx:ev e x=some (sV a)) (hy:ev e y=some (sV b)) (hm:a.length+b.length≤9223372036854775807) (hlt:Nat.blt d c.fn.ntmps=true) (hk:Sr q c ds H ops l κ ((d,sV (a++b))::e)):Sr q c ds H ops (⟨some d,.binOp .add t x y u,ty,pos,aft,none⟩::l) κ e :=
 T.sop (by simp) hx hy (fun w=>by
  have h:¬(((a.length+b.length:Nat):Int) > IntKind.i64.max):=by
   show ¬(((a.length+b.length:Nat):Int) > 9223372036854775807)
   omega
  have h2:ByteArray.mk a.toArray++ByteArray.mk b.toArray=ByteArray.mk (a++b).toArray:=by
   apply ByteArray.ext
   simp
  have h3:(ByteArray.mk a.toArray).size+(ByteArray.mk b.toArray).size=a.length+b.length:=rfl
  simp only [Op.stringOp,h3,if_neg h,h2,Sem.run_pure]) hlt hk
theorem T.slen {x:Operand} {d:Tmp} {a:List UInt8} {t:TypeId} [HU c.P t .string] (hx:ev e x=some (sV a)) (hlt:Nat.blt d c.fn.ntmps=true) (hk:Sr q c ds H ops l κ ((d,.int .i64 (a.length:Int))::e)):Sr q c ds H ops (⟨some d,.call ⟨.builtin .len,#[x],#[t]⟩,ty,pos,aft,none⟩::l) κ e:=T.lenS hx hlt hk
theorem Pu.sidx {x y:Operand} {a:List UInt8} {i:Nat} {kd:IntKind} {t:TypeId} [HU c.P t .string] (hx:ev e x=some (sV a)) (hy:ev e y=some (.int kd (i:Int))) (h:i < a.length):Pu c H e ⟨dst,.index t x y,ty,pos,aft,g⟩ (.int .u8 ((a.getD i 0).toNat:Int)):=fun w ac _ ha=>by
 have hr:=run_index_string (P:=c.P) w t (ByteArray.mk a.toArray) kd (i:Int) (HU.h (P:=c.P) (t:=t))
 have hs:(0:Int)≤(i:Int)∧((i:Nat):Int) < ((ByteArray.mk a.toArray).size:Nat):=⟨by omega,by show (i:Int) < (a.length:Nat);omega⟩
 rw [dif_pos hs] at hr
 have hg : (ByteArray.mk a.toArray)[(i : Int).toNat]'(by show _ < a.length; omega) = a.getD i 0 := by
  show a.toArray[(i : Int).toNat]'_ = _
  simp [List.getD,h]
 rw [hg] at hr
 simp [execOp,ha.ev hx,ha.ev hy,hr]
theorem T.sidx {x y:Operand} {d:Tmp} {a:List UInt8} {i:Nat} {kd:IntKind} {t:TypeId} [HU c.P t .string] (hx:ev e x=some (sV a)) (hy:ev e y=some (.int kd (i:Int))) (h:i < a.length) (hlt:Nat.blt d c.fn.ntmps=true) (hk:Sr q c ds H ops l κ ((d,.int .u8 ((a.getD i 0).toNat:Int))::e)) :
  Sr q c ds H ops (⟨some d,.index t x y,ty,pos,aft,none⟩::l) κ e:=Sr.p (Pu.sidx hx hy h) rfl hlt rfl hk
end
end Sg
/- Maps from texts to numbers that the call owns: a list of entries by rising names. -/
namespace Sg
open Go Go.RowKit Go.ChangeMaps Go.MapKept
open Go.WideElems (Fit rd rg)
open Go.Maps (Keyed)
abbrev D0:=DataW Unit
/- Plain: entries. -/
abbrev Ents:=List (List UInt8 × Int)
def entD (p:List UInt8 × Int):Lit × D0:=(.string p.1,.lit (.int .i64 p.2))
def mapD (m:Ents):D0:=.map (m.map entD)
def eget (m:Ents) (k:List UInt8):Option Int:=(m.find? fun p=>p.1==k).map (·.2)
def edel (m:Ents) (k:List UInt8):Ents:=m.filter fun p=>!(p.1==k)
def eins (x:List UInt8 × Int):Ents→Ents
 | []=>[x]
 | y::r=>if (Lit.string x.1).before (.string y.1) then x::y::r else y::eins x r
def eput (m:Ents) (k:List UInt8) (v:Int):Ents:=eins (k,v) (edel m k)
theorem Z85 (m:Ents) (k:List UInt8):(mapD m).atKey (.string k) (.lit (.int .i64 0))=.lit (.int .i64 ((eget m k).getD 0)):=by
 unfold mapD DataW.atKey eget
 simp only
 induction m with
 | nil=>rfl
 | cons p m ih =>
  simp only [List.map_cons,List.find?_cons,entD,Lit.sameKey]
  cases p.1==k with
  | true=>rfl
  | false=>exact ih
theorem Z3O (m:Ents):Maps.size (mapD m)=m.length:=by
 unfold mapD
 rw [Maps.size_eq,List.length_map]
theorem Z7l (m:Ents) (k:List UInt8):(mapD m).del (.string k)=mapD (edel m k):=by
 unfold mapD DataW.del edel
 simp only [List.filter_map,DataW.map.injEq]
 rfl
theorem Z58 (x:List UInt8 × Int):∀ m:Ents,DataW.insert (entD x) (m.map entD)=(eins x m).map entD
 | []=>rfl
 | y::r=>by
  rw [List.map_cons,DataW.insert,eins]
  show (if (Lit.string x.1).before (.string y.1) then _ else _)=_
  by_cases h:(Lit.string x.1).before (.string y.1)=true
  ·rw [if_pos h,if_pos h];rfl
  ·rw [if_neg h,if_neg h,Z58 x r];rfl
theorem Z7k (m:Ents) (k:List UInt8) (v:Int):(mapD m).put (.string k) (.lit (.int .i64 v))=mapD (eput m k v):=by
 have h:=Z7l m k
 unfold mapD DataW.del at h
 unfold mapD DataW.put eput
 simp only [DataW.map.injEq] at h ⊢
 rw [h]
 exact Z58 (k,v) (edel m k)
/- The resource. -/
def mapQ (P:Program) (k e:TypeId) (n:Nat) (D:D0) (o:Obj):Prop :=
 ∃ es clock,o=.map es clock∧Fit P k (plainElem (H:=Unit) P e) es clock∧es.size≤n∧D=.map ((es.toList.map (rg P k (plainElem (H:=Unit) P e))).foldr DataW.insert [])
theorem mapQ_iff {P:Program} {w:World} {k e:TypeId} {b n:Nat} {D:D0}:(Res.ex b (mapQ P k e n D)).holds w↔w.ownsMap P k (plainElem P e) b n D :=
 ⟨fun ⟨_,h1,es,clock,h2,h3⟩=>by subst h2;exact ⟨es,clock,h1,h3⟩,fun ⟨es,clock,h1,h3⟩=>⟨_,h1,es,clock,rfl,h3⟩⟩
class InE (H:List Res) (b:Nat) (Q:outParam (Obj→Prop)):Prop where
 h:Res.ex b Q∈H
instance InE.hd {H:List Res} {b:Nat} {Q:Obj→Prop}:InE (.ex b Q::H) b Q:=⟨List.mem_cons_self ..⟩
instance InE.tl {H:List Res} {b:Nat} {Q:Obj→Prop} {r:Res} [h:InE H b Q]:InE (r::H) b Q:=⟨List.mem_cons_of_mem _ h.h⟩
instance Fr.hdE {H:List Res} {b:Nat} {Q:Obj→Prop}:Fr (.ex b Q::H) b (.ex b Q::H):=⟨.refl _⟩
section
variable {c:Ctx} {dr:Bool} {ds:List Deferred} {H:List Res} {e:Env} {ops:Array Oper} {l:List Oper} {κ:List Res→Env→Prop} {dst:Option Tmp} {ty:TypeId} {pos:String} {aft:Array Edge} {g:Option (Nat × Bool)} {q:Mode}
theorem Z7F {P:Program} {k:TypeId} (hk:P.underlying k=some .string) {kk:List UInt8} (hl:kk.length≤maxLen):keyOf P k (sV kk)=some (.string kk):=WideMaps.keyOf_string_mk hk (s:=ByteArray.mk kk.toArray) hl
theorem Pu.mapLook {x y:Operand} {b n:Nat} {m:Ents} {kk:List UInt8} {t k E:TypeId} [HU c.P t (.map k E)] [HU c.P k .string] [HU c.P E (.int .i64)] {sz by_:Nat} [HI c.P E (.int .i64 0) sz by_] (hx:ev e x=some (.map (some b))) (hy:ev e y=some (sV kk)) (hl:kk.length≤maxLen) (hm:InE H b (mapQ c.P k E n (mapD m))) :
  Pu c H e ⟨dst,.lookup t x y false,ty,pos,aft,g⟩ (.int .i64 ((eget m kk).getD 0)):=fun w a hw ha=>by
 have hown:=mapQ_iff.1 (hw.res _ hm.h)
 obtain ⟨v,hrun,hat,_⟩:=hown.lookup_int (Maps.string_keyed HU.h) (HU.h (P:=c.P) (t:=t)) (HU.h (P:=c.P) (t:=E)) (Z1j w) (Z7F (P:=c.P) (k:=k) HU.h hl)
 rw [Z85] at hat
 simp only [DataW.lit.injEq,Lit.int.injEq,true_and] at hat
 subst hat
 simp [execOp,ha.ev hx,ha.ev hy,hrun]
theorem Pu.mapLen {x:Operand} {b n:Nat} {m:Ents} {t k E:TypeId} [HU c.P t (.map k E)] (hx:ev e x=some (.map (some b))) (hm:InE H b (mapQ c.P k E n (mapD m))) :
  Pu c H e ⟨dst,.call ⟨.builtin .len,#[x],#[t]⟩,ty,pos,aft,g⟩ (.int .i64 (m.length:Nat)):=fun w a hw ha=>by
 have hown:=mapQ_iff.1 (hw.res _ hm.h)
 have hrun:=hown.len (HU.h (P:=c.P) (t:=t)) ty
 rw [Z3O] at hrun
 simp [execOp,ha.ev hx,resolve,invoke,builtin,hrun]
theorem St.turnMap {F:World} {M:List Nat} {w w':World} {H:List Res} {b:Nat} {Q Q':Obj→Prop} (h:St F M w (.ex b Q::H)) (hg:w.grownBy w' (some b)) (hr:(Res.ex b Q').holds w'):St F M w' (.ex b Q'::H) :=
 h.turn hg.os hg.tape hg.output hg.size (fun j hj hn=>hg.block j hj (by simpa [Res.foot] using hn)) hr (fun c hc=>.inl hc) (by simp [Res.foot])
theorem Ef.mapMake {t k E:TypeId} [HU c.P t (.map k E)]:Ef c H e ⟨dst,.makeMap t none,ty,pos,aft,g⟩ fun v H'=>∃ b,v=.map (some b)∧H'=.ex b (mapQ c.P k E 0 (mapD []))::H:=fun w a hw ha=>by
 refine ⟨.map (some w.heap.size),w.alloc (.map #[] 0),_,.inl ?_,?_,w.heap.size,rfl,rfl⟩
 ·simp [execOp,run_makeMap]
 ·exact hw.fresh rfl rfl rfl (by simp) (fun j hj=>Below.heap_alloc _ _ _ hj) (mapQ_iff.2 (World.ownsMap_made w c.P k (plainElem c.P E))) (by simp [Res.foot]) (by simp [Res.foot])
theorem Ef.mapPut {x y u:Operand} {b n:Nat} {m:Ents} {kk:List UInt8} {z:Int} {t k E:TypeId} [HU c.P t (.map k E)] [HU c.P k .string] [HU c.P E (.int .i64)] (hx:ev e x=some (.map (some b))) (hy:ev e y=some (sV kk)) (hu:ev e u=some (.int .i64 z)) (hl:kk.length≤maxLen) (hn:n < maxLen) (hz:(Lit.int .i64 z).wf=true) :
  Ef c (.ex b (mapQ c.P k E n (mapD m))::H) e ⟨dst,.mapUpdate t x y u,ty,pos,aft,g⟩ fun v H'=>v=undef∧H'=.ex b (mapQ c.P k E (n+1) (mapD (eput m kk z)))::H:=fun w a hw ha=>by
 have hown:=mapQ_iff.1 (hw.res _ (List.mem_cons_self ..))
 obtain ⟨w',hrun,hown',hg⟩:=hown.update (Maps.string_keyed HU.h) (HU.h (P:=c.P) (t:=t)) hn (Z7F (P:=c.P) (k:=k) HU.h hl) (plainElem_int (q:=.i64) (a:=z) (HU.h (P:=c.P) (t:=E)) hz)
 rw [Z7k] at hown'
 refine ⟨undef,w',_,.inr ⟨?_,rfl⟩,St.turnMap hw hg (mapQ_iff.2 hown'),rfl,rfl⟩
 simp [execOp,ha.ev hx,ha.ev hy,ha.ev hu,hrun]
/- A range over a map. -/
end
end Sg
/- Rules on maps, in the form that walks apply. -/
namespace Sg
open Go Go.RowKit
section
variable {c:Ctx} {dr:Bool} {ds:List Deferred} {H:List Res} {e:Env} {ops:Array Oper} {l:List Oper} {κ:List Res→Env→Prop} {ty:TypeId} {pos:String} {aft:Array Edge} {q:Mode}
theorem T.mapLook {x y:Operand} {d:Tmp} {b n:Nat} {m:Ents} {kk:List UInt8} {t k E:TypeId} [HU c.P t (.map k E)] [HU c.P k .string] [HU c.P E (.int .i64)] {sz by_:Nat} [HI c.P E (.int .i64 0) sz by_] (hx:ev e x=some (.map (some b))) (hy:ev e y=some (sV kk)) (hm:InE H b (mapQ c.P k E n (mapD m))) (hl:kk.length≤maxLen) (hlt:Nat.blt d c.fn.ntmps=true)
  (hk:Sr q c ds H ops l κ ((d,.int .i64 ((eget m kk).getD 0))::e)):Sr q c ds H ops (⟨some d,.lookup t x y false,ty,pos,aft,none⟩::l) κ e:=Sr.p (Pu.mapLook (k:=k) (E:=E) (sz:=sz) (by_:=by_) hx hy hl hm) rfl hlt rfl hk
theorem T.mapLen {x:Operand} {d:Tmp} {b n:Nat} {m:Ents} {t k E:TypeId} [HU c.P t (.map k E)] (hx:ev e x=some (.map (some b))) (hm:InE H b (mapQ c.P k E n (mapD m))) (hlt:Nat.blt d c.fn.ntmps=true)
  (hk:Sr q c ds H ops l κ ((d,.int .i64 (m.length:Nat))::e)):Sr q c ds H ops (⟨some d,.call ⟨.builtin .len,#[x],#[t]⟩,ty,pos,aft,none⟩::l) κ e:=Sr.p (Pu.mapLen (k:=k) (E:=E) hx hm) rfl hlt rfl hk
theorem T.mapMake {d:Tmp} {t k E:TypeId} [HU c.P t (.map k E)] (hlt:Nat.blt d c.fn.ntmps=true) (hk:∀ b,Sr (.eff dr) c ds (.ex b (mapQ c.P k E 0 (mapD []))::H) ops l κ ((d,.map (some b))::e)):Sr (.eff dr) c ds H ops (⟨some d,.makeMap t none,ty,pos,aft,none⟩::l) κ e :=
 Sr.eff (Ef.mapMake (k:=k) (E:=E)) hlt rfl fun v H' ⟨b,hv,hH⟩=>by
  subst hv hH
  exact hk b
theorem T.mapPut {x y u:Operand} {b n:Nat} {m:Ents} {kk:List UInt8} {z:Int} {t k E:TypeId} [HU c.P t (.map k E)] [HU c.P k .string] [HU c.P E (.int .i64)] (hx:ev e x=some (.map (some b))) (hy:ev e y=some (sV kk)) (hu:ev e u=some (.int .i64 z)) (hl:kk.length≤maxLen) (hn:n < maxLen) (hz:(Lit.int .i64 z).wf=true)
  (hk:Sr (.eff dr) c ds (.ex b (mapQ c.P k E (n+1) (mapD (eput m kk z)))::H) ops l κ e):Sr (.eff dr) c ds (.ex b (mapQ c.P k E n (mapD m))::H) ops (⟨none,.mapUpdate t x y u,ty,pos,aft,none⟩::l) κ e :=
 Sr.eff (Ef.mapPut (k:=k) (E:=E) hx hy hu hl hn hz) rfl rfl fun v H' ⟨hv,hH⟩=>by
  subst hv hH
  exact hk
theorem Z5M {P:Program} {k E:TypeId} {n:Nat} {m:Ents} {o:Obj} (h:mapQ P k E n (mapD m) o):mapQ P k E m.length (mapD m) o:=by
 obtain ⟨es,clock,h1,h2,h3,h4⟩:=h
 refine ⟨es,clock,h1,h2,?_,h4⟩
 have h5:=congrArg Maps.size h4
 rw [Z3O] at h5
 rw [h5,Maps.size_eq,length_sorted,List.length_map,Array.length_toList]
 exact Nat.le_refl _
theorem St.tight {F:World} {M:List Nat} {w:World} {P:Program} {b n:Nat} {m:Ents} {k E:TypeId} (hw:St F M w (.ex b (mapQ P k E n (mapD m))::H)):St F M w (.ex b (mapQ P k E m.length (mapD m))::H) :=
 hw.weakB (fun _ h=>h) hw.nd fun q hq=>by
  rcases List.mem_cons.1 hq with rfl|hq
  ·obtain ⟨o,h1,h2⟩:=hw.res _ (List.mem_cons_self ..)
   exact ⟨o,h1,Z5M h2⟩
  ·exact hw.res q (List.mem_cons_of_mem _ hq)
theorem Sr.tight {b n:Nat} {m:Ents} {k E:TypeId} (h:Sr (.eff dr) c ds (.ex b (mapQ c.P k E m.length (mapD m))::H) ops l κ e):Sr (.eff dr) c ds (.ex b (mapQ c.P k E n (mapD m))::H) ops l κ e:=h.weaken fun _ hw=>hw.tight
theorem T.mapPutT {x y u:Operand} {b n:Nat} {m:Ents} {kk:List UInt8} {z:Int} {t k E:TypeId} [HU c.P t (.map k E)] [HU c.P k .string] [HU c.P E (.int .i64)] (hx:ev e x=some (.map (some b))) (hy:ev e y=some (sV kk)) (hu:ev e u=some (.int .i64 z)) (hl:kk.length≤maxLen) (hn:n < maxLen) (hz:(Lit.int .i64 z).wf=true)
  (hk:Sr (.eff dr) c ds (.ex b (mapQ c.P k E (eput m kk z).length (mapD (eput m kk z)))::H) ops l κ e):Sr (.eff dr) c ds (.ex b (mapQ c.P k E n (mapD m))::H) ops (⟨none,.mapUpdate t x y u,ty,pos,aft,none⟩::l) κ e :=
 T.mapPut (k:=k) (E:=E) hx hy hu hl hn hz hk.tight
end
end Sg
/- More rules on texts and maps: texts as elements, texts behind bytes, texts of bytes; the names of a map rise. -/
namespace Sg
open Go Go.RowKit Go.ChangeMaps Go.MapKept
section
variable {c:Ctx} {dr:Bool} {ds:List Deferred} {H:List Res} {e:Env} {ops:Array Oper} {l:List Oper} {κ:List Res→Env→Prop} {dst:Option Tmp} {ty:TypeId} {pos:String} {aft:Array Edge} {g:Option (Nat × Bool)} {q:Mode}
theorem getS {xs:List (List UInt8)} {j:Nat} (h:j < xs.length):(xs.map sV)[j]?=some (sV (xs.getD j [])):=by
 simp [List.getD,h]
theorem T.loadS {x:Operand} {d:Tmp} {ad:Option Addr} {j:Nat} {t:TypeId} [HU c.P t .string] {xs:List (List UInt8)} (hx:ev e x=some (.pointer (eaddr ad j))) (hr:Rd c.F c.M H ad (xs.map sV)) (hj:j < xs.length) (hlt:Nat.blt d c.fn.ntmps=true)
  (hk:Sr q c ds H ops l κ ((d,sV (xs.getD j []))::e)):Sr q c ds H ops (⟨some d,.load t x,ty,pos,aft,none⟩::l) κ e:=Sr.p (Pu.loadE (d:=.string) hx rfl (getS hj)) rfl hlt rfl hk
/- A text behind bytes. -/
theorem Z3t {P:Program} (w:World) (t u ty e:TypeId) (i:TypeInfo) (ht:P.underlying t=some (.slice e)) (hu:P.underlying u=some .string) (hi:P.info? e=some i) (hz:i.zero=some (.int .u8 0))
  (hsize:i.size=1) (hby:i.bytes=1) (v:Value) (n:Nat) (xs:List Value) (hown:w.ownsRow 0 e 1 v n xs) (s:ByteArray) (h63:n+s.size≤maxLen) (hbytes:n+s.size≤140737488355328) {v':Value} {w':World}
  (hrun:(Builtin.append_ #[t,u] ty #[v,.string s]).run P w=.ok v' w'):v'.ownBlock=v.ownBlock∨v'.ownBlock=some w.heap.size:=by
 have hsmall:n+s.size≤9223372036854775807:=by simp only [maxLen] at h63;omega
 have hxl:xs.length=n:=by simpa using hown.1
 rcases hown.2 with ⟨rfl,rfl⟩|⟨g,cap,cur,rfl,hbg,hg,hnc,hcm,hcs,htake⟩
 ·by_cases hm:s.size=0
  ·have hf:=Lib.run_firstCells_string (P:=P) w 1 s
   rw [hm] at hf
   have hr:(Builtin.append_ #[t,u] ty #[.slice none 0 0,.string s]).run P w=.ok (.slice none 0 0) w:=by
    simp [Builtin.append_,run_underlying ht,run_underlying hu,Go.sizeOf,typeInfo,hi,hsize,Builtin.lenOf,hm,hf]
   rw [hr] at hrun
   simp only [Result.ok.injEq] at hrun
   left
   rw [←hrun.1]
  ·have hr:=run_append_nil_string (P:=P) w t u ty e i (.int .u8 0) ht hu hi hz s (by omega) (by omega) (by rw [hby];omega)
   rw [hr] at hrun
   simp only [Result.ok.injEq] at hrun
   right
   rw [←hrun.1]
   rfl
 ·by_cases hroom:n+s.size≤cap
  ·have hcs':cur.size=cap:=by simpa using hcs
   have hr:=Lib.run_append_room_string (P:=P) w t u ty e i ht hu hi hsize g n cap cur hg s hroom (by omega)
   rw [hr] at hrun
   simp only [Result.ok.injEq] at hrun
   left
   rw [←hrun.1]
   rfl
  ·have holds:∀ j u,xs[j]?=some u→w.cell? ((⟨g,0,none⟩:Addr).add j)=some u:=hown.cells (g:=g) rfl
   have hr:=Lib.run_append_grow_string (P:=P) w t u ty e i (.int .u8 0) ht hu hi hz ⟨g,0,none⟩ n cap xs (by rw [hsize];simpa using hxl) holds s (by omega) (by omega) (by rw [hby];exact growslice_fits (by omega) (by omega))
   rw [hr] at hrun
   simp only [Result.ok.injEq] at hrun
   right
   rw [←hrun.1]
   rfl
theorem Z4i (s:List UInt8):Lib.strCells (ByteArray.mk s.toArray)=s.map bV:=by simp [Lib.strCells]
theorem T.appendS {d:Tmp} {x y:Operand} {ad:Option Addr} {n cp t u E:Nat} [HU c.P t (.slice E)] [HU c.P u .string] [HI c.P E (.int .u8 0) 1 1] {xs s:List UInt8} {f:Res→List Res} (hx:ev e x=some (.slice ad n cp)) (hy:ev e y=some (sV s))
  (hr:AtR H ad cp E 1 n (xs.map bV) f) (hroom:n+s.length≤140737488355328) (hlt:Nat.blt d c.fn.ntmps=true)
  (hk:∀ ad' cp',Sr (.eff dr) c ds (f (.row ad' cp' E 1 (n+s.length) ((xs++s).map bV))) ops l κ ((d,.slice ad' (n+s.length:Nat) cp')::e)) :
  Sr (.eff dr) c ds H ops (⟨some d,.call ⟨.builtin .append,#[x,y],#[t,u]⟩,ty,pos,aft,none⟩::l) κ e :=
 Sr.eff (K:=fun v H'=>∃ ad' cp',v=.slice ad' (n+s.length) cp'∧H'=f (.row ad' cp' E 1 (n+s.length) ((xs++s).map bV))) (fun w a hw ha=>by
  obtain ⟨rest,h1,h2⟩:=hr.h
  have hw1:=hw.perm h1
  obtain ⟨i,hi1,hi2,hi3,hi4⟩:=HI.h (P:=c.P) (t:=E) (z:=.int .u8 0) (sz:=1) (by_:=1)
  have hrow:w.ownsRow 0 E 1 (.slice ad n cp) n (xs.map bV):=hw1.res _ (List.mem_cons_self ..)
  have hsz:(ByteArray.mk s.toArray).size=s.length:=rfl
  have hmax:n+(ByteArray.mk s.toArray).size≤maxLen:=by rw [hsz];unfold maxLen;omega
  obtain ⟨v',w',hrun,hown,hg,-⟩:=Lib.run_append_own_string (P:=c.P) w 0 t u ty E i (HU.h (P:=c.P) (t:=t)) (HU.h (P:=c.P) (t:=u)) hi1 hi2 hi3 hi4 _ n _ hrow (ByteArray.mk s.toArray) hmax (by rw [hsz];exact hroom) (Nat.zero_le _)
  have hwhere:=Z3t (P:=c.P) w t u ty E i (HU.h (P:=c.P) (t:=t)) (HU.h (P:=c.P) (t:=u)) hi1 hi2 hi3 hi4 _ n _ hrow (ByteArray.mk s.toArray) hmax (by rw [hsz];exact hroom) hrun
  rw [Z4i,←List.map_append,hsz] at hown
  obtain ⟨ad',cp',hv'⟩:∃ ad' cp',v'=.slice ad' (n+s.length) cp':=by
   rcases hown.2 with ⟨hv,h0⟩|⟨g,cap,cur,hv,_⟩
   ·exact ⟨none,0,by rw [hv,h0]⟩
   ·exact ⟨_,_,hv⟩
  subst hv'
  refine ⟨_,w',_,.inl (by simp [execOp,ha.ev hx,ha.ev hy,resolve,invoke,builtin,hrun]),(hw1.turn (r':=.row ad' cp' E 1 (n+s.length) ((xs++s).map bV)) hg.os hg.tape hg.output hg.size (fun j hj hjr=>hg.block j hj fun hjo=>hjr ?_) hown (fun q hq=>?_) (by cases ad'<;>simp [Res.foot])).perm (h2 _),ad',cp',rfl,rfl⟩
  ·cases ad with
   | none=>simp [Value.ownBlock] at hjo
   | some q=>simp only [Value.ownBlock,Option.some.injEq] at hjo;simp [Res.foot,hjo]
  ·cases ad' with
   | none=>simp [Res.foot] at hq
   | some p =>
    simp only [Res.foot,List.mem_singleton] at hq
    subst hq
    rcases hwhere with hwh|hwh
    ·left
     cases ad with
     | none=>simp [Value.ownBlock] at hwh
     | some q=>simp only [Value.ownBlock,Option.some.injEq] at hwh;simp [Res.foot,hwh]
    ·right
     simp only [Value.ownBlock,Option.some.injEq] at hwh
     omega) hlt rfl (fun v H' ⟨ad',cp',hv,hH⟩=>by subst hv hH;exact hk ad' cp')
/- A text of bytes. -/
theorem Z2L:∀ (xs acc:List UInt8),((xs.map fun b=>(b.toNat:Int)).foldl (fun r n=>r.push (UInt8.ofNat n.toNat)) (ByteArray.mk acc.toArray))=ByteArray.mk (acc++xs).toArray
 | [],acc=>by simp
 | x::xs,acc=>by
  rw [List.map_cons,List.foldl_cons]
  have:(ByteArray.mk acc.toArray).push (UInt8.ofNat (x.toNat:Int).toNat)=ByteArray.mk (acc++[x]).toArray:=by
   apply ByteArray.ext
   simp [ByteArray.push]
  rw [this,Z2L xs (acc++[x]),List.append_assoc]
  rfl
theorem T.convS {x:Operand} {d:Tmp} {ad:Option Addr} {n cp:Nat} {xs:List UInt8} {t t' E:TypeId} [HU c.P t (.slice E)] [HU c.P E (.int .u8)] [HU c.P t' .string] (hx:ev e x=some (.slice ad n cp)) (hr:Rd c.F c.M H ad (xs.map bV)) (hn:xs.length=n) (hlt:Nat.blt d c.fn.ntmps=true)
  (hk:Sr q c ds H ops l κ ((d,sV xs)::e)):Sr q c ds H ops (⟨some d,.convert t t' x,ty,pos,aft,none⟩::l) κ e :=
 Sr.p (fun w a hw ha=>by
  have hcv:=run_convert_bytes_string (P:=c.P) w t t' E ad n cp (HU.h (P:=c.P) (t:=t)) (HU.h (P:=c.P) (t:=E)) (HU.h (P:=c.P) (t:=t'))
  have hb:(Conv.bytesToString (.slice ad n cp)).run c.P w=.ok (sV xs) w:=by
   cases ad with
   | none =>
    cases xs with
    | nil=>rfl
    | cons b xs =>
     obtain ⟨q,h,-⟩:=hr.h w hw 0 _ (by rfl)
     cases h
   | some q =>
    have hl:=run_loadCells_list (P:=c.P) (w:=w) q (xs.map bV) (fun j v hj=>by
     obtain ⟨q',h,h'⟩:=hr.h w hw j v hj
     simp only [Option.some.injEq] at h
     subst h
     exact h')
    rw [List.length_map,hn] at hl
    have hm:xs.map bV=(xs.map fun b=>(b.toNat:Int)).map (Value.int .u8):=by rw [List.map_map];rfl
    rw [hm] at hl
    rw [run_bytesToString w q n cp _ hl]
    have:=Z2L xs []
    rw [List.nil_append] at this
    exact congrArg (fun b=>Result.ok (Value.string b) w) this
  rw [hb] at hcv
  simp [execOp,ha.ev hx,hcv]) rfl hlt rfl hk
/- Pointers beside nil; truth values compared. -/
theorem Z5B {P:Program} {t E:TypeId} {a:Addr} [HU P t (.pointer E)] (w:World) (d:Nat):(Op.equalIn (d+1) t (.pointer (some a)) (.pointer none)).run P w=.ok false w:=by
 simp [Op.equalIn,Z6 (d:=.pointer E)]
theorem Z4m {P:Program} {t E:TypeId} [HU P t (.pointer E)] (w:World) (d:Nat):(Op.equalIn (d+1) t (.pointer none) (.pointer none)).run P w=.ok true w:=by
 simp [Op.equalIn,Z6 (d:=.pointer E)]
theorem T.eqlP {x:Operand} {d:Tmp} {t u E:TypeId} {a:Addr} [HU c.P t (.pointer E)] (hx:ev e x=some (.pointer (some a))) (hlt:Nat.blt d c.fn.ntmps=true) (hk:Sr q c ds H ops l κ ((d,.bool false)::e)):Sr q c ds H ops (⟨some d,.binOp .eql t x (.const (.pointer none)) u,ty,pos,aft,none⟩::l) κ e :=
 Sr.p (fun w ac _ ha=>by
  have h:=Z5B (P:=c.P) (t:=t) (E:=E) (a:=a) w 9999
  have h2:ac.eval (.const (.pointer none))=.pointer none:=rfl
  simp only [execOp,ha.ev hx,h2,eqGuard,binOp,Op.equal,Op.maxDepth]
  simp [h]) rfl hlt rfl hk
theorem T.eqlP0 {x:Operand} {d:Tmp} {t u E:TypeId} [HU c.P t (.pointer E)] (hx:ev e x=some (.pointer none)) (hlt:Nat.blt d c.fn.ntmps=true) (hk:Sr q c ds H ops l κ ((d,.bool true)::e)):Sr q c ds H ops (⟨some d,.binOp .eql t x (.const (.pointer none)) u,ty,pos,aft,none⟩::l) κ e :=
 Sr.p (fun w ac _ ha=>by
  have h:=Z4m (P:=c.P) (t:=t) (E:=E) w 9999
  have h2:ac.eval (.const (.pointer none))=.pointer none:=rfl
  simp only [execOp,ha.ev hx,h2,eqGuard,binOp,Op.equal,Op.maxDepth]
  simp [h]) rfl hlt rfl hk
theorem T.eqlB {x y:Operand} {d:Tmp} {m n:Bool} {t u:TypeId} [HU c.P t .bool] (hx:ev e x=some (.bool m)) (hy:ev e y=some (.bool n)) (hlt:Nat.blt d c.fn.ntmps=true) (hk:Sr q c ds H ops l κ ((d,.bool (m==n))::e)):Sr q c ds H ops (⟨some d,.binOp .eql t x y u,ty,pos,aft,none⟩::l) κ e:=Sr.p (Pu.eqlB hx hy) rfl hlt rfl hk
theorem T.neqB {x y:Operand} {d:Tmp} {m n:Bool} {t u:TypeId} [HU c.P t .bool] (hx:ev e x=some (.bool m)) (hy:ev e y=some (.bool n)) (hlt:Nat.blt d c.fn.ntmps=true) (hk:Sr q c ds H ops l κ ((d,.bool (!(m==n)))::e)):Sr q c ds H ops (⟨some d,.binOp .neq t x y u,ty,pos,aft,none⟩::l) κ e:=Sr.p (Pu.neqB hx hy) rfl hlt rfl hk
end
/- Rising names. -/
end Sg
/- The sum of a text by words of 32 bits, in plain Lean: schedule, rounds, blocks, filling; and that both ways to spell a round are one. -/
namespace Sg
structure V8 where
 a:UInt32
 b:UInt32
 c:UInt32
 d:UInt32
 e:UInt32
 f:UInt32
 g:UInt32
 h:UInt32
end Sg
/- Words of 32 bits as values: their operations, rows of them, whole arrays, an index into an array's value, copies into an array. -/
namespace Sg
open Go Go.RowKit
section
variable {q:Mode} {c:Ctx} {ds:List Deferred} {H:List Res} {ops:Array Oper} {l:List Oper} {κ:List Res→Env→Prop} {dr:Bool} {e:Env} {ty:TypeId} {pos:String} {aft:Array Edge}
theorem T.pcall {d:Tmp} {args:List Operand} {ats:Array TypeId} {g:FuncId} {vs:List Value} {v:Value} (hargs:evs e args=some vs) (hhf:HF c.P g) (hlt:Nat.blt d c.fn.ntmps=true) (hsp:PCall c.P g vs v) (hk:Sr (.eff dr) c ds H ops l κ ((d,v)::e)) :
  Sr (.eff dr) c ds H ops (⟨some d,.call ⟨.value (.func g),args.toArray,ats⟩,ty,pos,aft,none⟩::l) κ e:=Sr.call hargs hlt hsp.of (fun en H' h=>by obtain ⟨rfl,rfl⟩:=h;exact hk)
theorem T.append4 {d:Tmp} {x y:Operand} {ad:Option Addr} {n cp b t E Eb:Nat} {m₀ m₁ m₂ m₃:UInt8} [HU c.P t (.slice E)] {z:Value} {by_:Nat} [HI c.P E z 1 by_] {xs:List UInt8} {f:Res→List Res} (hx:ev e x=some (.slice ad n cp)) (hy:ev e y=some (.slice (some ⟨b,0,none⟩) 4 4))
  (hr:AtR H ad cp E 1 n (xs.map bV) f) (hzs:z.cells.size=1) (hroom:(n+4)*by_≤140737488355328∧n+4≤140737488355328) (hlt:Nat.blt d c.fn.ntmps=true)
  (hk:∀ ad' cp',Sr (.eff dr) c ds (f (.row ad' cp' E 1 (n+4) ((xs++[m₀,m₁,m₂,m₃]).map bV))) ops l κ ((d,.slice ad' (n+4) cp')::e)) :
  Sr (.eff dr) c ds (.blk b [.int .u8 (m₀.toNat:Int),.int .u8 (m₁.toNat:Int),.int .u8 (m₂.toNat:Int),.int .u8 (m₃.toNat:Int)] Eb::H) ops (⟨some d,.call ⟨.builtin .append,#[x,y],#[t,t]⟩,ty,pos,aft,none⟩::l) κ e:=Sr.append (z:=z) (by_:=by_) hx hy rfl rfl hzs (by omega) hroom hlt (fun ad' cp'=>by
  have:=hk ad' cp'
  rw [List.map_append] at this
  exact this)
theorem T.append3 {d:Tmp} {x y:Operand} {ad:Option Addr} {n cp b t E Eb:Nat} {m₀ m₁ m₂:UInt8} [HU c.P t (.slice E)] {z:Value} {by_:Nat} [HI c.P E z 1 by_] {xs:List UInt8} {f:Res→List Res} (hx:ev e x=some (.slice ad n cp)) (hy:ev e y=some (.slice (some ⟨b,0,none⟩) 3 3))
  (hr:AtR H ad cp E 1 n (xs.map bV) f) (hzs:z.cells.size=1) (hroom:(n+3)*by_≤140737488355328∧n+3≤140737488355328) (hlt:Nat.blt d c.fn.ntmps=true)
  (hk:∀ ad' cp',Sr (.eff dr) c ds (f (.row ad' cp' E 1 (n+3) ((xs++[m₀,m₁,m₂]).map bV))) ops l κ ((d,.slice ad' (n+3) cp')::e)) :
  Sr (.eff dr) c ds (.blk b [.int .u8 (m₀.toNat:Int),.int .u8 (m₁.toNat:Int),.int .u8 (m₂.toNat:Int)] Eb::H) ops (⟨some d,.call ⟨.builtin .append,#[x,y],#[t,t]⟩,ty,pos,aft,none⟩::l) κ e:=Sr.append (z:=z) (by_:=by_) hx hy rfl rfl hzs (by omega) hroom hlt (fun ad' cp'=>by
  have:=hk ad' cp'
  rw [List.map_append] at this
  exact this)
theorem T.append2 {d:Tmp} {x y:Operand} {ad:Option Addr} {n cp b t E Eb:Nat} {m₀ m₁:UInt8} [HU c.P t (.slice E)] {z:Value} {by_:Nat} [HI c.P E z 1 by_] {xs:List UInt8} {f:Res→List Res} (hx:ev e x=some (.slice ad n cp)) (hy:ev e y=some (.slice (some ⟨b,0,none⟩) 2 2))
  (hr:AtR H ad cp E 1 n (xs.map bV) f) (hzs:z.cells.size=1) (hroom:(n+2)*by_≤140737488355328∧n+2≤140737488355328) (hlt:Nat.blt d c.fn.ntmps=true)
  (hk:∀ ad' cp',Sr (.eff dr) c ds (f (.row ad' cp' E 1 (n+2) ((xs++[m₀,m₁]).map bV))) ops l κ ((d,.slice ad' (n+2) cp')::e)) :
  Sr (.eff dr) c ds (.blk b [.int .u8 (m₀.toNat:Int),.int .u8 (m₁.toNat:Int)] Eb::H) ops (⟨some d,.call ⟨.builtin .append,#[x,y],#[t,t]⟩,ty,pos,aft,none⟩::l) κ e:=Sr.append (z:=z) (by_:=by_) hx hy rfl rfl hzs (by omega) hroom hlt (fun ad' cp'=>by
  have:=hk ad' cp'
  rw [List.map_append] at this
  exact this)
end
end Sg
/- More rules on texts: a text's bytes as a new row, a part of a text; an append that leaves the row that it began with. -/
namespace Sg
open Go Go.RowKit
section
variable {q:Mode} {c:Ctx} {ds:List Deferred} {H:List Res} {ops:Array Oper} {l:List Oper} {κ:List Res→Env→Prop} {dr:Bool} {e:Env} {ty:TypeId} {pos:String} {aft:Array Edge}
theorem Sr.same (h:Sr q c ds H ops l κ e):Sr q c ds H ops l κ e:=h
theorem T.sslice {d:Tmp} {x lo hi:Operand} {kd kd':IntKind} {i j:Nat} {t:TypeId} {bs:List UInt8} [HU c.P t .string] (hx:ev e x=some (sV bs)) (hl:ev e lo=some (.int kd (i:Int))) (hh:ev e hi=some (.int kd' (j:Int))) (h0:i≤j∧j≤bs.length) (hlt:Nat.blt d c.fn.ntmps=true)
  (hk:Sr q c ds H ops l κ ((d,sV ((bs.drop i).take (j - i)))::e)):Sr q c ds H ops (⟨some d,.slice t x (some lo) (some hi) none,ty,pos,aft,none⟩::l) κ e :=
 Sr.p (fun w a _ ha=>by
  have hr:=run_slice_string (P:=c.P) (w:=w) t (ByteArray.mk bs.toArray) kd kd' (i:Int) (j:Int) (HU.h (P:=c.P) (t:=t)) (by omega) (by omega) (by show (j:Int)≤(bs.length:Nat);omega)
  have hex:(ByteArray.mk bs.toArray).extract (i:Int).toNat (j:Int).toNat=ByteArray.mk ((bs.drop i).take (j - i)).toArray:=by
   rw [Int.toNat_natCast,Int.toNat_natCast]
   apply ByteArray.ext
   rw [ByteArray.data_extract]
   apply Array.ext'
   simp [List.extract,List.drop_take]
  rw [hex] at hr
  simp [execOp,ha.ev hx,ha.ev hl,ha.ev hh,Instr.sliceAt,Z6 (d:=.string),hr]) rfl hlt rfl hk
theorem T.sneqR {x y:Operand} {d:Tmp} {a:List UInt8} {t u:TypeId} (hx:ev e x=some (sV a)) (hy:ev e y=some (sV a)) (hlt:Nat.blt d c.fn.ntmps=true) (hk:Sr q c ds H ops l κ ((d,.bool false)::e)):Sr q c ds H ops (⟨some d,.binOp .neq t x y u,ty,pos,aft,none⟩::l) κ e :=
 T.sneq hx hy hlt (by simpa using hk)
end
end Sg
/- Slices of texts handed in, opened; from a walk of a law to its row in the second form, the world's shape handed on; for every program. -/
namespace Sg
open Go Go.ChangeShapes Go.WideShapes Go.RowKit
def Z5u (P:Program) (f:FuncId) (fn:Func) (X:World→Prop) (k:(H:Type)→List (DataW H)→Bool):Prop :=
 ∀ {H:Type} {enc:TypeId × Value→H} (W:World) (base:Nat) (args:Array Value) (ds:List (DataW H)) (p:List MemPlace),(∀ (j:Nat) t v,fn.params[j]?=some t→args[j]?=some v→Value.okWide P W .any base t v) →
  DataW.TrodAll enc P W 0 (fun _=>true) true fn.params.toList args.toList ds p→(DataW.weightsEach P fn.params.toList ds).all (·≤reachBytes)=true→k H ds=true→X W→W.ShapedOpen P →
  Meets P f args.toList W [] [] (fun e _=>e=.returned (.bool true))
theorem Z1L {C:Checked} {os:Os} {f:FuncId} {fn:Func} {s:ChangeSpec} {k:(H:Type)→List (DataW H)→Bool} {conds:List PathCond} {laid:List (String × DataW Unit)} {rt:TypeId} {fresh handsOn:Bool} (H:Type) (enc:TypeId × Value→H) (F:Stop.Interp) (own:ownKnob C.prog.godebug=none) (started:os.Started) (noInit:C.prog.inits.idxOf? f=none) (hfn:C.prog.funcs[f]?=some fn)
  (witness:∃ (w:World) (tape:Tape) (i:Input),w.os=os∧(w.forCall tape i).Shaped C.prog∧i.vars=[]∧Input.okWide C.prog (w.forCall tape i) .any w.heap.size f i ∧
   ({ OpenSpec.ofChange s with cond:=some k }:OpenSpec).preRow enc C.prog fn conds false laid (w.forCall tape i).memory i.args∧({}:Assume).holds C.prog (lone (Frame.enter C.prog f i.args .normal) [] (w.forCall tape i)))
  (hres:fn.resultTypes=#[rt]) (hrt:C.prog.underlying rt=some .bool) (hvars:s.vars=[]) (hs:∀ (H:Type) (ds:List (DataW H)),ds.length=fn.params.toList.length→s.fn H ds={ results:=[.lit (.bool true)],args:=ds })
  (hl:laidOutB C.prog=true) (hts:fn.params.toList.all (fun t=>C.prog.readableRec t&&decide (t < C.prog.types.size))=true) (law:Z5u C.prog f fn (laidMetH C.prog laid) k) :
  ReturnsInHanded {} C os f .any (({ OpenSpec.ofChange s with cond:=some k }:OpenSpec).preRow enc C.prog fn conds false laid) (((({ OpenSpec.ofChange s with cond:=some k }:OpenSpec)).at F).post enc C.prog fn false fresh handsOn false):=by
 refine returnsInHanded_of_row (s:={ OpenSpec.ofChange s with cond:=some k }) own started noInit hfn witness ?_
 intro W base args ds gs before hval hW _ hk hz hx hsh _
 have hW':=hW
 obtain ⟨p,q,hA,hV,rfl,hfz,hnd⟩:=hW
 have hV':DataW.TrodVars enc C.prog W (fun _=>true) s.vars gs q:=hV
 rw [hvars] at hV'
 obtain ⟨rfl,rfl⟩:=trodVars_none hV'
 have hvt:s.plain.varTypes C.prog=[]:=by simp [DataSpec.varTypes,ChangeSpec.plain,hvars]
 have hz':(DataW.weightsEach C.prog (fn.params.toList++s.plain.varTypes C.prog) (ds++[])).all (·≤reachBytes)=true:=hz
 rw [hvt,List.append_nil,List.append_nil] at hz'
 have hk':=hk k rfl
 rw [List.append_nil] at hk'
 have hlt:∀ x∈p,x.block < W.heap.size:=fun x hx=>hW'.lt x (List.mem_append_left _ hx)
 have hlen:=Z1T hA
 refine (law W base args ds p hval hA hz' hk' hx hsh W (St.refl W)).mono fun e W' ⟨H',he,hst⟩=>?_
 subst he
 have hb:Below W.heap.size W W':=⟨hst.os,hst.tape,hst.output,hst.size,fun k hk=>hst.keep k hk (by simp)⟩
 have hp:s.post enc C.prog fn false fresh handsOn false W args (.bool true) W':=by
  refine ⟨ds,[],_,[],p,[],hW',?_,?_,?_,Below.frame hb _,fun h=>by cases h⟩
  ·rw [List.append_nil,hs H ds hlen,hres]
   exact trodAll_mk1 (shut_bool hrt true)
  ·rw [List.append_nil,hs H ds hlen]
   exact Z1f hl hb hts hA hlt
  ·rw [hvars,List.append_nil,hs H ds hlen]
   rfl
 exact ⟨_,rfl,hp⟩
theorem Z1c {H:Type} {enc:TypeId × Value→H} {C:Checked} {os:Os} {f:FuncId} {fn:Func} {s:OpenSpec} {conds:List PathCond} {apart:Bool} {laid:List (String × DataW Unit)} (modest:Bool) (w0:World) (args:Array Value) (hos:w0.os=os)
  (hsh:(w0.forCall (fun _ _=>0) ⟨#[],args,[]⟩).Shaped C.prog)
  (hok:Input.okWideB C.prog (w0.forCall (fun _ _=>0) ⟨#[],args,[]⟩) f ⟨#[],args,[]⟩=true)
  (hrow:s.preRow enc C.prog fn conds apart laid (w0.forCall (fun _ _=>0) ⟨#[],args,[]⟩).memory args) :
  ∃ (w:World) (tape:Tape) (i:Input),w.os=os∧(w.forCall tape i).Shaped C.prog∧i.vars=[]∧Input.okWide C.prog (w.forCall tape i) .any w.heap.size f i ∧
   s.preRow enc C.prog fn conds apart laid (w.forCall tape i).memory i.args∧({ modest:=modest }:Assume).holds C.prog (lone (Frame.enter C.prog f i.args .normal) [] (w.forCall tape i)) :=
 ⟨w0,fun _ _=>0,⟨#[],args,[]⟩,hos,hsh,(Input.okWide_of_okWideB (base:=0) hok).1,(Input.okWide_of_okWideB hok).2,hrow,by
  simp only [Assume.holds]
  exact ⟨by simp,by simp,fun _=>Modest.zero,by simp,by simp⟩⟩
end Sg
/- From a walk of a law to its row, the world's shape handed on. -/
namespace Sg
open Go Go.ChangeShapes Go.WideShapes Go.RowKit
section
variable {H:Type} {enc:TypeId × Value→H}
end
theorem Z0I {P:Program} {W:World} {nm:String} {d:DataW Unit}:∀ {l:List (String × DataW Unit)} {ps:List MemPlace},DataW.LaidVars P W l ps→(nm,d)∈l →
  ∃ g t cs fuel p,P.globalNamed nm=some g∧(P.globals[g]?).map (·.type)=some t∧W.var? P nm=some cs∧DataW.trod (fun _=>()) P W 0 (fun _=>true) false fuel t cs.toList=some (d,p)
 | [],_,_,hm=>by cases hm
 | (n,e)::r,ps,h,hm=>by
  obtain ⟨g,t,cs,fuel,p,q,h1,h2,h3,h4,h5,-⟩:=h
  rcases List.mem_cons.1 hm with hm|hm
  ·simp only [Prod.mk.injEq] at hm
   obtain ⟨rfl,rfl⟩:=hm
   exact ⟨g,t,cs,fuel,p,h1,h2,h3,h4⟩
  ·exact Z0I h5 hm
end Sg
/- The second form's bound, on slices and texts. -/
namespace Go.Proofs.YthomgjihagigcaaGreatDoor
open Go
theorem Z6b {H:Type} {ds:List (DataW H)} (h:Rows.uptoSmall H ds=true):Rows.uptoBulkAll ds≤1048576:=of_decide_eq_true h
end Go.Proofs.YthomgjihagigcaaGreatDoor
/- Rows with room: made, appended to in place; a slice that is not nil. -/
namespace Sg
open Go Go.RowKit
section
variable {F:World} {M:List Nat} {H:List Res} {w:World} {g cp n:Nat} {E:TypeId} {xs:List Value}
theorem St.roomCell (h:St F M w (.row (some ⟨g,0,none⟩) cp E 1 n xs::H)) {j:Nat} (hj:j < xs.length) (v:Value):(w.cell? ⟨g,j,none⟩).isSome=true∧w.frozen? ⟨g,j,none⟩=false∧St F M (w.setCell ⟨g,j,none⟩ v) (.row (some ⟨g,0,none⟩) cp E 1 n (xs.set j v)::H):=by
 have hrow:w.ownsRow 0 E 1 (.slice (some ⟨g,0,none⟩) n cp) n xs:=h.res _ (List.mem_cons_self ..)
 obtain ⟨⟨u,hu⟩,hfz,hown⟩:=Z0C hrow rfl hj v
 rw [Zh,Nat.zero_add] at hu hfz hown
 exact ⟨by rw [hu];rfl,hfz,St.turn (w':=w.setCell ⟨g,j,none⟩ v) h (r':=.row (some ⟨g,0,none⟩) cp E 1 n (xs.set j v)) rfl rfl rfl (by simp) (fun i _ hi'=>Below.heap_setCell _ _ _ _ (by simpa [Res.foot] using hi')) hown (fun b hb=>.inl hb) (by simp [Res.foot])⟩
end
section
variable {c:Ctx} {dr:Bool} {ds:List Deferred} {H:List Res} {ops:Array Oper} {l:List Oper} {κ:List Res→Env→Prop} {e:Env} {ty:TypeId} {pos:String} {aft:Array Edge}
theorem T.appendRoom {d:Tmp} {x y:Operand} {g i n cp b t E Eb by_:Nat} {z v:Value} {xs:List Value} [HU c.P t (.slice E)] [HI c.P E z 1 by_] (hx:ev e x=some (.slice (some ⟨g,0,none⟩) i cp)) (hy:ev e y=some (.slice (some ⟨b,0,none⟩) 1 1))
  (hv:v.oneCell'=true) (hi:i+1≤xs.length) (hcp:i+1≤cp) (hlt:Nat.blt d c.fn.ntmps=true)
  (hk:Sr (.eff dr) c ds (.row (some ⟨g,0,none⟩) cp E 1 n (xs.set i v)::H) ops l κ ((d,.slice (some ⟨g,0,none⟩) (i+1) cp)::e)) :
  Sr (.eff dr) c ds (.blk b [v] Eb::.row (some ⟨g,0,none⟩) cp E 1 n xs::H) ops (⟨some d,.call ⟨.builtin .append,#[x,y],#[t,t]⟩,ty,pos,aft,none⟩::l) κ e :=
 Sr.eff (K:=fun u H'=>u=.slice (some ⟨g,0,none⟩) (i+1) cp∧H'=.row (some ⟨g,0,none⟩) cp E 1 n (xs.set i v)::H) (fun w a hw ha=>by
  obtain ⟨ti,hti,_,hsz,_⟩:=HI.h (P:=c.P) (t:=E)
  have ht:=hw.tail
  have hrun:=run_append_room_cells (P:=c.P) w t ty E ti (HU.h (P:=c.P)) hti g 0 i cp ⟨b,0,none⟩ 1 1 [v] (by rw [hsz];rfl) (fun q u hu=>by
   rw [Zh,Nat.zero_add,hw.cell (List.mem_cons_self ..)]
   exact hu) (by simp [hv]) hcp
   (fun q hq=>by
    have hq0:q=0:=by simpa using hq
    subst hq0
    rw [hsz]
    simpa using (ht.roomCell (j:=i) (by omega) z).1) (fun q hq=>by
    have hq0:q=0:=by simpa using hq
    subst hq0
    rw [hsz]
    simpa using (ht.roomCell (j:=i) (by omega) z).2.1)
  rw [hsz,Nat.mul_one,Nat.zero_add,show w.setCells g i [v]=w.setCell ⟨g,i,none⟩ v from rfl] at hrun
  exact ⟨_,_,_,.inl (by simp only [execOp,resolve,invoke,builtin];simp [ha.ev hx,ha.ev hy,hrun]),(ht.roomCell (j:=i) (by omega) v).2.2,rfl,rfl⟩) hlt rfl (fun u H' ⟨h2,h3⟩=>by subst h2 h3;exact hk)
theorem T.makeRoom {d:Tmp} {x y:Operand} {kd kd':IntKind} {n:Nat} {t E:TypeId} {z:Value} {by_:Nat} [HU c.P t (.slice E)] [HI c.P E z 1 by_] (hx:ev e x=some (.int kd 0)) (hy:ev e y=some (.int kd' (n:Int))) (hz:z.cells=#[z]) (hn:by_*n≤281474976710656∧n≤281474976710656)
  (hd:Nat.blt d c.fn.ntmps=true) (hk:∀ b,Sr (.eff dr) c ds (.row (some ⟨b,0,none⟩) n E 1 n (List.replicate n z)::H) ops l κ ((d,.slice (some ⟨b,0,none⟩) 0 n)::e)):Sr (.eff dr) c ds H ops (⟨some d,.makeSlice t x y,ty,pos,aft,none⟩::l) κ e :=
 Sr.eff (K:=fun v H'=>∃ b,v=.slice (some ⟨b,0,none⟩) 0 n∧H'=.row (some ⟨b,0,none⟩) n E 1 n (List.replicate n z)::H) (fun w a hw ha=>by
  obtain ⟨i,hi1,hi2,hi3,hi4⟩:=HI.h (P:=c.P) (t:=E) (z:=z) (sz:=1) (by_:=by_)
  have hb':(i.bytes:Int)*(n:Int)≤281474976710656:=by
   have h:((i.bytes*n:Nat):Int)≤281474976710656:=by rw [hi4];have:=hn.1;omega
   rwa [Int.natCast_mul] at h
  have hr:=run_make (P:=c.P) w t E i z (HU.h (P:=c.P) (t:=t)) hi1 hi2 kd kd' 0 n (Int.le_refl _) (by omega) hb' (by omega)
  simp only [Int.toNat_zero,Int.toNat_natCast] at hr
  have hown:=World.ownsRow_lit (base:=0) (size:=i.size) w (madeCells z.cells (n*i.size)) n (e:=E) (Nat.zero_le _) (by unfold maxLen;omega) (size_madeCells _ _)
  have hg:=World.grownBy_alloc w (.cells (madeCells z.cells (n*i.size)) E) none
  rw [hi3,Z5N z n hz] at hown
  rw [hi3] at hr hg
  exact ⟨_,_,_,.inl (by simp [execOp,ha.ev hx,ha.ev hy,hr]),hw.fresh (r':=.row (some ⟨w.heap.size,0,none⟩) n E 1 n (List.replicate n z)) hg.os hg.tape hg.output hg.size (fun j hj=>hg.block j hj (by simp)) hown (fun b hb=>by simp only [Res.foot,List.mem_singleton] at hb;omega) (by simp [Res.foot]),_,rfl,rfl⟩) hd rfl
  (fun v H' ⟨b,hv,hH⟩=>by subst hv hH;exact hk b)
variable {q:Mode} {dst:Option Tmp} {g:Option (Nat × Bool)} {k:List Item}
theorem Z4o {P:Program} {t E:TypeId} [HU P t (.slice E)] {ad:Addr} {n m a b:Nat} (w:World) (d:Nat):(Op.equalIn (d+1) t (.slice (some ad) n m) (.slice none a b)).run P w=.ok false w:=by
 simp [Op.equalIn,Z6 (d:=.slice E)]
theorem T.eqlSl {x:Operand} {d:Tmp} {ad:Addr} {n m a b:Nat} {t E t'':TypeId} [HU c.P t (.slice E)] (hx:ev e x=some (.slice (some ad) n m)) (hlt:Nat.blt d c.fn.ntmps=true) (hk:Sr q c ds H ops l κ ((d,.bool false)::e)):Sr q c ds H ops (⟨some d,.binOp .eql t x (.const (.slice none a b)) t'',ty,pos,aft,none⟩::l) κ e :=
 Sr.p (fun w s hw ha=>by
  have h:=Z4o (P:=c.P) (t:=t) (E:=E) (ad:=ad) (n:=n) (m:=m) (a:=a) (b:=b) w 9999
  have h2:s.eval (.const (.slice none a b))=.slice none a b:=rfl
  simp only [execOp,ha.ev hx,h2,eqGuard,binOp,Op.equal,Op.maxDepth]
  simp [h]) rfl hlt rfl hk
end
end Sg
/- JSON in plain Lean: words of a text, each with its end or its fault; values by going down; and a machine with a stack; both say the same. -/
namespace Sg
structure Nd where
 kind:Int
 key:List UInt8
 text:List UInt8
 whole:Bool
 int:Int
 kids:Int
inductive Gt (α:Type)
 | ok (at_:Nat) (v:α)
 | bad (code:Int) (at_:Nat)
def Gt.bind {α β:Type} (g:Gt α) (f:Nat→α→Gt β):Gt β:=match g with
 | .ok a v=>f a v
 | .bad c a=>.bad c a
def Z12 (c:UInt8):Bool:=c==32 || c==9 || c==10 || c==13
def Za (c:UInt8):Bool:=decide (48≤c)&&decide (c≤57)
def Z2 (t:List UInt8) (p:Nat):Nat:=p+((t.drop p).takeWhile Z12).length
def Z3 (t:List UInt8) (p:Nat):Nat:=p+((t.drop p).takeWhile Za).length
def ZF (t:List UInt8) (p:Nat):Gt Unit:=if Z3 t p=p then .bad 31 p else .ok (Z3 t p) ()
def atB (t:List UInt8) (p:Nat) (c:UInt8):Bool:=t[p]?==some c
def Z0y (t:List UInt8) (p:Nat):Gt Unit:=if atB t p 48 then .ok (p+1) () else ZF t p
def ZU (t:List UInt8) (p:Nat):Gt Unit:=if atB t p 46 then ZF t (p+1) else .ok p ()
def Z0t (t:List UInt8) (p:Nat):Nat:=if atB t p 43 || atB t p 45 then p+1 else p
def Z0z (t:List UInt8) (p:Nat):Gt Unit:=if atB t p 101 || atB t p 69 then ZF t (Z0t t (p+1)) else .ok p ()
def numX (t:List UInt8) (p:Nat):Gt Unit :=
 (Z0y t (if atB t p 45 then p+1 else p)).bind fun a _=>(ZU t a).bind fun b _=>Z0z t b
def ZL (t:List UInt8) (p:Nat):List UInt8→Gt Unit
 | []=>.ok p ()
 | w::ws=>if atB t p w then ZL t (p+1) ws else .bad 31 p
def hexN (c:UInt8):Option Nat :=
 if 48≤c∧c≤57 then some (c.toNat - 48) else if 97≤c∧c≤102 then some (c.toNat - 87) else if 65≤c∧c≤70 then some (c.toNat - 55) else none
def Z0b (low:Bool) (i u d:Nat):Bool:=(low&&((i==0&&d != 13) || (i==1&&decide (d < 12)))) || (!low&&i==1&&u==13&&decide (12≤d))
def Zr (t:List UInt8) (low:Bool) (fr:Nat):Nat→Nat→Nat→Gt Nat
 | 0,p,u=>.ok p u
 | k+1,p,u=>match t[p]? with
  | none=>.bad 31 p
  | some c=>match hexN c with
   | none=>.bad 33 fr
   | some d=>if Z0b low (3 - k) u d then .bad 33 fr else Zr t low fr k (p+1) (16*u+d)
def utfL (u:Nat):List UInt8 :=
 if u < 128 then [.ofNat u] else if u < 2048 then [.ofNat (192+u / 64),.ofNat (128+u % 64)] else
 if u < 65536 then [.ofNat (224+u / 4096),.ofNat (128+u / 64 % 64),.ofNat (128+u % 64)] else
 [.ofNat (240+u / 262144),.ofNat (128+u / 4096 % 64),.ofNat (128+u / 64 % 64),.ofNat (128+u % 64)]
def Z0q (t:List UInt8) (fr p:Nat) (c:UInt8):Gt Unit:=match t[p]? with
 | none=>.bad 31 p
 | some d=>if d=c then .ok (p+1) () else .bad 33 fr
def Z0G (t:List UInt8) (fr p:Nat):Gt Nat :=
 (Zr t false fr 4 p 0).bind fun a hi=>if hi < 55296∨57343 < hi then .ok a hi else
  (Z0q t fr a 92).bind fun b _=>(Z0q t fr b 117).bind fun d _=>(Zr t true fr 4 d 0).bind fun e lo=>.ok e (65536+1024*(hi - 55296)+lo - 56320)
def escS (c:UInt8):Option Nat :=
 if c=34 then some 34 else if c=92 then some 92 else if c=47 then some 47 else if c=98 then some 8 else if c=102 then some 12 else if c=110 then some 10 else if c=114 then some 13 else if c=116 then some 9 else none
def escX (t:List UInt8) (fr:Nat):Gt Nat:=match t[fr+1]? with
 | none=>.bad 31 (fr+1)
 | some c=>if c=117 then Z0G t fr (fr+2) else match escS c with
  | some u=>.ok (fr+2) u
  | none=>.bad 33 fr
def seqB (c:Nat):Option (Nat × Nat × Nat) :=
 if c < 194∨244 < c then none else if c < 224 then some (1,128,191) else if c=224 then some (2,160,191) else if c=237 then some (2,128,159) else
 if c < 240 then some (2,128,191) else if c=240 then some (3,144,191) else if c=244 then some (3,128,143) else some (3,128,191)
def seqX (t:List UInt8) (fr:Nat):Nat→Nat→Nat→Nat→Gt Unit
 | 0,p,_,_=>.ok p ()
 | k+1,p,lo,hi=>match t[p]? with
  | none=>.bad 31 p
  | some c=>if c.toNat < lo∨hi < c.toNat then .bad 32 fr else seqX t fr k (p+1) 128 191
def Z0g (t:List UInt8) (p:Nat) (c:UInt8):Gt Unit:=match seqB c.toNat with
 | none=>.bad 32 p
 | some (n,lo,hi)=>seqX t p n (p+1) lo hi
def ZI (t:List UInt8):Nat→Nat→List UInt8→Gt (List UInt8)
 | 0,p,_=>.bad 0 p
 | f+1,p,acc=>match t[p]? with
  | none=>.bad 31 p
  | some c =>
   if c < 32 then .bad 31 p else if c=34 then .ok (p+1) acc else
   if c=92 then (escX t p).bind fun a u=>ZI t f a (acc++utfL u) else
   if c < 128 then ZI t f (p+1) (acc++[c]) else
   (Z0g t p c).bind fun a _=>ZI t f a (acc++(t.drop p).take (a - p))
def Zo (t:List UInt8) (p:Nat):Gt (List UInt8):=ZI t (t.length+1 - p) p []
structure Wh where
 f:List UInt8→Int × Bool
def nd (k:Int):Nd:=⟨k,[],[],false,0,0⟩
def Nd.named (n:Nd) (k:List UInt8):Nd:={ n with key:=k }
def Nd.more (n:Nd):Nd:={ n with kids:=n.kids+1 }
def Z02 (l:List Nd) (k:List UInt8):List Nd:=match l with
 | []=>[]
 | n::r=>n.named k::r
def sl (t:List UInt8) (a b:Nat):List UInt8:=(t.drop a).take (b - a)
def ZT (wh:List UInt8→Int × Bool) (t:List UInt8) (p:Nat) (c:UInt8):Gt (List Nd) :=
 if c=34 then (Zo t (p+1)).bind fun a s=>.ok a [{ nd 5 with text:=s }] else
 if c=45∨Za c=true then (numX t p).bind fun a _=>.ok a [{ nd 4 with text:=sl t p a,int:=(wh (sl t p a)).1,whole:=(wh (sl t p a)).2 }] else
 if c=110 then (ZL t p [110,117,108,108]).bind fun a _=>.ok a [nd 1] else
 if c=102 then (ZL t p [102,97,108,115,101]).bind fun a _=>.ok a [nd 2] else
 if c=116 then (ZL t p [116,114,117,101]).bind fun a _=>.ok a [nd 3] else .bad 31 p
def ZG (obj:Bool):UInt8:=if obj then 125 else 93
def rowE (t:List UInt8) (obj:Bool) (again:Nat→Gt (List Nd)) (a:Nat) (l:List Nd):Gt (List Nd) :=
 if atB t (Z2 t a) (ZG obj) then .ok (Z2 t a+1) l else if atB t (Z2 t a) 44 then again (Z2 t (Z2 t a+1)) else .bad 31 (Z2 t a)
def Z0u (val:Nat→Gt (List Nd)) (t:List UInt8) (obj:Bool) (p:Nat) (names:List (List UInt8)):Gt (List Nd × List UInt8) :=
 if obj then
  if atB t p 34 then (Zo t (p+1)).bind fun a s=>if s∈names then .bad 34 p else
   if atB t (Z2 t a) 58 then (val (Z2 t (Z2 t a+1))).bind fun b l=>.ok b (Z02 l s,s) else .bad 31 (Z2 t a)
  else .bad 31 p
 else (val p).bind fun a l=>.ok a (l,[])
def rowX (val:Nat→Gt (List Nd)) (t:List UInt8) (obj:Bool):Nat→Nat→List (List UInt8)→Nd→List Nd→Gt (List Nd)
 | 0,p,_,_,_=>.bad 0 p
 | f+1,p,names,hd,out=>(Z0u val t obj p names).bind fun a g=>rowE t obj (fun p'=>rowX val t obj f p' (names++[g.2]) hd.more (out++g.1)) a (hd.more::(out++g.1))
def valX (wh:List UInt8→Int × Bool) (t:List UInt8):Nat→Nat→Gt (List Nd)
 | d,p=>match t[p]? with
  | none=>.bad 31 p
  | some c=>if c=91∨c=123 then (match d with
    | 0=>.bad 11 p
    | d+1=>if atB t (Z2 t (p+1)) (ZG (c=123)) then .ok (Z2 t (p+1)+1) [nd (if c=123 then 7 else 6)] else
      rowX (valX wh t d) t (c=123) (t.length+1) (Z2 t (p+1)) [] (nd (if c=123 then 7 else 6)) [])
   else ZT wh t p c
def ZM (wh:List UInt8→Int × Bool) (t:List UInt8):Gt (List Nd) :=
 if 262144 < t.length then .bad 10 0 else
 (valX wh t 32 (Z2 t 0)).bind fun a l=>if Z2 t a < t.length then .bad 31 (Z2 t a) else .ok (Z2 t a) l
end Sg
/- UTF-8, in plain Lean: what the library's decoder says of a sequence, and what the document's reading says. -/
namespace Sg
open Go.Lib
def Z2w (n b0 b1 b2:Nat):Bool:=decide (firstT b0 % 8≤n) || ((decide (1 < n)&&(decide (b1 < accLo (firstT b0 / 16)) || decide (accHi (firstT b0 / 16) < b1))) || (decide (2 < n)&&(decide (b2 < 128) || decide (191 < b2))))
theorem Z6f {b:Nat} (h:128≤b) (hs:seqB b=none):firstT b=241:=by
 unfold seqB at hs
 split at hs
 ·unfold firstT
  repeat' split
  all_goals omega
 ·repeat' split at hs
  all_goals cases hs
theorem Z6e {b k lo hi:Nat} (hs:seqB b=some (k,lo,hi)):firstT b < 240∧firstT b % 8=k+1∧accLo (firstT b / 16)=lo∧accHi (firstT b / 16)=hi∧1≤k∧k≤3∧lo≤hi:=by
 have key:∀ {f:Nat},firstT b=f→f < 240→f % 8=k+1→accLo (f / 16)=lo→accHi (f / 16)=hi→1≤k→k≤3→lo≤hi→firstT b < 240∧firstT b % 8=k+1∧accLo (firstT b / 16)=lo∧accHi (firstT b / 16)=hi∧1≤k∧k≤3∧lo≤hi:=by
  intro f h1 h2 h3 h4 h5 h6 h7 h8
  rw [h1]
  exact ⟨h2,h3,h4,h5,h6,h7,h8⟩
 unfold seqB at hs
 repeat' split at hs
 all_goals first|cases hs|(simp only [Option.some.injEq,Prod.mk.injEq] at hs;obtain ⟨rfl,rfl,rfl⟩:=hs)
 ·exact key (firstT_C2 (by omega)) (by decide) rfl rfl rfl (by decide) (by decide) (by decide)
 ·exact key (firstT_E0 (by omega)) (by decide) rfl rfl rfl (by decide) (by decide) (by decide)
 ·exact key (firstT_ED (by omega)) (by decide) rfl rfl rfl (by decide) (by decide) (by decide)
 ·exact key (firstT_E1 (by omega)) (by decide) rfl rfl rfl (by decide) (by decide) (by decide)
 ·exact key (firstT_F0 (by omega)) (by decide) rfl rfl rfl (by decide) (by decide) (by decide)
 ·exact key (firstT_F4 (by omega)) (by decide) rfl rfl rfl (by decide) (by decide) (by decide)
 ·exact key (firstT_F1 (by omega)) (by decide) rfl rfl rfl (by decide) (by decide) (by decide)
def bAt (t:List UInt8) (j:Nat):Nat:=(t.getD j 0).toNat
theorem Z14 (t:List UInt8) (j:Nat):bAt t j < 256:=(t.getD j 0).toNat_lt
theorem Z1Q {t:List UInt8} {j:Nat} {c:UInt8} (h:t[j]?=some c):bAt t j=c.toNat∧j < t.length:=⟨by simp [bAt,List.getD,h],(List.getElem?_eq_some_iff.1 h).1⟩
def Z1F (t:List UInt8) (p:Nat) (n b0 b1 b2 b3:Nat):Gt Unit→Prop
 | .ok a _=>(decodeN n b0 b1 b2 b3).2=a - p∧p+2≤a∧a≤t.length
 | .bad e q=>decodeN n b0 b1 b2 b3=(65533,1)∧(e=31∧q=t.length∧Z2w n b0 b1 b2=false∨e=32∧q=p∧Z2w n b0 b1 b2=true)
theorem Z78 {t:List UInt8} {p:Nat} {c:UInt8} (hc:t[p]?=some c) (h:128≤c.toNat):Z1F t p (t.length - p) c.toNat (bAt t (p+1)) (bAt t (p+2)) (bAt t (p+3)) (Z0g t p c):=by
 have hp:=(List.getElem?_eq_some_iff.1 hc).1
 have l1:=Z14 t (p+1)
 have l2:=Z14 t (p+2)
 have l3:=Z14 t (p+3)
 unfold Z0g
 cases hs:seqB c.toNat with
 | none =>
  have h1:=Z6f h hs
  refine ⟨bad_eq _ _ _ _ _ c.toNat_lt h1,.inr ⟨rfl,rfl,?_⟩⟩
  unfold Z2w
  rw [h1,decide_eq_true (show 241 % 8≤t.length - p by omega),Bool.true_or]
 | some v =>
  obtain ⟨k,lo,hi⟩:=v
  obtain ⟨h1,h2,h3,h4,h5,h6,h7⟩:=Z6e hs
  have hd:=slow_eq (t.length - p) c.toNat _ _ _ (by omega) l1 l2 l3 h1
  rw [h2,h3,h4] at hd
  have hf:Z2w (t.length - p) c.toNat (bAt t (p+1)) (bAt t (p+2))=(decide (k+1≤t.length - p) || ((decide (1 < t.length - p)&&(decide (bAt t (p+1) < lo) || decide (hi < bAt t (p+1)))) || (decide (2 < t.length - p)&&(decide (bAt t (p+2) < 128) || decide (191 < bAt t (p+2)))))):=by
   unfold Z2w
   rw [h2,h3,h4]
  show Z1F _ _ _ _ _ _ _ (seqX t p k (p+1) lo hi)
  have stop31:∀ q,q=t.length→t.length - p≤k→((1 < t.length - p→¬(bAt t (p+1) < lo∨hi < bAt t (p+1)))∧(2 < t.length - p→¬(bAt t (p+2) < 128∨191 < bAt t (p+2))))→Z1F t p (t.length - p) c.toNat (bAt t (p+1)) (bAt t (p+2)) (bAt t (p+3)) (.bad 31 q):=by
   intro q hq hn hb
   refine ⟨?_,.inl ⟨rfl,hq,?_⟩⟩
   ·rw [←hd]
    unfold slowN
    rw [if_pos (by omega)]
   ·rw [hf,decide_eq_false (by omega),Bool.false_or,Bool.or_eq_false_iff]
    refine ⟨?_,?_⟩
    ·by_cases h1n:1 < t.length - p
     ·have:=hb.1 h1n
      rw [decide_eq_false (show ¬bAt t (p+1) < lo by omega),decide_eq_false (show ¬hi < bAt t (p+1) by omega)]
      simp
     ·rw [decide_eq_false h1n,Bool.false_and]
    ·by_cases h1n:2 < t.length - p
     ·have:=hb.2 h1n
      rw [decide_eq_false (show ¬bAt t (p+2) < 128 by omega),decide_eq_false (show ¬191 < bAt t (p+2) by omega)]
      simp
     ·rw [decide_eq_false h1n,Bool.false_and]
  have stop32:(1 < t.length - p∧(bAt t (p+1) < lo∨hi < bAt t (p+1))∨2 < t.length - p∧2≤k∧(bAt t (p+2) < 128∨191 < bAt t (p+2))∨3 < t.length - p∧3≤k∧(bAt t (p+3) < 128∨191 < bAt t (p+3)))→Z1F t p (t.length - p) c.toNat (bAt t (p+1)) (bAt t (p+2)) (bAt t (p+3)) (.bad 32 p):=by
   intro hb
   refine ⟨?_,.inr ⟨rfl,rfl,?_⟩⟩
   ·rw [←hd]
    unfold slowN
    repeat' split
    all_goals first|rfl|omega
   ·rw [hf]
    simp only [Bool.or_eq_true,Bool.and_eq_true,decide_eq_true_eq]
    omega
  have good:∀ a,a=p+k+1→k < t.length - p→(lo≤bAt t (p+1)∧bAt t (p+1)≤hi)→(2≤k→128≤bAt t (p+2)∧bAt t (p+2)≤191)→(3≤k→128≤bAt t (p+3)∧bAt t (p+3)≤191)→Z1F t p (t.length - p) c.toNat (bAt t (p+1)) (bAt t (p+2)) (bAt t (p+3)) (.ok a ()):=by
   intro a ha hn b1 b2 b3
   refine ⟨?_,by omega,by omega⟩
   rw [←hd]
   unfold slowN
   repeat' split
   all_goals first|(exfalso;omega)|(simp only;omega)
  obtain ⟨k,rfl⟩:∃ m,k=m+1:=⟨k - 1,by omega⟩
  unfold seqX
  cases h8:t[p+1]? with
  | none =>
   have:=List.getElem?_eq_none_iff.1 h8
   exact stop31 _ (by omega) (by omega) ⟨by omega,by omega⟩
  | some c1 =>
   obtain ⟨e1,q1⟩:=Z1Q h8
   simp only
   split
   ·exact stop32 (by omega)
   ·rename_i hb1
    cases k with
    | zero =>
     unfold seqX
     exact good _ (by omega) (by omega) (by omega) (by omega) (by omega)
    | succ k =>
     unfold seqX
     cases h9:t[p+1+1]? with
     | none =>
      have:=List.getElem?_eq_none_iff.1 h9
      exact stop31 _ (by omega) (by omega) ⟨by omega,by omega⟩
     | some c2 =>
      obtain ⟨e2,q2⟩:=Z1Q h9
      rw [show p+1+1=p+2 from rfl] at e2
      simp only
      split
      ·exact stop32 (by omega)
      ·rename_i hb2
       cases k with
       | zero =>
        unfold seqX
        exact good _ (by omega) (by omega) (by omega) (by omega) (by omega)
       | succ k =>
        have hk0:k=0:=by omega
        subst hk0
        unfold seqX
        cases h10:t[p+1+1+1]? with
        | none =>
         have:=List.getElem?_eq_none_iff.1 h10
         exact stop31 _ (by omega) (by omega) ⟨by omega,by omega⟩
        | some c3 =>
         obtain ⟨e3,q3⟩:=Z1Q h10
         rw [show p+1+1+1=p+3 from rfl] at e3
         simp only
         split
         ·exact stop32 (by omega)
         ·unfold seqX
          exact good _ (by omega) (by omega) (by omega) (by omega) (by omega)
end Sg
