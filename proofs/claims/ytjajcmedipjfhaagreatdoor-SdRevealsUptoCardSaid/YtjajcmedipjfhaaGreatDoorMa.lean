/- Texts put together by a program: Law LawR LawU Mark MoreB MoreC Str Map MapT MapU ShaP Word StrB LawT LawQ Bulk JsnP. -/
import Derived.Test.YtjajcmedipjfhaaGreatDoorRecs
import Derived.ProofKit
import Derived.Carry
import Derived.LaidMore
import Derived.OpenShut
import Derived.Stop.Joined
import Derived.SizedLaws
import Derived.DataReads
import Derived.Deep.DeepHandedRow
import Derived.Laws.Strings
import Derived.Laws.Strings2
import Derived.Laws.Slices
import Derived.Laws.BytesString
import Derived.Maps.OwnSet
import Derived.Maps.Range
import Derived.Lib.AppendStr
import Derived.Sort.KeysCollected
import Derived.Sort.Walk0
import Derived.Laws.CopyRow
import Derived.Lib.ConvBytes
import Derived.LaidLaws
import Derived.Test.YtjajcmedipjfhaaGreatDoorRows
import Derived.Test.YtjajcmedipjfhaaGreatDoorCore
/- From a walk of a law to its row: the arguments opened, and read again behind the call; for every program. -/
namespace Sg
open Go Go.ChangeShapes Go.WideShapes Go.RowKit

theorem Z2t {H:Type} {enc:TypeId × Value→H} {P:Program} (hl:laidOutB P=true) {W W':World} (hb:Below W.heap.size W W'):∀ {ts:List TypeId} {vs:List Value} {ds:List (DataW H)} {ps:List MemPlace},
  ts.all (fun t=>P.readableRec t&&decide (t < P.types.size))=true→DataW.TrodAll enc P W 0 (fun _=>true) true ts vs ds ps→(∀ x∈ps,x.block < W.heap.size)→DataW.TrodAll enc P W' 0 (fun b=>decide (b < W.heap.size)) true ts vs ds ps
 | [],[],[],_,_,h,_=>h
 | t::ts,v::vs,d::ds,ps,ht,h,hlt=>by
  obtain ⟨p,q,h1,h2,rfl⟩:=h
  simp only [List.all_cons,Bool.and_eq_true,decide_eq_true_eq] at ht
  exact ⟨p,q,Below.trod hl ht.1.1 ht.1.2 h1 hb (fun x hx=>hlt x (List.mem_append_left _ hx)),Z2t hl hb (by simpa using ht.2) h2 (fun x hx=>hlt x (List.mem_append_right _ hx)),rfl⟩
 | [],_::_,_,_,_,h,_=>h.elim
 | [],[],_::_,_,_,h,_=>h.elim
 | _::_,[],_,_,_,h,_=>h.elim
 | _::_,_::_,[],_,_,h,_=>h.elim
theorem Z3t {H:Type} {enc:TypeId × Value→H} {P:Program} {W:World} {base:Nat} {sp:Nat→Bool} {held:Bool}:∀ {ts:List TypeId} {vs:List Value} {ds:List (DataW H)} {ps:List MemPlace},DataW.TrodAll enc P W base sp held ts vs ds ps→ds.length=ts.length
 | [],[],[],_,_=>rfl
 | t::ts,v::vs,d::ds,ps,h=>by
  obtain ⟨p,q,h1,h2,rfl⟩:=h
  rw [List.length_cons,List.length_cons,Z3t h2]
 | [],_::_,_,_,h=>h.elim
 | [],[],_::_,_,h=>h.elim
 | _::_,[],_,_,h=>h.elim
 | _::_,_::_,[],_,h=>h.elim
/- Arguments, opened. -/
theorem Zdb {w:World} {a:Addr} {v:Value} (h:w.cell? a=some v):a.block < w.heap.size:=by
 rcases Nat.lt_or_ge a.block w.heap.size with h1|h1
 ·exact h1
 ·simp [World.cell?,Array.getElem?_eq_none h1] at h
theorem Rd.ofF {F:World} {H:List Res} {ad:Option Addr} {vs:List Value} (h:∀ j u,vs[j]?=some u→∃ a,ad=some a∧F.cell? (a.add j)=some u):Rd F [] H ad vs:=⟨fun w hw j u hu=>by
 obtain ⟨a,ha,hc⟩:=h j u hu
 refine ⟨a,ha,?_⟩
 have hlt:=Zdb hc
 have:=hw.keep _ hlt (by simp)
 simp only [World.cell?] at hc ⊢
 rw [this]
 exact hc⟩
/- Listed arrays of numbers. -/
theorem Z6x {P:Program} {W:World} {nm:String} {g T E n:Nat} {k:IntKind} {ns:List Int} {cs:Array Value} {fuel:Nat} {p:List MemPlace} {sp:Nat→Bool} (hg:P.globalNamed nm=some g) (hT:P.underlying T=some (.array n E)) (hE:P.underlying E=some (.int k)) (hc:P.cellsOf E=1)
  (hv:W.var? P nm=some cs) (hd:DataW.trod (fun _=>()) P W 0 sp false fuel T cs.toList=some (.agg (ns.map fun z=>.lit (.int k z)),p)):∀ j z,ns[j]?=some z→W.cell? ⟨g,j,none⟩=some (.int k z):=by
 intro j z hz
 obtain ⟨xs,m,rfl,hx,hlen,hn,hel⟩:=DataW.trod_array hT hd
 simp only [Prod.mk.injEq,DataW.agg.injEq] at hx
 have hj:j < ns.length:=(List.getElem?_eq_some_iff.1 hz).1
 have hxl:xs.length=ns.length:=by
  have:=congrArg List.length hx.1
  simpa using this.symm
 have h1:=hel j (by omega)
 rw [hc,Nat.mul_one,List.getElem?_eq_getElem (by omega)] at h1
 obtain ⟨z',e1,e2,-⟩:=DataW.trod_int hE h1
 have h2:(xs.map (·.1))[j]?=(ns.map fun z=>(DataW.lit (.int k z):DataW Unit))[j]?:=by rw [hx.1]
 rw [List.getElem?_map,List.getElem?_map,hz,List.getElem?_eq_getElem (by omega),e2] at h2
 simp only [Option.map_some,Option.some.injEq,DataW.lit.injEq,Lit.int.injEq,true_and] at h2
 subst h2
 have h3:cs[j]?=some (.int k z'):=by
  have:(cs.toList.drop j).take 1=[.int k z']:=e1
  have h4:((cs.toList.drop j).take 1)[0]?=some (.int k z'):=by rw [this];rfl
  rw [List.getElem?_take_of_lt (by omega),List.getElem?_drop] at h4
  simpa using h4
 rw [World.var?_cell hg hv j]
 exact h3
end Sg
/- Slices of records handed in, opened; for every program. -/
namespace Sg
open Go Go.ChangeShapes Go.WideShapes Go.RowKit
theorem Z7p {α:Type} {Q:Nat→α→Prop}:∀ (n:Nat),(∀ i,i < n→∃ a,Q i a)→∃ xs:List α,xs.length=n∧∀ i a,xs[i]?=some a→Q i a
 | 0,_=>⟨[],rfl,fun i a h=>by simp at h⟩
 | n+1,h=>by
  obtain ⟨xs,h1,h2⟩:=Z7p n (fun i hi=>h i (by omega))
  obtain ⟨a,ha⟩:=h n (by omega)
  refine ⟨xs++[a],by simp [h1],fun i b hb=>?_⟩
  by_cases hi:i < xs.length
  ·rw [List.getElem?_append_left hi] at hb
   exact h2 i b hb
  ·have hl:=(List.getElem?_eq_some_iff.1 hb).1
   simp only [List.length_append,List.length_cons,List.length_nil] at hl
   have hie:i=xs.length:=by omega
   subst hie
   rw [List.getElem?_append_right (Nat.le_refl _),Nat.sub_self,List.getElem?_cons_zero,Option.some.injEq] at hb
   subst hb
   rw [h1]
   exact ha
theorem Zb4 (a:Addr) (x y:Nat):a.add (x+y)=(a.add x).add y:=by
 unfold Addr.add
 by_cases hx:x=0
 ·subst hx
  simp
 ·by_cases hy:y=0
  ·subst hy
   simp
  ·simp [hx,hy,Nat.add_assoc]
end Sg
/- From a walk of a law to its row in the second form (what it reads is of bounded bulk); for every program. -/
namespace Sg
open Go Go.ChangeShapes Go.WideShapes Go.RowKit
end Sg
/- A byte slice of a literal turned into its own type: its block is marked behind its last cell, and only read from then on. -/
namespace Sg
open Go Go.RowKit
instance Rd.mrk {F:World} {M:List Nat} {H:List Res} {b:Nat} {vs:List Value} {E:TypeId} {fr:Nat × Nat}:Rd F M (.obj b (.cells ⟨vs⟩ E fr)::H) (some ⟨b,0,none⟩) vs:=⟨fun w hw j u hu=>⟨⟨b,0,none⟩,rfl,by
 have hb:w.heap[b]?=some (.cells ⟨vs⟩ E fr):=hw.res _ (List.mem_cons_self ..)
 rw [Zm,Nat.zero_add]
 simp [World.cell?,hb,hu]⟩⟩
section
variable {c:Ctx} {H:List Res} {e:Env} {dst:Option Tmp} {ty:TypeId} {pos:String} {aft:Array Edge} {g:Option (Nat × Bool)}
theorem Ef.convM {x:Operand} {b n cp:Nat} {vs:List Value} {t E E':TypeId} (hx:ev e x=some (.slice (some ⟨b,0,none⟩) n cp)) [HU c.P t (.slice E')] [HU c.P E' (.int .u8)] :
  Ef c (.blk b vs E::H) e ⟨dst,.convert t t x,ty,pos,aft,g⟩ fun v H'=>v=.slice (some ⟨b,0,none⟩) n cp∧H'=.obj b (.cells ⟨vs⟩ E (vs.length,vs.length+1))::H:=fun w a hw ha=>by
 have hb:w.heap[b]?=some (.cells ⟨vs⟩ E (0,0)):=hw.res _ (List.mem_cons_self ..)
 have hsh:w.shape? b=some (E,vs.length):=by
  unfold World.shape?
  rw [hb]
  rfl
 have h1:∀ j,b≠j→(w.freeze ⟨b,vs.length,none⟩ 1).heap[j]?=w.heap[j]?:=fun j hj=>by
  unfold World.freeze
  rw [if_neg (by decide)]
  show (w.heap.modify b _)[j]?=_
  rw [Array.getElem?_modify,if_neg hj]
 have h2:(w.freeze ⟨b,vs.length,none⟩ 1).heap[b]?=some (.cells ⟨vs⟩ E (vs.length,vs.length+1)):=by
  unfold World.freeze
  rw [if_neg (by decide)]
  show (w.heap.modify b _)[b]?=_
  rw [Array.getElem?_modify,if_pos rfl,hb]
  rfl
 have h3:(w.freeze ⟨b,vs.length,none⟩ 1).heap.size=w.heap.size:=by
  unfold World.freeze
  rw [if_neg (by decide)]
  simp
 refine ⟨_,w.freeze ⟨b,vs.length,none⟩ 1,_,.inl ?_,?_,rfl,rfl⟩
 ·simp [execOp,ha.ev hx,convert,Z7 (d:=.slice E'),Z7 (d:=.int .u8),markStringish,hsh]
 ·refine hw.turn ?_ ?_ ?_ (Nat.le_of_eq h3.symm) (fun j _ hj=>h1 j (by simpa [Res.foot,eq_comm] using hj)) h2 (fun c hc=>.inl hc) (by simp [Res.foot])
  all_goals (unfold World.freeze;rw [if_neg (by decide)])
end
theorem T.convM {c:Ctx} {dr:Bool} {ds:List Deferred} {H:List Res} {e:Env} {ops:Array Oper} {l:List Oper} {κ:List Res→Env→Prop} {ty:TypeId} {pos:String} {aft:Array Edge} {d:Tmp} {x:Operand} {b n cp:Nat} {vs:List Value} {t E E':TypeId} (hx:ev e x=some (.slice (some ⟨b,0,none⟩) n cp)) [HU c.P t (.slice E')] [HU c.P E' (.int .u8)] (hlt:Nat.blt d c.fn.ntmps=true)
  (hk:Sr (.eff dr) c ds (.obj b (.cells ⟨vs⟩ E (vs.length,vs.length+1))::H) ops l κ ((d,.slice (some ⟨b,0,none⟩) n cp)::e)):Sr (.eff dr) c ds (.blk b vs E::H) ops (⟨some d,.convert t t x,ty,pos,aft,none⟩::l) κ e :=
 Sr.eff (Ef.convM (E':=E') hx) hlt rfl fun v H' ⟨hv,hH⟩=>by
  subst hv hH
  exact hk
end Sg
/- More rules: the complement of a number, shifts of negative ones, a literal as a slice that may grow. -/
namespace Sg
open Go Go.RowKit
theorem St.weakB {F:World} {M:List Nat} {w:World} {H H':List Res} (h:St F M w H) (hf:∀ b∈feet H',b∈feet H) (hn:(feet H').Nodup) (hr:∀ r∈H',r.holds w):St F M w H' :=
 ⟨h.os,h.tape,h.output,h.size,h.keep,fun b hb=>h.own b (hf b hb),hn,hr⟩
theorem St.blkRow {F:World} {M:List Nat} {w:World} {H:List Res} {b n:Nat} {vs:List Value} {E:TypeId} (h:St F M w (.blk b vs E::H)) (hn:vs.length=n) (hm:n≤maxLen):St F M w (.row (some ⟨b,0,none⟩) n E 1 n vs::H):=by
 refine h.weakB (fun _ h=>h) h.nd (fun r hr=>?_)
 rcases List.mem_cons.1 hr with rfl|hr
 ·have hb:w.heap[b]?=some (.cells ⟨vs⟩ E (0,0)):=h.res _ (List.mem_cons_self ..)
  subst hn
  exact ⟨(Nat.mul_one _).symm,.inr ⟨b,vs.length,⟨vs⟩,rfl,Nat.zero_le _,hb,Nat.le_refl _,hm,by simp,by simp⟩⟩
 ·exact h.res r (List.mem_cons_of_mem _ hr)
section
variable {c:Ctx} {dr:Bool} {ds:List Deferred} {H:List Res} {e:Env} {ops:Array Oper} {l:List Oper} {κ:List Res→Env→Prop} {ty:TypeId} {pos:String} {aft:Array Edge} {q:Mode}
theorem S.rowOf {k:List Item} {b n:Nat} {vs:List Value} {E:TypeId} (hn:vs.length=n) (hm:n≤maxLen) (h:S c ds (.row (some ⟨b,0,none⟩) n E 1 n vs::H) k e):S c ds (.blk b vs E::H) k e:=h.weaken fun _ hw=>hw.blkRow hn hm
end
end Sg
/- More rules: a whole slice of records appended. -/
namespace Sg
open Go Go.RowKit
section
variable {c:Ctx} {dr:Bool} {ds:List Deferred} {H:List Res} {e:Env} {ops:Array Oper} {l:List Oper} {κ:List Res→Env→Prop} {ty:TypeId} {pos:String} {aft:Array Edge}
theorem T.appendAllF {α:Type} {g:α→List Value} {sz:Nat} {d:Tmp} {x y:Operand} {ad sad:Option Addr} {n cp m scp t E:Nat} [HU c.P t (.slice E)] {z:Value} {by_:Nat} [HI c.P E z sz by_] {xs us:List α} {f:Res→List Res} (hx:ev e x=some (.slice ad n cp)) (hy:ev e y=some (.slice sad m scp))
  (hr:AtR H ad cp E sz n (xs.flatMap g) f) (hs:Rd c.F c.M H sad (us.flatMap g)) (hm:us.length=m) (hg:∀ a,(g a).length=sz) (hone:∀ a,(g a).all (·.oneCell')=true) (hzs:z.cells.size=sz) (hsz:Nat.blt 0 sz=true) (hroom:(n+m)*by_≤140737488355328∧n+m≤140737488355328) (hlt:Nat.blt d c.fn.ntmps=true)
  (hk:∀ ad' cp',Sr (.eff dr) c ds (f (.row ad' cp' E sz (n+m) ((xs++us).flatMap g))) ops l κ ((d,.slice ad' (n+m) cp')::e)) :
  Sr (.eff dr) c ds H ops (⟨some d,.call ⟨.builtin .append,#[x,y],#[t,t]⟩,ty,pos,aft,none⟩::l) κ e:=by
 have hs0:0 < sz:=by simpa [Nat.blt_eq] using hsz
 have hk':∀ ad' cp',Sr (.eff dr) c ds (f (.row ad' cp' E sz (n+m) (xs.flatMap g++us.flatMap g))) ops l κ ((d,.slice ad' (n+m) cp')::e):=fun ad' cp'=>by rw [←List.flatMap_append];exact hk ad' cp'
 have hfl:(us.flatMap g).length=m*sz:=by rw [Z0y hg,hm]
 have hall:(us.flatMap g).all (·.oneCell')=true:=by
  rw [List.all_eq_true]
  intro v hv
  obtain ⟨a,_,ha⟩:=List.mem_flatMap.1 hv
  exact List.all_eq_true.1 (hone a) v ha
 cases sad with
 | some q=>exact Sr.appendR (z:=z) (by_:=by_) hx hy (by simp) hfl hall hzs hs0 hroom hlt hk'
 | none =>
  have he:Ef c H e ⟨some d,.call ⟨.builtin .append,#[x,y],#[t,t]⟩,ty,pos,aft,none⟩ (fun v H'=>∃ ad' cp',v=.slice ad' (n+m) cp'∧H'=f (.row ad' cp' E sz (n+m) (xs.flatMap g++us.flatMap g))):=fun w a hw ha=>by
   have hus:us=[]:=by
    cases us with
    | nil=>rfl
    | cons u r =>
     cases hgu:g u with
     | nil =>
      have:=hg u
      rw [hgu] at this
      simp at this
      omega
     | cons v vs =>
      obtain ⟨ad',h1,-⟩:=hs.h w hw 0 v (by simp [hgu])
      cases h1
   subst hus
   subst hm
   obtain ⟨rest,h1,h2⟩:=hr.h
   have hcap:n≤cp:=Z5q ((hw.perm h1).res _ (List.mem_cons_self ..))
   have hrun:=Z59 (P:=c.P) (t:=t) (E:=E) (ty:=ty) (z:=z) (sz:=sz) (by_:=by_) (ad:=ad) (scp:=scp) hcap w
   refine ⟨.slice ad n cp,w,_,.inl (by simp [execOp,ha.ev hx,ha.ev hy,resolve,invoke,builtin,hrun]),hw.perm ((h1.trans ?_)),ad,cp,rfl,rfl⟩
   simpa using h2 (.row ad cp E sz n (xs.flatMap g))
  exact Sr.eff he hlt rfl (fun v H' ⟨ad',cp',hv,hH⟩=>by subst hv hH;exact hk' ad' cp')
end
end Sg
/- Rules on texts: a text is the list of its bytes. -/
namespace Sg
open Go Go.RowKit
abbrev sV (l:List UInt8):Value:=.string (ByteArray.mk l.toArray)
theorem Zds (s:ByteArray):Value.string s=sV s.data.toList:=by
 cases s
 simp [sV]
theorem ZaU (a b:List UInt8):(a==b)=decide (a=b):=by by_cases h:a=b<;>simp [h]
section
variable {c:Ctx} {dr:Bool} {ds:List Deferred} {H:List Res} {e:Env} {ops:Array Oper} {l:List Oper} {κ:List Res→Env→Prop} {dst:Option Tmp} {ty:TypeId} {pos:String} {aft:Array Edge} {g:Option (Nat × Bool)} {q:Mode}
theorem Pu.sop {x y:Operand} {a b:List UInt8} {op:BinOp} {t u:TypeId} {v:Value} (hop:op=.eql∨op=.neq∨op=.lss∨op=.leq∨op=.gtr∨op=.geq∨op=.add) (hx:ev e x=some (sV a)) (hy:ev e y=some (sV b))
  (hv:∀ w,(Op.stringOp op (ByteArray.mk a.toArray) (ByteArray.mk b.toArray)).run c.P w=.ok v w):Pu c H e ⟨dst,.binOp op t x y u,ty,pos,aft,g⟩ v:=fun w ac _ ha=>by
 rcases hop with rfl|rfl|rfl|rfl|rfl|rfl|rfl<;>simp [execOp,ha.ev hx,ha.ev hy,eqGuard,binOp,hv]
theorem T.sop {x y:Operand} {d:Tmp} {a b:List UInt8} {op:BinOp} {t u:TypeId} {v:Value} (hop:op=.eql∨op=.neq∨op=.lss∨op=.leq∨op=.gtr∨op=.geq∨op=.add) (hx:ev e x=some (sV a)) (hy:ev e y=some (sV b))
  (hv:∀ w,(Op.stringOp op (ByteArray.mk a.toArray) (ByteArray.mk b.toArray)).run c.P w=.ok v w) (hlt:Nat.blt d c.fn.ntmps=true) (hk:Sr q c ds H ops l κ ((d,v)::e)):Sr q c ds H ops (⟨some d,.binOp op t x y u,ty,pos,aft,none⟩::l) κ e :=
 Sr.p (Pu.sop hop hx hy hv) rfl hlt rfl hk
theorem T.seql {x y:Operand} {d:Tmp} {a b:List UInt8} {t u:TypeId} (hx:ev e x=some (sV a)) (hy:ev e y=some (sV b)) (hlt:Nat.blt d c.fn.ntmps=true) (hk:Sr q c ds H ops l κ ((d,.bool (decide (a=b)))::e)):Sr q c ds H ops (⟨some d,.binOp .eql t x y u,ty,pos,aft,none⟩::l) κ e :=
 T.sop (by simp) hx hy (fun w=>by
  simp [Op.stringOp,Sem.run_pure]
  rw [ZaU]) hlt hk
theorem T.sneq {x y:Operand} {d:Tmp} {a b:List UInt8} {t u:TypeId} (hx:ev e x=some (sV a)) (hy:ev e y=some (sV b)) (hlt:Nat.blt d c.fn.ntmps=true) (hk:Sr q c ds H ops l κ ((d,.bool (decide (¬a=b)))::e)):Sr q c ds H ops (⟨some d,.binOp .neq t x y u,ty,pos,aft,none⟩::l) κ e :=
 T.sop (by simp) hx hy (fun w=>by
  simp [Op.stringOp,Sem.run_pure]
  rw [ZaU]) hlt hk
theorem T.sadd {x y:Operand} {d:Tmp} {a b:List UInt8} {t u:TypeId} (hx:ev e x=some (sV a)) (hy:ev e y=some (sV b)) (hm:a.length+b.length≤9223372036854775807) (hlt:Nat.blt d c.fn.ntmps=true) (hk:Sr q c ds H ops l κ ((d,sV (a++b))::e)):Sr q c ds H ops (⟨some d,.binOp .add t x y u,ty,pos,aft,none⟩::l) κ e :=
 T.sop (by simp) hx hy (fun w=>by
  have h:¬(((a.length+b.length:Nat):Int) > IntKind.i64.max):=by
   show ¬(((a.length+b.length:Nat):Int) > 9223372036854775807)
   omega
  have h2:ByteArray.mk a.toArray++ByteArray.mk b.toArray=ByteArray.mk (a++b).toArray:=by
   apply ByteArray.ext
   simp
  have h3:(ByteArray.mk a.toArray).size+(ByteArray.mk b.toArray).size=a.length+b.length:=rfl
  simp only [Op.stringOp,h3,if_neg h,h2,Sem.run_pure]) hlt hk
theorem T.slen {x:Operand} {d:Tmp} {a:List UInt8} {t:TypeId} [HU c.P t .string] (hx:ev e x=some (sV a)) (hlt:Nat.blt d c.fn.ntmps=true) (hk:Sr q c ds H ops l κ ((d,.int .i64 (a.length:Int))::e)):Sr q c ds H ops (⟨some d,.call ⟨.builtin .len,#[x],#[t]⟩,ty,pos,aft,none⟩::l) κ e:=T.lenS hx hlt hk
theorem Pu.sidx {x y:Operand} {a:List UInt8} {i:Nat} {kd:IntKind} {t:TypeId} [HU c.P t .string] (hx:ev e x=some (sV a)) (hy:ev e y=some (.int kd (i:Int))) (h:i < a.length):Pu c H e ⟨dst,.index t x y,ty,pos,aft,g⟩ (.int .u8 ((a.getD i 0).toNat:Int)):=fun w ac _ ha=>by
 have hr:=run_index_string (P:=c.P) w t (ByteArray.mk a.toArray) kd (i:Int) (HU.h (P:=c.P) (t:=t))
 have hs:(0:Int)≤(i:Int)∧((i:Nat):Int) < ((ByteArray.mk a.toArray).size:Nat):=⟨by omega,by show (i:Int) < (a.length:Nat);omega⟩
 rw [dif_pos hs] at hr
 have hg : (ByteArray.mk a.toArray)[(i : Int).toNat]'(by show _ < a.length; omega) = a.getD i 0 := by
  show a.toArray[(i : Int).toNat]'_ = _
  simp [List.getD,h]
 rw [hg] at hr
 simp [execOp,ha.ev hx,ha.ev hy,hr]
theorem T.sidx {x y:Operand} {d:Tmp} {a:List UInt8} {i:Nat} {kd:IntKind} {t:TypeId} [HU c.P t .string] (hx:ev e x=some (sV a)) (hy:ev e y=some (.int kd (i:Int))) (h:i < a.length) (hlt:Nat.blt d c.fn.ntmps=true) (hk:Sr q c ds H ops l κ ((d,.int .u8 ((a.getD i 0).toNat:Int))::e)) :
  Sr q c ds H ops (⟨some d,.index t x y,ty,pos,aft,none⟩::l) κ e:=Sr.p (Pu.sidx hx hy h) rfl hlt rfl hk
end
end Sg
/- Maps from texts to numbers that the call owns: a list of entries by rising names. -/
namespace Sg
open Go Go.RowKit Go.ChangeMaps Go.MapKept
open Go.WideElems (Fit rd rg)
open Go.Maps (Keyed)
abbrev D0:=DataW Unit
/- Plain: entries. -/
abbrev Ents:=List (List UInt8 × Int)
def entD (p:List UInt8 × Int):Lit × D0:=(.string p.1,.lit (.int .i64 p.2))
def mapD (m:Ents):D0:=.map (m.map entD)
def eget (m:Ents) (k:List UInt8):Option Int:=(m.find? fun p=>p.1==k).map (·.2)
def edel (m:Ents) (k:List UInt8):Ents:=m.filter fun p=>!(p.1==k)
def eins (x:List UInt8 × Int):Ents→Ents
 | []=>[x]
 | y::r=>if (Lit.string x.1).before (.string y.1) then x::y::r else y::eins x r
def eput (m:Ents) (k:List UInt8) (v:Int):Ents:=eins (k,v) (edel m k)
theorem ZcY (m:Ents) (k:List UInt8):(mapD m).atKey (.string k) (.lit (.int .i64 0))=.lit (.int .i64 ((eget m k).getD 0)):=by
 unfold mapD DataW.atKey eget
 simp only
 induction m with
 | nil=>rfl
 | cons p m ih =>
  simp only [List.map_cons,List.find?_cons,entD,Lit.sameKey]
  cases p.1==k with
  | true=>rfl
  | false=>exact ih
theorem Z8i (m:Ents) (k:List UInt8) (zd:D0):(mapD m).atKey (.string k) zd=match eget m k with
  | some v=>.lit (.int .i64 v)
  | none=>zd:=by
 unfold mapD DataW.atKey eget
 simp only
 induction m with
 | nil=>rfl
 | cons p m ih =>
  simp only [List.map_cons,List.find?_cons,entD,Lit.sameKey]
  cases p.1==k with
  | true=>rfl
  | false=>exact ih
theorem ZbD (m:Ents) (k:List UInt8):Maps.has (mapD m) (.string k)=(eget m k).isSome:=by
 unfold mapD eget
 rw [Maps.has_eq]
 induction m with
 | nil=>rfl
 | cons p m ih =>
  rw [List.map_cons,List.any_cons,ih,List.find?_cons]
  show ((p.1==k) || _)=_
  cases p.1==k<;>rfl
theorem Z3Q (m:Ents):Maps.size (mapD m)=m.length:=by
 unfold mapD
 rw [Maps.size_eq,List.length_map]
theorem ZbE (m:Ents) (k:List UInt8):(mapD m).del (.string k)=mapD (edel m k):=by
 unfold mapD DataW.del edel
 simp only [List.filter_map,DataW.map.injEq]
 rfl
theorem Z8h (x:List UInt8 × Int):∀ m:Ents,DataW.insert (entD x) (m.map entD)=(eins x m).map entD
 | []=>rfl
 | y::r=>by
  rw [List.map_cons,DataW.insert,eins]
  show (if (Lit.string x.1).before (.string y.1) then _ else _)=_
  by_cases h:(Lit.string x.1).before (.string y.1)=true
  ·rw [if_pos h,if_pos h];rfl
  ·rw [if_neg h,if_neg h,Z8h x r];rfl
theorem Z8g (m:Ents) (k:List UInt8) (v:Int):(mapD m).put (.string k) (.lit (.int .i64 v))=mapD (eput m k v):=by
 have h:=ZbE m k
 unfold mapD DataW.del at h
 unfold mapD DataW.put eput
 simp only [DataW.map.injEq] at h ⊢
 rw [h]
 exact Z8h (k,v) (edel m k)
/- The resource. -/
def mapQ (P:Program) (k e:TypeId) (n:Nat) (D:D0) (o:Obj):Prop :=
 ∃ es clock,o=.map es clock∧Fit P k (plainElem (H:=Unit) P e) es clock∧es.size≤n∧D=.map ((es.toList.map (rg P k (plainElem (H:=Unit) P e))).foldr DataW.insert [])
theorem mapQ_iff {P:Program} {w:World} {k e:TypeId} {b n:Nat} {D:D0}:(Res.ex b (mapQ P k e n D)).holds w↔w.ownsMap P k (plainElem P e) b n D :=
 ⟨fun ⟨_,h1,es,clock,h2,h3⟩=>by subst h2;exact ⟨es,clock,h1,h3⟩,fun ⟨es,clock,h1,h3⟩=>⟨_,h1,es,clock,rfl,h3⟩⟩
class InE (H:List Res) (b:Nat) (Q:outParam (Obj→Prop)):Prop where
 h:Res.ex b Q∈H
instance InE.hd {H:List Res} {b:Nat} {Q:Obj→Prop}:InE (.ex b Q::H) b Q:=⟨List.mem_cons_self ..⟩
instance InE.tl {H:List Res} {b:Nat} {Q:Obj→Prop} {r:Res} [h:InE H b Q]:InE (r::H) b Q:=⟨List.mem_cons_of_mem _ h.h⟩
instance Fr.hdE {H:List Res} {b:Nat} {Q:Obj→Prop}:Fr (.ex b Q::H) b (.ex b Q::H):=⟨.refl _⟩
section
variable {c:Ctx} {dr:Bool} {ds:List Deferred} {H:List Res} {e:Env} {ops:Array Oper} {l:List Oper} {κ:List Res→Env→Prop} {dst:Option Tmp} {ty:TypeId} {pos:String} {aft:Array Edge} {g:Option (Nat × Bool)} {q:Mode}
theorem Z63 {P:Program} {k:TypeId} (hk:P.underlying k=some .string) {kk:List UInt8} (hl:kk.length≤maxLen):keyOf P k (sV kk)=some (.string kk):=WideMaps.keyOf_string_mk hk (s:=ByteArray.mk kk.toArray) hl
theorem Pu.mapLook {x y:Operand} {b n:Nat} {m:Ents} {kk:List UInt8} {t k E:TypeId} [HU c.P t (.map k E)] [HU c.P k .string] [HU c.P E (.int .i64)] {sz by_:Nat} [HI c.P E (.int .i64 0) sz by_] (hx:ev e x=some (.map (some b))) (hy:ev e y=some (sV kk)) (hl:kk.length≤maxLen) (hm:InE H b (mapQ c.P k E n (mapD m))) :
  Pu c H e ⟨dst,.lookup t x y false,ty,pos,aft,g⟩ (.int .i64 ((eget m kk).getD 0)):=fun w a hw ha=>by
 have hown:=mapQ_iff.1 (hw.res _ hm.h)
 obtain ⟨v,hrun,hat,_⟩:=hown.lookup_int (Maps.string_keyed HU.h) (HU.h (P:=c.P) (t:=t)) (HU.h (P:=c.P) (t:=E)) (Z1l w) (Z63 (P:=c.P) (k:=k) HU.h hl)
 rw [ZcY] at hat
 simp only [DataW.lit.injEq,Lit.int.injEq,true_and] at hat
 subst hat
 simp [execOp,ha.ev hx,ha.ev hy,hrun]
theorem St.turnMap {F:World} {M:List Nat} {w w':World} {H:List Res} {b:Nat} {Q Q':Obj→Prop} (h:St F M w (.ex b Q::H)) (hg:w.grownBy w' (some b)) (hr:(Res.ex b Q').holds w'):St F M w' (.ex b Q'::H) :=
 h.turn hg.os hg.tape hg.output hg.size (fun j hj hn=>hg.block j hj (by simpa [Res.foot] using hn)) hr (fun c hc=>.inl hc) (by simp [Res.foot])
theorem Ef.mapMake {t k E:TypeId} [HU c.P t (.map k E)]:Ef c H e ⟨dst,.makeMap t none,ty,pos,aft,g⟩ fun v H'=>∃ b,v=.map (some b)∧H'=.ex b (mapQ c.P k E 0 (mapD []))::H:=fun w a hw ha=>by
 refine ⟨.map (some w.heap.size),w.alloc (.map #[] 0),_,.inl ?_,?_,w.heap.size,rfl,rfl⟩
 ·simp [execOp,run_makeMap]
 ·exact hw.fresh rfl rfl rfl (by simp) (fun j hj=>Below.heap_alloc _ _ _ hj) (mapQ_iff.2 (World.ownsMap_made w c.P k (plainElem c.P E))) (by simp [Res.foot]) (by simp [Res.foot])
theorem Ef.mapPut {x y u:Operand} {b n:Nat} {m:Ents} {kk:List UInt8} {z:Int} {t k E:TypeId} [HU c.P t (.map k E)] [HU c.P k .string] [HU c.P E (.int .i64)] (hx:ev e x=some (.map (some b))) (hy:ev e y=some (sV kk)) (hu:ev e u=some (.int .i64 z)) (hl:kk.length≤maxLen) (hn:n < maxLen) (hz:(Lit.int .i64 z).wf=true) :
  Ef c (.ex b (mapQ c.P k E n (mapD m))::H) e ⟨dst,.mapUpdate t x y u,ty,pos,aft,g⟩ fun v H'=>v=undef∧H'=.ex b (mapQ c.P k E (n+1) (mapD (eput m kk z)))::H:=fun w a hw ha=>by
 have hown:=mapQ_iff.1 (hw.res _ (List.mem_cons_self ..))
 obtain ⟨w',hrun,hown',hg⟩:=hown.update (Maps.string_keyed HU.h) (HU.h (P:=c.P) (t:=t)) hn (Z63 (P:=c.P) (k:=k) HU.h hl) (plainElem_int (q:=.i64) (a:=z) (HU.h (P:=c.P) (t:=E)) hz)
 rw [Z8g] at hown'
 refine ⟨undef,w',_,.inr ⟨?_,rfl⟩,St.turnMap hw hg (mapQ_iff.2 hown'),rfl,rfl⟩
 simp [execOp,ha.ev hx,ha.ev hy,ha.ev hu,hrun]
/- A range over a map. -/
theorem Z9f {P:Program} {w w':World} {b r:Nat} {es:Array MapEntry} {clock since c0:Nat} {seen:Array Nat} {v:Value} (hb:w.heap[b]?=some (.map es clock)) (hr:w.heap[r]?=some (.mapIter (some b) since seen c0))
  (hb':w'.heap[b]?=some (.map es clock)) (hr':w'.heap[r]?=some (.mapIter (some b) since seen c0)) (h:(Instr.entry (.pointer (some ⟨r,0,none⟩))).run P w=.ok v w):(Instr.entry (.pointer (some ⟨r,0,none⟩))).run P w'=.ok v w':=by
 have g1:∀ {u:World},u.heap[r]?=some (.mapIter (some b) since seen c0)→(getObj r).run P u=.ok (.mapIter (some b) since seen c0) u:=fun hu=>by simp [getObj,Sem.run,hu]
 have g2:∀ {u:World},u.heap[b]?=some (.map es clock)→(getObj b).run P u=.ok (.map es clock) u:=fun hu=>run_getObj_map hu
 simp only [Instr.entry,Sem.run_bind,g1 hr,g1 hr',Result.andThen] at h ⊢
 generalize seen.back?=ob at h ⊢
 cases ob with
 | none=>cases h
 | some st =>
  dsimp only at h ⊢
  simp only [Sem.run_bind,g2 hb,g2 hb',Result.andThen] at h ⊢
  by_cases hc:(clock != c0)=true
  ·rw [if_pos hc] at h
   cases h
  ·rw [if_neg hc] at h ⊢
   generalize es.find? (fun x=>x.born==st)=oe at h ⊢
   cases oe with
   | none=>cases h
   | some en =>
    dsimp only at h ⊢
    rw [Sem.run_pure] at h ⊢
    cases h
    rfl
end
end Sg
/- Rules on maps, in the form that walks apply. -/
namespace Sg
open Go Go.RowKit
section
variable {c:Ctx} {dr:Bool} {ds:List Deferred} {H:List Res} {e:Env} {ops:Array Oper} {l:List Oper} {κ:List Res→Env→Prop} {ty:TypeId} {pos:String} {aft:Array Edge} {q:Mode}
theorem T.mapLook {x y:Operand} {d:Tmp} {b n:Nat} {m:Ents} {kk:List UInt8} {t k E:TypeId} [HU c.P t (.map k E)] [HU c.P k .string] [HU c.P E (.int .i64)] {sz by_:Nat} [HI c.P E (.int .i64 0) sz by_] (hx:ev e x=some (.map (some b))) (hy:ev e y=some (sV kk)) (hm:InE H b (mapQ c.P k E n (mapD m))) (hl:kk.length≤maxLen) (hlt:Nat.blt d c.fn.ntmps=true)
  (hk:Sr q c ds H ops l κ ((d,.int .i64 ((eget m kk).getD 0))::e)):Sr q c ds H ops (⟨some d,.lookup t x y false,ty,pos,aft,none⟩::l) κ e:=Sr.p (Pu.mapLook (k:=k) (E:=E) (sz:=sz) (by_:=by_) hx hy hl hm) rfl hlt rfl hk
theorem T.mapMake {d:Tmp} {t k E:TypeId} [HU c.P t (.map k E)] (hlt:Nat.blt d c.fn.ntmps=true) (hk:∀ b,Sr (.eff dr) c ds (.ex b (mapQ c.P k E 0 (mapD []))::H) ops l κ ((d,.map (some b))::e)):Sr (.eff dr) c ds H ops (⟨some d,.makeMap t none,ty,pos,aft,none⟩::l) κ e :=
 Sr.eff (Ef.mapMake (k:=k) (E:=E)) hlt rfl fun v H' ⟨b,hv,hH⟩=>by
  subst hv hH
  exact hk b
theorem T.mapPut {x y u:Operand} {b n:Nat} {m:Ents} {kk:List UInt8} {z:Int} {t k E:TypeId} [HU c.P t (.map k E)] [HU c.P k .string] [HU c.P E (.int .i64)] (hx:ev e x=some (.map (some b))) (hy:ev e y=some (sV kk)) (hu:ev e u=some (.int .i64 z)) (hl:kk.length≤maxLen) (hn:n < maxLen) (hz:(Lit.int .i64 z).wf=true)
  (hk:Sr (.eff dr) c ds (.ex b (mapQ c.P k E (n+1) (mapD (eput m kk z)))::H) ops l κ e):Sr (.eff dr) c ds (.ex b (mapQ c.P k E n (mapD m))::H) ops (⟨none,.mapUpdate t x y u,ty,pos,aft,none⟩::l) κ e :=
 Sr.eff (Ef.mapPut (k:=k) (E:=E) hx hy hu hl hn hz) rfl rfl fun v H' ⟨hv,hH⟩=>by
  subst hv hH
  exact hk
theorem Z94 {P:Program} {k E:TypeId} {n:Nat} {m:Ents} {o:Obj} (h:mapQ P k E n (mapD m) o):mapQ P k E m.length (mapD m) o:=by
 obtain ⟨es,clock,h1,h2,h3,h4⟩:=h
 refine ⟨es,clock,h1,h2,?_,h4⟩
 have h5:=congrArg Maps.size h4
 rw [Z3Q] at h5
 rw [h5,Maps.size_eq,length_sorted,List.length_map,Array.length_toList]
 exact Nat.le_refl _
theorem St.tight {F:World} {M:List Nat} {w:World} {P:Program} {b n:Nat} {m:Ents} {k E:TypeId} (hw:St F M w (.ex b (mapQ P k E n (mapD m))::H)):St F M w (.ex b (mapQ P k E m.length (mapD m))::H) :=
 hw.weakB (fun _ h=>h) hw.nd fun q hq=>by
  rcases List.mem_cons.1 hq with rfl|hq
  ·obtain ⟨o,h1,h2⟩:=hw.res _ (List.mem_cons_self ..)
   exact ⟨o,h1,Z94 h2⟩
  ·exact hw.res q (List.mem_cons_of_mem _ hq)
theorem Sr.tight {b n:Nat} {m:Ents} {k E:TypeId} (h:Sr (.eff dr) c ds (.ex b (mapQ c.P k E m.length (mapD m))::H) ops l κ e):Sr (.eff dr) c ds (.ex b (mapQ c.P k E n (mapD m))::H) ops l κ e:=h.weaken fun _ hw=>hw.tight
theorem T.mapPutT {x y u:Operand} {b n:Nat} {m:Ents} {kk:List UInt8} {z:Int} {t k E:TypeId} [HU c.P t (.map k E)] [HU c.P k .string] [HU c.P E (.int .i64)] (hx:ev e x=some (.map (some b))) (hy:ev e y=some (sV kk)) (hu:ev e u=some (.int .i64 z)) (hl:kk.length≤maxLen) (hn:n < maxLen) (hz:(Lit.int .i64 z).wf=true)
  (hk:Sr (.eff dr) c ds (.ex b (mapQ c.P k E (eput m kk z).length (mapD (eput m kk z)))::H) ops l κ e):Sr (.eff dr) c ds (.ex b (mapQ c.P k E n (mapD m))::H) ops (⟨none,.mapUpdate t x y u,ty,pos,aft,none⟩::l) κ e :=
 T.mapPut (k:=k) (E:=E) hx hy hu hl hn hz hk.tight
end
end Sg
/- More rules on texts and maps: texts as elements, texts behind bytes, texts of bytes; the names of a map rise. -/
namespace Sg
open Go Go.RowKit Go.ChangeMaps Go.MapKept
section
variable {c:Ctx} {dr:Bool} {ds:List Deferred} {H:List Res} {e:Env} {ops:Array Oper} {l:List Oper} {κ:List Res→Env→Prop} {dst:Option Tmp} {ty:TypeId} {pos:String} {aft:Array Edge} {g:Option (Nat × Bool)} {q:Mode}
theorem getS {xs:List (List UInt8)} {j:Nat} (h:j < xs.length):(xs.map sV)[j]?=some (sV (xs.getD j [])):=by
 simp [List.getD,h]
theorem T.loadS {x:Operand} {d:Tmp} {ad:Option Addr} {j:Nat} {t:TypeId} [HU c.P t .string] {xs:List (List UInt8)} (hx:ev e x=some (.pointer (eaddr ad j))) (hr:Rd c.F c.M H ad (xs.map sV)) (hj:j < xs.length) (hlt:Nat.blt d c.fn.ntmps=true)
  (hk:Sr q c ds H ops l κ ((d,sV (xs.getD j []))::e)):Sr q c ds H ops (⟨some d,.load t x,ty,pos,aft,none⟩::l) κ e:=Sr.p (Pu.loadE (d:=.string) hx rfl (getS hj)) rfl hlt rfl hk
/- A text behind bytes. -/
theorem Z5Q {P:Program} (w:World) (t u ty e:TypeId) (i:TypeInfo) (ht:P.underlying t=some (.slice e)) (hu:P.underlying u=some .string) (hi:P.info? e=some i) (hz:i.zero=some (.int .u8 0))
  (hsize:i.size=1) (hby:i.bytes=1) (v:Value) (n:Nat) (xs:List Value) (hown:w.ownsRow 0 e 1 v n xs) (s:ByteArray) (h63:n+s.size≤maxLen) (hbytes:n+s.size≤140737488355328) {v':Value} {w':World}
  (hrun:(Builtin.append_ #[t,u] ty #[v,.string s]).run P w=.ok v' w'):v'.ownBlock=v.ownBlock∨v'.ownBlock=some w.heap.size:=by
 have hsmall:n+s.size≤9223372036854775807:=by simp only [maxLen] at h63;omega
 have hxl:xs.length=n:=by simpa using hown.1
 rcases hown.2 with ⟨rfl,rfl⟩|⟨g,cap,cur,rfl,hbg,hg,hnc,hcm,hcs,htake⟩
 ·by_cases hm:s.size=0
  ·have hf:=Lib.run_firstCells_string (P:=P) w 1 s
   rw [hm] at hf
   have hr:(Builtin.append_ #[t,u] ty #[.slice none 0 0,.string s]).run P w=.ok (.slice none 0 0) w:=by
    simp [Builtin.append_,run_underlying ht,run_underlying hu,Go.sizeOf,typeInfo,hi,hsize,Builtin.lenOf,hm,hf]
   rw [hr] at hrun
   simp only [Result.ok.injEq] at hrun
   left
   rw [←hrun.1]
  ·have hr:=run_append_nil_string (P:=P) w t u ty e i (.int .u8 0) ht hu hi hz s (by omega) (by omega) (by rw [hby];omega)
   rw [hr] at hrun
   simp only [Result.ok.injEq] at hrun
   right
   rw [←hrun.1]
   rfl
 ·by_cases hroom:n+s.size≤cap
  ·have hcs':cur.size=cap:=by simpa using hcs
   have hr:=Lib.run_append_room_string (P:=P) w t u ty e i ht hu hi hsize g n cap cur hg s hroom (by omega)
   rw [hr] at hrun
   simp only [Result.ok.injEq] at hrun
   left
   rw [←hrun.1]
   rfl
  ·have holds:∀ j u,xs[j]?=some u→w.cell? ((⟨g,0,none⟩:Addr).add j)=some u:=hown.cells (g:=g) rfl
   have hr:=Lib.run_append_grow_string (P:=P) w t u ty e i (.int .u8 0) ht hu hi hz ⟨g,0,none⟩ n cap xs (by rw [hsize];simpa using hxl) holds s (by omega) (by omega) (by rw [hby];exact growslice_fits (by omega) (by omega))
   rw [hr] at hrun
   simp only [Result.ok.injEq] at hrun
   right
   rw [←hrun.1]
   rfl
theorem Z6Y (s:List UInt8):Lib.strCells (ByteArray.mk s.toArray)=s.map bV:=by simp [Lib.strCells]
theorem T.appendS {d:Tmp} {x y:Operand} {ad:Option Addr} {n cp t u E:Nat} [HU c.P t (.slice E)] [HU c.P u .string] [HI c.P E (.int .u8 0) 1 1] {xs s:List UInt8} {f:Res→List Res} (hx:ev e x=some (.slice ad n cp)) (hy:ev e y=some (sV s))
  (hr:AtR H ad cp E 1 n (xs.map bV) f) (hroom:n+s.length≤140737488355328) (hlt:Nat.blt d c.fn.ntmps=true)
  (hk:∀ ad' cp',Sr (.eff dr) c ds (f (.row ad' cp' E 1 (n+s.length) ((xs++s).map bV))) ops l κ ((d,.slice ad' (n+s.length:Nat) cp')::e)) :
  Sr (.eff dr) c ds H ops (⟨some d,.call ⟨.builtin .append,#[x,y],#[t,u]⟩,ty,pos,aft,none⟩::l) κ e :=
 Sr.eff (K:=fun v H'=>∃ ad' cp',v=.slice ad' (n+s.length) cp'∧H'=f (.row ad' cp' E 1 (n+s.length) ((xs++s).map bV))) (fun w a hw ha=>by
  obtain ⟨rest,h1,h2⟩:=hr.h
  have hw1:=hw.perm h1
  obtain ⟨i,hi1,hi2,hi3,hi4⟩:=HI.h (P:=c.P) (t:=E) (z:=.int .u8 0) (sz:=1) (by_:=1)
  have hrow:w.ownsRow 0 E 1 (.slice ad n cp) n (xs.map bV):=hw1.res _ (List.mem_cons_self ..)
  have hsz:(ByteArray.mk s.toArray).size=s.length:=rfl
  have hmax:n+(ByteArray.mk s.toArray).size≤maxLen:=by rw [hsz];unfold maxLen;omega
  obtain ⟨v',w',hrun,hown,hg,-⟩:=Lib.run_append_own_string (P:=c.P) w 0 t u ty E i (HU.h (P:=c.P) (t:=t)) (HU.h (P:=c.P) (t:=u)) hi1 hi2 hi3 hi4 _ n _ hrow (ByteArray.mk s.toArray) hmax (by rw [hsz];exact hroom) (Nat.zero_le _)
  have hwhere:=Z5Q (P:=c.P) w t u ty E i (HU.h (P:=c.P) (t:=t)) (HU.h (P:=c.P) (t:=u)) hi1 hi2 hi3 hi4 _ n _ hrow (ByteArray.mk s.toArray) hmax (by rw [hsz];exact hroom) hrun
  rw [Z6Y,←List.map_append,hsz] at hown
  obtain ⟨ad',cp',hv'⟩:∃ ad' cp',v'=.slice ad' (n+s.length) cp':=by
   rcases hown.2 with ⟨hv,h0⟩|⟨g,cap,cur,hv,_⟩
   ·exact ⟨none,0,by rw [hv,h0]⟩
   ·exact ⟨_,_,hv⟩
  subst hv'
  refine ⟨_,w',_,.inl (by simp [execOp,ha.ev hx,ha.ev hy,resolve,invoke,builtin,hrun]),(hw1.turn (r':=.row ad' cp' E 1 (n+s.length) ((xs++s).map bV)) hg.os hg.tape hg.output hg.size (fun j hj hjr=>hg.block j hj fun hjo=>hjr ?_) hown (fun q hq=>?_) (by cases ad'<;>simp [Res.foot])).perm (h2 _),ad',cp',rfl,rfl⟩
  ·cases ad with
   | none=>simp [Value.ownBlock] at hjo
   | some q=>simp only [Value.ownBlock,Option.some.injEq] at hjo;simp [Res.foot,hjo]
  ·cases ad' with
   | none=>simp [Res.foot] at hq
   | some p =>
    simp only [Res.foot,List.mem_singleton] at hq
    subst hq
    rcases hwhere with hwh|hwh
    ·left
     cases ad with
     | none=>simp [Value.ownBlock] at hwh
     | some q=>simp only [Value.ownBlock,Option.some.injEq] at hwh;simp [Res.foot,hwh]
    ·right
     simp only [Value.ownBlock,Option.some.injEq] at hwh
     omega) hlt rfl (fun v H' ⟨ad',cp',hv,hH⟩=>by subst hv hH;exact hk ad' cp')
theorem T.appendBs {d:Tmp} {x y:Operand} {ad sad:Option Addr} {n cp m scp t E:Nat} [HU c.P t (.slice E)] [HI c.P E (.int .u8 0) 1 1] {xs us:List UInt8} {f:Res→List Res} (hx:ev e x=some (.slice ad n cp)) (hy:ev e y=some (.slice sad m scp))
  (hr:AtR H ad cp E 1 n (xs.map bV) f) (hs:Rd c.F c.M H sad (us.map bV)) (hm:us.length=m) (hroom:n+m≤140737488355328) (hlt:Nat.blt d c.fn.ntmps=true)
  (hk:∀ ad' cp',Sr (.eff dr) c ds (f (.row ad' cp' E 1 (n+m) ((xs++us).map bV))) ops l κ ((d,.slice ad' (n+m) cp')::e)) :
  Sr (.eff dr) c ds H ops (⟨some d,.call ⟨.builtin .append,#[x,y],#[t,t]⟩,ty,pos,aft,none⟩::l) κ e:=T.appendAll (g:=bV) hx hy hr hs hm (fun _=>rfl) rfl (by omega) hlt hk
/- A text of bytes. -/
theorem Z4K:∀ (xs acc:List UInt8),((xs.map fun b=>(b.toNat:Int)).foldl (fun r n=>r.push (UInt8.ofNat n.toNat)) (ByteArray.mk acc.toArray))=ByteArray.mk (acc++xs).toArray
 | [],acc=>by simp
 | x::xs,acc=>by
  rw [List.map_cons,List.foldl_cons]
  have:(ByteArray.mk acc.toArray).push (UInt8.ofNat (x.toNat:Int).toNat)=ByteArray.mk (acc++[x]).toArray:=by
   apply ByteArray.ext
   simp [ByteArray.push]
  rw [this,Z4K xs (acc++[x]),List.append_assoc]
  rfl
theorem T.convS {x:Operand} {d:Tmp} {ad:Option Addr} {n cp:Nat} {xs:List UInt8} {t t' E:TypeId} [HU c.P t (.slice E)] [HU c.P E (.int .u8)] [HU c.P t' .string] (hx:ev e x=some (.slice ad n cp)) (hr:Rd c.F c.M H ad (xs.map bV)) (hn:xs.length=n) (hlt:Nat.blt d c.fn.ntmps=true)
  (hk:Sr q c ds H ops l κ ((d,sV xs)::e)):Sr q c ds H ops (⟨some d,.convert t t' x,ty,pos,aft,none⟩::l) κ e :=
 Sr.p (fun w a hw ha=>by
  have hcv:=run_convert_bytes_string (P:=c.P) w t t' E ad n cp (HU.h (P:=c.P) (t:=t)) (HU.h (P:=c.P) (t:=E)) (HU.h (P:=c.P) (t:=t'))
  have hb:(Conv.bytesToString (.slice ad n cp)).run c.P w=.ok (sV xs) w:=by
   cases ad with
   | none =>
    cases xs with
    | nil=>rfl
    | cons b xs =>
     obtain ⟨q,h,-⟩:=hr.h w hw 0 _ (by rfl)
     cases h
   | some q =>
    have hl:=run_loadCells_list (P:=c.P) (w:=w) q (xs.map bV) (fun j v hj=>by
     obtain ⟨q',h,h'⟩:=hr.h w hw j v hj
     simp only [Option.some.injEq] at h
     subst h
     exact h')
    rw [List.length_map,hn] at hl
    have hm:xs.map bV=(xs.map fun b=>(b.toNat:Int)).map (Value.int .u8):=by rw [List.map_map];rfl
    rw [hm] at hl
    rw [run_bytesToString w q n cp _ hl]
    have:=Z4K xs []
    rw [List.nil_append] at this
    exact congrArg (fun b=>Result.ok (Value.string b) w) this
  rw [hb] at hcv
  simp [execOp,ha.ev hx,hcv]) rfl hlt rfl hk
/- Pointers beside nil; truth values compared. -/
theorem Z4F {P:Program} {t E:TypeId} {a:Addr} [HU P t (.pointer E)] (w:World) (d:Nat):(Op.equalIn (d+1) t (.pointer (some a)) (.pointer none)).run P w=.ok false w:=by
 simp [Op.equalIn,Z7 (d:=.pointer E)]
theorem Z3F {P:Program} {t E:TypeId} [HU P t (.pointer E)] (w:World) (d:Nat):(Op.equalIn (d+1) t (.pointer none) (.pointer none)).run P w=.ok true w:=by
 simp [Op.equalIn,Z7 (d:=.pointer E)]
theorem T.eqlP {x:Operand} {d:Tmp} {t u E:TypeId} {a:Addr} [HU c.P t (.pointer E)] (hx:ev e x=some (.pointer (some a))) (hlt:Nat.blt d c.fn.ntmps=true) (hk:Sr q c ds H ops l κ ((d,.bool false)::e)):Sr q c ds H ops (⟨some d,.binOp .eql t x (.const (.pointer none)) u,ty,pos,aft,none⟩::l) κ e :=
 Sr.p (fun w ac _ ha=>by
  have h:=Z4F (P:=c.P) (t:=t) (E:=E) (a:=a) w 9999
  have h2:ac.eval (.const (.pointer none))=.pointer none:=rfl
  simp only [execOp,ha.ev hx,h2,eqGuard,binOp,Op.equal,Op.maxDepth]
  simp [h]) rfl hlt rfl hk
theorem T.eqlP0 {x:Operand} {d:Tmp} {t u E:TypeId} [HU c.P t (.pointer E)] (hx:ev e x=some (.pointer none)) (hlt:Nat.blt d c.fn.ntmps=true) (hk:Sr q c ds H ops l κ ((d,.bool true)::e)):Sr q c ds H ops (⟨some d,.binOp .eql t x (.const (.pointer none)) u,ty,pos,aft,none⟩::l) κ e :=
 Sr.p (fun w ac _ ha=>by
  have h:=Z3F (P:=c.P) (t:=t) (E:=E) w 9999
  have h2:ac.eval (.const (.pointer none))=.pointer none:=rfl
  simp only [execOp,ha.ev hx,h2,eqGuard,binOp,Op.equal,Op.maxDepth]
  simp [h]) rfl hlt rfl hk
theorem T.neqP {x:Operand} {d:Tmp} {t u E:TypeId} {a:Addr} [HU c.P t (.pointer E)] (hx:ev e x=some (.pointer (some a))) (hlt:Nat.blt d c.fn.ntmps=true) (hk:Sr q c ds H ops l κ ((d,.bool true)::e)):Sr q c ds H ops (⟨some d,.binOp .neq t x (.const (.pointer none)) u,ty,pos,aft,none⟩::l) κ e :=
 Sr.p (fun w ac _ ha=>by
  have h:=Z4F (P:=c.P) (t:=t) (E:=E) (a:=a) w 9999
  have h2:ac.eval (.const (.pointer none))=.pointer none:=rfl
  simp only [execOp,ha.ev hx,h2,eqGuard,binOp,Op.equal,Op.maxDepth]
  simp [h]) rfl hlt rfl hk
theorem T.neqP0 {x:Operand} {d:Tmp} {t u E:TypeId} [HU c.P t (.pointer E)] (hx:ev e x=some (.pointer none)) (hlt:Nat.blt d c.fn.ntmps=true) (hk:Sr q c ds H ops l κ ((d,.bool false)::e)):Sr q c ds H ops (⟨some d,.binOp .neq t x (.const (.pointer none)) u,ty,pos,aft,none⟩::l) κ e :=
 Sr.p (fun w ac _ ha=>by
  have h:=Z3F (P:=c.P) (t:=t) (E:=E) w 9999
  have h2:ac.eval (.const (.pointer none))=.pointer none:=rfl
  simp only [execOp,ha.ev hx,h2,eqGuard,binOp,Op.equal,Op.maxDepth]
  simp [h]) rfl hlt rfl hk
theorem T.eqlB {x y:Operand} {d:Tmp} {m n:Bool} {t u:TypeId} [HU c.P t .bool] (hx:ev e x=some (.bool m)) (hy:ev e y=some (.bool n)) (hlt:Nat.blt d c.fn.ntmps=true) (hk:Sr q c ds H ops l κ ((d,.bool (m==n))::e)):Sr q c ds H ops (⟨some d,.binOp .eql t x y u,ty,pos,aft,none⟩::l) κ e:=Sr.p (Pu.eqlB hx hy) rfl hlt rfl hk
theorem T.neqB {x y:Operand} {d:Tmp} {m n:Bool} {t u:TypeId} [HU c.P t .bool] (hx:ev e x=some (.bool m)) (hy:ev e y=some (.bool n)) (hlt:Nat.blt d c.fn.ntmps=true) (hk:Sr q c ds H ops l κ ((d,.bool (!(m==n)))::e)):Sr q c ds H ops (⟨some d,.binOp .neq t x y u,ty,pos,aft,none⟩::l) κ e:=Sr.p (Pu.neqB hx hy) rfl hlt rfl hk
end
/- Rising names. -/
end Sg
/- The sum of a text by words of 32 bits, in plain Lean: schedule, rounds, blocks, filling; and that both ways to spell a round are one. -/
namespace Sg
def wsr (x:UInt32) (n:Int):UInt32:=x >>> UInt32.ofNat n.toNat
def wsl (x:UInt32) (n:Int):UInt32:=x <<< UInt32.ofNat n.toNat
def rot (n:Int) (x:UInt32):UInt32:=wsr x n|||wsl x (32 - n)
def sm0 (x:UInt32):UInt32:=rot 7 x ^^^ rot 18 x ^^^ wsr x 3
def sm1 (x:UInt32):UInt32:=rot 17 x ^^^ rot 19 x ^^^ wsr x 10
def bs0 (x:UInt32):UInt32:=rot 2 x ^^^ rot 13 x ^^^ rot 22 x
def bs1 (x:UInt32):UInt32:=rot 6 x ^^^ rot 11 x ^^^ rot 25 x
def ch (e f g:UInt32):UInt32:=g ^^^ (e&&&(f ^^^ g))
def mj (a b c:UInt32):UInt32:=(a&&&b)|||(c&&&(a|||b))
theorem ZdN (e f g:UInt32):(e&&&f) ^^^ (~~~e&&&g)=ch e f g:=by
 unfold ch
 apply UInt32.eq_of_toBitVec_eq
 simp only [UInt32.toBitVec_xor,UInt32.toBitVec_and,UInt32.toBitVec_not]
 ext i hi
 simp only [BitVec.getElem_xor,BitVec.getElem_and,BitVec.getElem_not]
 cases e.toBitVec[i]<;>cases f.toBitVec[i]<;>cases g.toBitVec[i]<;>rfl
theorem ZdM (a b c:UInt32):(a&&&b) ^^^ (a&&&c) ^^^ (b&&&c)=mj a b c:=by
 unfold mj
 apply UInt32.eq_of_toBitVec_eq
 simp only [UInt32.toBitVec_xor,UInt32.toBitVec_and,UInt32.toBitVec_or]
 ext i hi
 simp only [BitVec.getElem_xor,BitVec.getElem_and,BitVec.getElem_or]
 cases a.toBitVec[i]<;>cases b.toBitVec[i]<;>cases c.toBitVec[i]<;>rfl
def Zc1 (a b c d:UInt8):UInt32:=wsl a.toUInt32 24|||wsl b.toUInt32 16|||wsl c.toUInt32 8|||d.toUInt32
def Z0T (l:List UInt8):Nat→List UInt32
 | 0=>[]
 | n+1=>Z0T l n++[Zc1 (l.getD (4*n) 0) (l.getD (4*n+1) 0) (l.getD (4*n+2) 0) (l.getD (4*n+3) 0)]
theorem Zy (l:List UInt8):∀ n,(Z0T l n).length=n
 | 0=>rfl
 | n+1=>by simp [Z0T,Zy l n]
def sched (m:List UInt32):Nat→List UInt32
 | 0=>m
 | k+1=>sched m k++[(sched m k).getD k 0+(sched m k).getD (k+9) 0+sm0 ((sched m k).getD (k+1) 0)+sm1 ((sched m k).getD (k+14) 0)]
theorem ZI (m:List UInt32):∀ k,(sched m k).length=m.length+k
 | 0=>rfl
 | k+1=>by simp [sched,ZI m k];omega
structure V8 where
 a:UInt32
 b:UInt32
 c:UInt32
 d:UInt32
 e:UInt32
 f:UInt32
 g:UInt32
 h:UInt32
def V8.list (v:V8):List UInt32:=[v.a,v.b,v.c,v.d,v.e,v.f,v.g,v.h]
def V8.t (v:V8) (k w:UInt32):UInt32:=v.h+bs1 v.e+ch v.e v.f v.g+k+w
def V8.u (v:V8):UInt32:=bs0 v.a+mj v.a v.b v.c
def V8.step (v:V8) (k w:UInt32):V8:=⟨v.t k w+v.u,v.a,v.b,v.c,v.d+v.t k w,v.e,v.f,v.g⟩
def k256:List UInt32:=[
 0x428a2f98,0x71374491,0xb5c0fbcf,0xe9b5dba5,0x3956c25b,0x59f111f1,0x923f82a4,0xab1c5ed5,
 0xd807aa98,0x12835b01,0x243185be,0x550c7dc3,0x72be5d74,0x80deb1fe,0x9bdc06a7,0xc19bf174,
 0xe49b69c1,0xefbe4786,0x0fc19dc6,0x240ca1cc,0x2de92c6f,0x4a7484aa,0x5cb0a9dc,0x76f988da,
 0x983e5152,0xa831c66d,0xb00327c8,0xbf597fc7,0xc6e00bf3,0xd5a79147,0x06ca6351,0x14292967,
 0x27b70a85,0x2e1b2138,0x4d2c6dfc,0x53380d13,0x650a7354,0x766a0abb,0x81c2c92e,0x92722c85,
 0xa2bfe8a1,0xa81a664b,0xc24b8b70,0xc76c51a3,0xd192e819,0xd6990624,0xf40e3585,0x106aa070,
 0x19a4c116,0x1e376c08,0x2748774c,0x34b0bcb5,0x391c0cb3,0x4ed8aa4a,0x5b9cca4f,0x682e6ff3,
 0x748f82ee,0x78a5636f,0x84c87814,0x8cc70208,0x90befffa,0xa4506ceb,0xbef9a3f7,0xc67178f2]
def start256:V8:=⟨0x6a09e667,0xbb67ae85,0x3c6ef372,0xa54ff53a,0x510e527f,0x9b05688c,0x1f83d9ab,0x5be0cd19⟩
def rounds (W:List UInt32) (v:V8):Nat→V8
 | 0=>v
 | n+1=>(rounds W v n).step (k256.getD n 0) (W.getD n 0)
def V8.add (v u:V8):V8:=⟨v.a+u.a,v.b+u.b,v.c+u.c,v.d+u.d,v.e+u.e,v.f+u.f,v.g+u.g,v.h+u.h⟩
def V8.block (v:V8) (l:List UInt8):V8:=v.add (rounds (sched (Z0T l 16) 48) v 64)
def absorb (l:List UInt8):Nat→V8
 | 0=>start256
 | n+1=>(absorb l n).block ((l.drop (64*n)).take 64)
theorem Z1w (l r:List UInt8):∀ n,64*n≤l.length→absorb (l++r) n=absorb l n
 | 0,_=>rfl
 | n+1,h=>by
  rw [absorb,absorb,Z1w l r n (by omega),List.drop_append_of_le_length (by omega),List.take_append_of_le_length (by rw [List.length_drop];omega)]
def bits8 (n:Nat):List UInt8:=[7,6,5,4,3,2,1,0].map fun i=>UInt8.ofNat (n*8 / 2 ^ (8*i))
def zeros (n:Nat):Nat:=(119 - n % 64) % 64
def padded (l:List UInt8):List UInt8:=l++([128]++List.replicate (zeros l.length) 0++bits8 l.length)
theorem Z1T (n:Nat):(n+1+zeros n) % 64=56∧zeros n < 64:=by unfold zeros;omega
theorem Z3r (n z:Nat) (hz:z < zeros n):(n+1+z) % 64≠56:=by unfold zeros at hz;omega
theorem Z4P (l:List UInt8):(padded l).length=l.length+9+zeros l.length:=by simp [padded,bits8];omega
theorem Z8W (l:List UInt8):(padded l).length % 64=0:=by
 have:=Z1T l.length
 rw [Z4P]
 omega
def bytes4 (x:UInt32):List UInt8:=[(wsr x 24).toUInt8,(wsr x 16).toUInt8,(wsr x 8).toUInt8,x.toUInt8]
def sha256 (l:List UInt8):List UInt8:=(absorb (padded l) ((padded l).length / 64)).list.flatMap bytes4
theorem Z17 (l:List UInt8):(sha256 l).length=32:=by simp [sha256,V8.list,bytes4]
theorem low8 (x:UInt32):(x&&&255).toUInt8=x.toUInt8:=by
 apply UInt8.eq_of_toBitVec_eq
 ext i hi
 simp only [UInt32.toBitVec_toUInt8,UInt32.toBitVec_and,BitVec.getElem_setWidth,BitVec.getLsbD_and]
 have h:(255:UInt32).toBitVec.getLsbD i=true:=by
  show (255#32).getLsbD i=true
  have:i=0∨i=1∨i=2∨i=3∨i=4∨i=5∨i=6∨i=7:=by omega
  rcases this with rfl|rfl|rfl|rfl|rfl|rfl|rfl|rfl<;>rfl
 rw [h,Bool.and_true]
end Sg
/- Words of 32 bits as values: their operations, rows of them, whole arrays, an index into an array's value, copies into an array. -/
namespace Sg
open Go Go.RowKit
def wV (x:UInt32):Value:=.int .u32 ((x.toNat:Nat):Int)
theorem Zcr (x:UInt32) {n:Nat} (h:n < 32):(wsr x (n:Int)).toNat=x.toNat / 2 ^ n:=by
 unfold wsr
 rw [UInt32.toNat_shiftRight,Int.toNat_natCast,UInt32.toNat_ofNat',Nat.mod_eq_of_lt (show n < 2 ^ 32 by omega),Nat.mod_eq_of_lt h,Nat.shiftRight_eq_div_pow]
theorem Zcs (x:UInt32) {n:Nat} (h:n < 32):(wsl x (n:Int)).toNat=x.toNat*2 ^ n % 4294967296:=by
 unfold wsl
 rw [UInt32.toNat_shiftLeft,Int.toNat_natCast,UInt32.toNat_ofNat',Nat.mod_eq_of_lt (show n < 2 ^ 32 by omega),Nat.mod_eq_of_lt h,Nat.shiftLeft_eq]
theorem Z9s (x:UInt32) {k:Nat} (h:k < 32):(x.toNat:Int)*2 ^ k % 4294967296=((wsl x ((k:Nat):Int)).toNat:Int):=by
 rw [Zcs x h,Int.natCast_emod,Int.natCast_mul,Int.natCast_pow]
 rfl
theorem Z9r (x:UInt32) {n:Nat} (h:n < 32):(x.toNat:Int) / 2 ^ n=((wsr x (n:Int)).toNat:Int):=by
 rw [Zcr x h,Int.natCast_ediv,Int.natCast_pow]
 rfl
theorem ZaR (x y:UInt32):bits .or .u32 (x.toNat:Int) (y.toNat:Int)=((x|||y).toNat:Int):=by
 have:=Zcb (UInt32.toNat_lt x) (UInt32.toNat_lt y)
 rw [UInt32.toNat_or]
 exact this
theorem Z81 (x:UInt32) {n k:Nat} (h:n+k=32) (h0:0 < n) (hk:0 < k):bits .or .u32 ((x.toNat:Int) / 2 ^ n) ((x.toNat:Int)*2 ^ k % 4294967296)=((rot n x).toNat:Int):=by
 rw [Z9r x (by omega),Z9s x (by omega),ZaR,rot,show (32 - (n:Int))=(k:Int) by omega]
theorem Za8 (a b:Int):bits .or .u32 a b=bits .or .u32 b a:=by
 unfold bits
 simp only [BitVec.or_comm]
theorem ZdJ {xs:List UInt32}:(xs.map wV).all (·.oneCell')=true:=by simp [wV,Value.oneCell']
theorem getW {xs:List UInt32} {j:Nat} (h:j < xs.length):(xs.map wV)[j]?=some (wV (xs.getD j 0)):=by
 simp [List.getD,h]
section
variable {q:Mode} {c:Ctx} {ds:List Deferred} {H:List Res} {ops:Array Oper} {l:List Oper} {κ:List Res→Env→Prop} {dr:Bool} {e:Env} {ty:TypeId} {pos:String} {aft:Array Edge}
theorem T.wadd {x y:Operand} {d:Tmp} {t u:TypeId} {a b:UInt32} (hx:ev e x=some (wV a)) (hy:ev e y=some (wV b)) (hlt:Nat.blt d c.fn.ntmps=true) (hk:Sr q c ds H ops l κ ((d,wV (a+b))::e)) :
  Sr q c ds H ops (⟨some d,.binOp .add t x y u,ty,pos,aft,none⟩::l) κ e:=Sr.p (Pu.add hx hy (by rw [Z5e,UInt32.toNat_add];omega)) rfl hlt rfl hk
theorem T.wxor {x y:Operand} {d:Tmp} {t u:TypeId} {a b:UInt32} (hx:ev e x=some (wV a)) (hy:ev e y=some (wV b)) (hlt:Nat.blt d c.fn.ntmps=true) (hk:Sr q c ds H ops l κ ((d,wV (a ^^^ b))::e)) :
  Sr q c ds H ops (⟨some d,.binOp .xor t x y u,ty,pos,aft,none⟩::l) κ e:=Sr.p (Pu.xor hx hy (by rw [UInt32.toNat_xor];exact Zcq (UInt32.toNat_lt a) (UInt32.toNat_lt b))) rfl hlt rfl hk
theorem T.wand {x y:Operand} {d:Tmp} {t u:TypeId} {a b:UInt32} (hx:ev e x=some (wV a)) (hy:ev e y=some (wV b)) (hlt:Nat.blt d c.fn.ntmps=true) (hk:Sr q c ds H ops l κ ((d,wV (a&&&b))::e)) :
  Sr q c ds H ops (⟨some d,.binOp .and t x y u,ty,pos,aft,none⟩::l) κ e:=Sr.p (Pu.and hx hy (by rw [UInt32.toNat_and];exact Zdh (UInt32.toNat_lt a) (UInt32.toNat_lt b))) rfl hlt rfl hk
theorem T.wor {x y:Operand} {d:Tmp} {t u:TypeId} {a b:UInt32} (hx:ev e x=some (wV a)) (hy:ev e y=some (wV b)) (hlt:Nat.blt d c.fn.ntmps=true) (hk:Sr q c ds H ops l κ ((d,wV (a|||b))::e)) :
  Sr q c ds H ops (⟨some d,.binOp .or t x y u,ty,pos,aft,none⟩::l) κ e:=Sr.p (Pu.or hx hy (by rw [UInt32.toNat_or];exact Zcb (UInt32.toNat_lt a) (UInt32.toNat_lt b))) rfl hlt rfl hk
theorem T.wnot {x:Operand} {d:Tmp} {t:TypeId} {a:UInt32} (hx:ev e x=some (wV a)) (hlt:Nat.blt d c.fn.ntmps=true) (hk:Sr q c ds H ops l κ ((d,wV (~~~a))::e)) :
  Sr q c ds H ops (⟨some d,.unOp .xor t x,ty,pos,aft,none⟩::l) κ e:=Sr.p (Pu.notX hx (by
 have h1:(BitVec.ofInt 32 4294967295 ^^^ BitVec.ofInt 32 (a.toNat:Int)).toNat=(~~~a).toNat:=by
  rw [show BitVec.ofInt 32 4294967295=BitVec.allOnes 32 from rfl,BitVec.allOnes_xor,show BitVec.ofInt 32 (a.toNat:Int)=a.toBitVec from by
   apply BitVec.eq_of_toNat_eq
   rw [Ze (UInt32.toNat_lt a)]
   rfl]
  rfl
 show IntKind.u32.wrap ((BitVec.ofInt 32 4294967295 ^^^ BitVec.ofInt 32 (a.toNat:Int)).toNat:Int)=_
 rw [h1]
 have:=UInt32.toNat_lt (~~~a)
 exact IntWalk.u32_in _ (by omega))) rfl hlt rfl hk
theorem T.wshl {x y:Operand} {d:Tmp} {t u:TypeId} {a:UInt32} {kd':IntKind} {n:Int} (hx:ev e x=some (wV a)) (hy:ev e y=some (.int kd' n)) (hn:0≤n∧n < 32) (hlt:Nat.blt d c.fn.ntmps=true) (hk:Sr q c ds H ops l κ ((d,wV (wsl a n))::e)) :
  Sr q c ds H ops (⟨some d,.binOp .shl t x y u,ty,pos,aft,none⟩::l) κ e:=Sr.p (Pu.shl hx hy hn.1 (by
 obtain ⟨m,rfl⟩:∃ m:Nat,n=(m:Int):=⟨n.toNat,by omega⟩
 have h1:Min.min (m:Int).toNat IntKind.u32.bits=m:=by show Min.min (m:Int).toNat 32=m;omega
 rw [Z5e,h1,Z9s a (by omega)])) rfl hlt rfl hk
theorem T.wshr {x y:Operand} {d:Tmp} {t u:TypeId} {a:UInt32} {kd':IntKind} {n:Int} (hx:ev e x=some (wV a)) (hy:ev e y=some (.int kd' n)) (hn:0≤n∧n < 32) (hlt:Nat.blt d c.fn.ntmps=true) (hk:Sr q c ds H ops l κ ((d,wV (wsr a n))::e)) :
  Sr q c ds H ops (⟨some d,.binOp .shr t x y u,ty,pos,aft,none⟩::l) κ e:=Sr.p (Pu.shr hx hy hn.1 (by
 obtain ⟨m,rfl⟩:∃ m:Nat,n=(m:Int):=⟨n.toNat,by omega⟩
 have h1:Min.min (m:Int).toNat IntKind.u32.bits=m:=by show Min.min (m:Int).toNat 32=m;omega
 rw [h1,Int.fdiv_eq_ediv_of_nonneg _ (by have:=Int.pow_pos (n:=(2:Int)) (m:=m) (by decide);omega),Z9r a (by omega)])) rfl hlt rfl hk
theorem T.wconvB {x:Operand} {d:Tmp} {s t:TypeId} {b:UInt8} {dd:TypeDesc} [HU c.P s dd] [HU c.P t (.int .u32)] (hx:ev e x=some (.int .u8 (b.toNat:Int))) (hlt:Nat.blt d c.fn.ntmps=true) (hk:Sr q c ds H ops l κ ((d,wV b.toUInt32)::e)) :
  Sr q c ds H ops (⟨some d,.convert s t x,ty,pos,aft,none⟩::l) κ e:=Sr.p (Pu.conv (d:=dd) hx (by
 have:=UInt8.toNat_lt b
 rw [Z5e,UInt8.toNat_toUInt32];omega)) rfl hlt rfl hk
theorem T.wbyte {x:Operand} {d:Tmp} {s t:TypeId} {a:UInt32} {dd:TypeDesc} [HU c.P s dd] [HU c.P t (.int .u8)] (hx:ev e x=some (wV a)) (hlt:Nat.blt d c.fn.ntmps=true) (hk:Sr q c ds H ops l κ ((d,.int .u8 (a.toUInt8.toNat:Int))::e)) :
  Sr q c ds H ops (⟨some d,.convert s t x,ty,pos,aft,none⟩::l) κ e:=Sr.p (Pu.conv (d:=dd) hx (by rw [Z5d,UInt32.toNat_toUInt8];omega)) rfl hlt rfl hk
theorem T.wand255 {x:Operand} {d:Tmp} {t u:TypeId} {a:UInt32} (hx:ev e x=some (wV a)) (hlt:Nat.blt d c.fn.ntmps=true) (hk:Sr q c ds H ops l κ ((d,wV (a&&&255))::e)) :
  Sr q c ds H ops (⟨some d,.binOp .and t x (.const (.int .u32 255)) u,ty,pos,aft,none⟩::l) κ e:=T.wand (b:=255) hx rfl hlt hk
theorem T.subKN {x y:Operand} {d:Tmp} {t u:TypeId} {m:Nat} (n:Nat) (hx:ev e x=some (.int .i64 (m:Int))) (hy:ev e y=some (.int .i64 (n:Int))) (h:n≤m∧m < 9223372036854775808) (hlt:Nat.blt d c.fn.ntmps=true) (hk:Sr q c ds H ops l κ ((d,.int .i64 ((m - n:Nat):Int))::e)) :
  Sr q c ds H ops (⟨some d,.binOp .sub t x y u,ty,pos,aft,none⟩::l) κ e:=Sr.p (Pu.sub hx hy (by rw [show (m:Int) - n=((m - n:Nat):Int) by omega];exact IntWalk.i64_in _ (by omega))) rfl hlt rfl hk
theorem T.mulKN {x y:Operand} {d:Tmp} {t u:TypeId} {m:Nat} (n:Nat) (hx:ev e x=some (.int .i64 (n:Int))) (hy:ev e y=some (.int .i64 (m:Int))) (h:n*m < 9223372036854775808) (hlt:Nat.blt d c.fn.ntmps=true) (hk:Sr q c ds H ops l κ ((d,.int .i64 ((n*m:Nat):Int))::e)) :
  Sr q c ds H ops (⟨some d,.binOp .mul t x y u,ty,pos,aft,none⟩::l) κ e:=Sr.p (Pu.mul hx hy (by rw [show (n:Int)*m=((n*m:Nat):Int) by push_cast;rfl];exact IntWalk.i64_in _ (by omega))) rfl hlt rfl hk
theorem T.addKN {x y:Operand} {d:Tmp} {t u:TypeId} {m:Nat} (n:Nat) (hx:ev e x=some (.int .i64 (m:Int))) (hy:ev e y=some (.int .i64 (n:Int))) (h:m+n < 9223372036854775808) (hlt:Nat.blt d c.fn.ntmps=true) (hk:Sr q c ds H ops l κ ((d,.int .i64 ((m+n:Nat):Int))::e)) :
  Sr q c ds H ops (⟨some d,.binOp .add t x y u,ty,pos,aft,none⟩::l) κ e:=Sr.p (Pu.add hx hy (by rw [show (m:Int)+n=((m+n:Nat):Int) by push_cast;rfl];exact IntWalk.i64_in _ (by omega))) rfl hlt rfl hk
theorem T.sliceAN {x lo:Operand} {d:Tmp} {b off n:Nat} {kd:IntKind} {i:Nat} {t E:TypeId} {z:Value} {by_:Nat} [HU c.P t (.array n E)] [HI c.P E z 1 by_] (hx:ev e x=some (.pointer (some ⟨b,off,none⟩))) (hl:ev e lo=some (.int kd (i:Int)))
  (h0:i < n) (hlt:Nat.blt d c.fn.ntmps=true) (hk:Sr q c ds H ops l κ ((d,.slice (some ⟨b,off+i,none⟩) (n - i) (n - i))::e)):Sr q c ds H ops (⟨some d,.slice t x (some lo) none none,ty,pos,aft,none⟩::l) κ e :=
 T.sliceA (n:=n) (E:=E) (z:=z) (sz:=1) (by_:=by_) hx hl (by omega) hlt (by simpa using hk)
theorem T.pcall {d:Tmp} {args:List Operand} {ats:Array TypeId} {g:FuncId} {vs:List Value} {v:Value} (hargs:evs e args=some vs) (hhf:HF c.P g) (hlt:Nat.blt d c.fn.ntmps=true) (hsp:PCall c.P g vs v) (hk:Sr (.eff dr) c ds H ops l κ ((d,v)::e)) :
  Sr (.eff dr) c ds H ops (⟨some d,.call ⟨.value (.func g),args.toArray,ats⟩,ty,pos,aft,none⟩::l) κ e:=Sr.call hargs hlt hsp.of (fun en H' h=>by obtain ⟨rfl,rfl⟩:=h;exact hk)
theorem T.addNN {x y:Operand} {d:Tmp} {t u:TypeId} {m n:Nat} (hx:ev e x=some (.int .i64 (m:Int))) (hy:ev e y=some (.int .i64 (n:Int))) (h:m+n < 9223372036854775808) (hlt:Nat.blt d c.fn.ntmps=true) (hk:Sr q c ds H ops l κ ((d,.int .i64 ((m+n:Nat):Int))::e)) :
  Sr q c ds H ops (⟨some d,.binOp .add t x y u,ty,pos,aft,none⟩::l) κ e:=T.addKN n hx hy h hlt hk
theorem T.convBU64 {x:Operand} {d:Tmp} {s t:TypeId} {m:Nat} {dd:TypeDesc} [HU c.P s dd] [HU c.P t (.int .u8)] (hx:ev e x=some (.int .u64 (m:Int))) (hlt:Nat.blt d c.fn.ntmps=true) (hk:Sr q c ds H ops l κ ((d,.int .u8 ((UInt8.ofNat m).toNat:Int))::e)) :
  Sr q c ds H ops (⟨some d,.convert s t x,ty,pos,aft,none⟩::l) κ e:=Sr.p (Pu.conv (d:=dd) hx (by rw [Z5d,UInt8.toNat_ofNat'];omega)) rfl hlt rfl hk
theorem T.append4 {d:Tmp} {x y:Operand} {ad:Option Addr} {n cp b t E Eb:Nat} {m₀ m₁ m₂ m₃:UInt8} [HU c.P t (.slice E)] {z:Value} {by_:Nat} [HI c.P E z 1 by_] {xs:List UInt8} {f:Res→List Res} (hx:ev e x=some (.slice ad n cp)) (hy:ev e y=some (.slice (some ⟨b,0,none⟩) 4 4))
  (hr:AtR H ad cp E 1 n (xs.map bV) f) (hzs:z.cells.size=1) (hroom:(n+4)*by_≤140737488355328∧n+4≤140737488355328) (hlt:Nat.blt d c.fn.ntmps=true)
  (hk:∀ ad' cp',Sr (.eff dr) c ds (f (.row ad' cp' E 1 (n+4) ((xs++[m₀,m₁,m₂,m₃]).map bV))) ops l κ ((d,.slice ad' (n+4) cp')::e)) :
  Sr (.eff dr) c ds (.blk b [.int .u8 (m₀.toNat:Int),.int .u8 (m₁.toNat:Int),.int .u8 (m₂.toNat:Int),.int .u8 (m₃.toNat:Int)] Eb::H) ops (⟨some d,.call ⟨.builtin .append,#[x,y],#[t,t]⟩,ty,pos,aft,none⟩::l) κ e:=Sr.append (z:=z) (by_:=by_) hx hy rfl rfl hzs (by omega) hroom hlt (fun ad' cp'=>by
  have:=hk ad' cp'
  rw [List.map_append] at this
  exact this)
theorem T.append3 {d:Tmp} {x y:Operand} {ad:Option Addr} {n cp b t E Eb:Nat} {m₀ m₁ m₂:UInt8} [HU c.P t (.slice E)] {z:Value} {by_:Nat} [HI c.P E z 1 by_] {xs:List UInt8} {f:Res→List Res} (hx:ev e x=some (.slice ad n cp)) (hy:ev e y=some (.slice (some ⟨b,0,none⟩) 3 3))
  (hr:AtR H ad cp E 1 n (xs.map bV) f) (hzs:z.cells.size=1) (hroom:(n+3)*by_≤140737488355328∧n+3≤140737488355328) (hlt:Nat.blt d c.fn.ntmps=true)
  (hk:∀ ad' cp',Sr (.eff dr) c ds (f (.row ad' cp' E 1 (n+3) ((xs++[m₀,m₁,m₂]).map bV))) ops l κ ((d,.slice ad' (n+3) cp')::e)) :
  Sr (.eff dr) c ds (.blk b [.int .u8 (m₀.toNat:Int),.int .u8 (m₁.toNat:Int),.int .u8 (m₂.toNat:Int)] Eb::H) ops (⟨some d,.call ⟨.builtin .append,#[x,y],#[t,t]⟩,ty,pos,aft,none⟩::l) κ e:=Sr.append (z:=z) (by_:=by_) hx hy rfl rfl hzs (by omega) hroom hlt (fun ad' cp'=>by
  have:=hk ad' cp'
  rw [List.map_append] at this
  exact this)
theorem T.append2 {d:Tmp} {x y:Operand} {ad:Option Addr} {n cp b t E Eb:Nat} {m₀ m₁:UInt8} [HU c.P t (.slice E)] {z:Value} {by_:Nat} [HI c.P E z 1 by_] {xs:List UInt8} {f:Res→List Res} (hx:ev e x=some (.slice ad n cp)) (hy:ev e y=some (.slice (some ⟨b,0,none⟩) 2 2))
  (hr:AtR H ad cp E 1 n (xs.map bV) f) (hzs:z.cells.size=1) (hroom:(n+2)*by_≤140737488355328∧n+2≤140737488355328) (hlt:Nat.blt d c.fn.ntmps=true)
  (hk:∀ ad' cp',Sr (.eff dr) c ds (f (.row ad' cp' E 1 (n+2) ((xs++[m₀,m₁]).map bV))) ops l κ ((d,.slice ad' (n+2) cp')::e)) :
  Sr (.eff dr) c ds (.blk b [.int .u8 (m₀.toNat:Int),.int .u8 (m₁.toNat:Int)] Eb::H) ops (⟨some d,.call ⟨.builtin .append,#[x,y],#[t,t]⟩,ty,pos,aft,none⟩::l) κ e:=Sr.append (z:=z) (by_:=by_) hx hy rfl rfl hzs (by omega) hroom hlt (fun ad' cp'=>by
  have:=hk ad' cp'
  rw [List.map_append] at this
  exact this)
theorem T.mulNK {x y:Operand} {d:Tmp} {t u:TypeId} {m:Nat} (n:Nat) (hx:ev e x=some (.int .i64 (m:Int))) (hy:ev e y=some (.int .i64 (n:Int))) (h:m*n < 9223372036854775808) (hlt:Nat.blt d c.fn.ntmps=true) (hk:Sr q c ds H ops l κ ((d,.int .i64 ((m*n:Nat):Int))::e)) :
  Sr q c ds H ops (⟨some d,.binOp .mul t x y u,ty,pos,aft,none⟩::l) κ e:=Sr.p (Pu.mul hx hy (by rw [show (m:Int)*n=((m*n:Nat):Int) by push_cast;rfl];exact IntWalk.i64_in _ (by omega))) rfl hlt rfl hk
theorem T.makeB0 {d:Tmp} {x y:Operand} {kd kd':IntKind} {n:Nat} {t E:TypeId} [HU c.P t (.slice E)] [HI c.P E (.int .u8 0) 1 1] (hx:ev e x=some (.int kd 0)) (hy:ev e y=some (.int kd' (n:Int))) (hn:n≤281474976710656) (hd:Nat.blt d c.fn.ntmps=true)
  (hk:∀ b,Sr (.eff dr) c ds (.row (some ⟨b,0,none⟩) n E 1 0 (([]:List UInt8).map bV)::H) ops l κ ((d,.slice (some ⟨b,0,none⟩) 0 n)::e)):Sr (.eff dr) c ds H ops (⟨some d,.makeSlice t x y,ty,pos,aft,none⟩::l) κ e :=
 Sr.eff (K:=fun v H'=>∃ b,v=.slice (some ⟨b,0,none⟩) 0 n∧H'=.row (some ⟨b,0,none⟩) n E 1 0 (([]:List UInt8).map bV)::H) (fun w a hw ha=>by
  obtain ⟨i,hi1,hi2,hi3,hi4⟩:=HI.h (P:=c.P) (t:=E) (z:=.int .u8 0) (sz:=1) (by_:=1)
  have hr:=run_make (P:=c.P) w t E i (.int .u8 0) (HU.h (P:=c.P) (t:=t)) hi1 hi2 kd kd' 0 n (Int.le_refl _) (by omega) (by rw [hi4];omega) (by omega)
  simp only [Int.toNat_natCast,hi3,Nat.mul_one,Int.toNat_zero] at hr
  have hms:(madeCells (Value.int IntKind.u8 0).cells n).size=n:=by simp [madeCells]
  generalize madeCells (Value.int IntKind.u8 0).cells n=cs at hr hms
  refine ⟨.slice (some ⟨w.heap.size,0,none⟩) 0 n,w.alloc (.cells cs E),_,.inl (by simp only [execOp,ha.ev hx,ha.ev hy,Sem.run_bind,hr,Result.andThen_ok,Sem.run_pure]),hw.fresh (r':=.row (some ⟨w.heap.size,0,none⟩) n E 1 0 (([]:List UInt8).map bV)) rfl rfl rfl (by simp) (fun j hj=>Below.heap_alloc _ _ _ hj) ?_ (fun b hb=>by simp only [Res.foot,List.mem_singleton] at hb;omega) (by simp [Res.foot]),_,rfl,rfl⟩
  refine ⟨rfl,.inr ⟨w.heap.size,n,cs,rfl,Nat.zero_le _,heap_alloc_new w _,Nat.zero_le _,by unfold maxLen;omega,by rw [hms,Nat.mul_one],by simp⟩⟩) hd rfl
  (fun v H' ⟨b,hv,hH⟩=>by subst hv hH;exact hk b)
theorem S.nilrowB {k:List Item} (E:TypeId) (h:S c ds (.row none 0 E 1 0 (([]:List UInt8).map bV)::H) k e):S c ds H k e:=S.nilrow E 1 h
theorem T.loadGW {x:Operand} {d b i:Nat} {t:TypeId} [HU c.P t (.int .u32)] {xs:List UInt32} (hx:ev e x=some (.pointer (some ⟨b,i,none⟩))) (hr:Rd c.F c.M H (some ⟨b,0,none⟩) (xs.map wV)) (hi:i < xs.length) (hlt:Nat.blt d c.fn.ntmps=true)
  (hk:Sr q c ds H ops l κ ((d,wV (xs.getD i 0))::e)):Sr q c ds H ops (⟨some d,.load t x,ty,pos,aft,none⟩::l) κ e :=
 Sr.p (Pu.loadE (ad:=some ⟨b,0,none⟩) (j:=i) (d:=.int .u32) (by rw [hx];simp [eaddr,Zm]) rfl (getW hi)) rfl hlt rfl hk
theorem T.loadGA {x:Operand} {d b:Nat} {t:TypeId} {dd:TypeDesc} [HU c.P t dd] {z:Value} {n by_:Nat} [HI c.P t z n by_] {vs:List Value} (hx:ev e x=some (.pointer (some ⟨b,0,none⟩))) (hd:plain dd=false) (hr:Rd c.F c.M H (some ⟨b,0,none⟩) vs) (hn:vs.length=n) (h0:0 < n) (hlt:Nat.blt d c.fn.ntmps=true)
  (hk:Sr q c ds H ops l κ ((d,.agg ⟨vs⟩)::e)):Sr q c ds H ops (⟨some d,.load t x,ty,pos,aft,none⟩::l) κ e:=by
 have:=Pu.loadEN (c:=c) (H:=H) (e:=e) (x:=x) (dst:=some d) (ty:=ty) (pos:=pos) (aft:=aft) (g:=none) (t:=t) (dd:=dd) (z:=z) (by_:=by_) (n:=n) (vs:=vs) (ad:=some ⟨b,0,none⟩) (j:=0) hd (by rw [hx];simp [eaddr,Zm]) hr h0 (by omega)
 rw [List.drop_zero,List.take_of_length_le (by omega)] at this
 exact Sr.p this rfl hlt rfl hk
theorem T.storeWK {x y:Operand} {b i:Nat} {a:UInt32} {t:TypeId} {z:Value} {by_:Nat} [HI c.P t z 1 by_] {vs:List Value} {xs:List UInt32} {E:TypeId} {f:Res→List Res} (hx:ev e x=some (.pointer (some ⟨b,i,none⟩))) (hy:ev e y=some (wV a))
  (hb:AtB H b vs E f) (hvs:vs=xs.map wV) (hi:i < xs.length) (hk:Sr (.eff dr) c ds (f (.blk b ((xs.set i a).map wV) E)) ops l κ e):Sr (.eff dr) c ds H ops (⟨none,.store t x y,ty,pos,aft,none⟩::l) κ e:=by
 subst hvs
 refine Sr.store (z:=z) (by_:=by_) hx hy (by simpa using hi) rfl ?_
 rw [←List.map_set]
 exact hk
theorem T.widx {x y:Operand} {d:Tmp} {t E:TypeId} {n i:Nat} {kd:IntKind} {z:Value} {by_:Nat} [HU c.P t (.array n E)] [HU c.P E (.int .u32)] [HI c.P E z 1 by_] {xs:List UInt32} (hx:ev e x=some (.agg ⟨xs.map wV⟩)) (hy:ev e y=some (.int kd (i:Int))) (hi:i < n∧i < xs.length) (hlt:Nat.blt d c.fn.ntmps=true)
  (hk:Sr q c ds H ops l κ ((d,wV (xs.getD i 0))::e)):Sr q c ds H ops (⟨some d,.index t x y,ty,pos,aft,none⟩::l) κ e :=
 Sr.p (fun w a _ ha=>by
  have h1:=getW hi.2
  generalize xs.getD i 0=r at *
  simp only [List.getElem?_map] at h1
  simp [execOp,ha.ev hx,ha.ev hy,Instr.index,asIntOf,Z7 (d:=.array n E),ZL (z:=z) (sz:=1) (b:=by_),part,Z2z (d:=.int .u32),plain,hi.1,h1]) rfl hlt rfl hk
theorem T.sliceALH {x lo hi:Operand} {d:Tmp} {b off n:Nat} {kd kd':IntKind} {i j:Nat} {t E:TypeId} {z:Value} {by_:Nat} [HU c.P t (.array n E)] [HI c.P E z 1 by_] (hx:ev e x=some (.pointer (some ⟨b,off,none⟩))) (hl:ev e lo=some (.int kd (i:Int))) (hh:ev e hi=some (.int kd' (j:Int)))
  (h0:i≤j∧j≤n∧i < n) (hlt:Nat.blt d c.fn.ntmps=true) (hk:Sr q c ds H ops l κ ((d,.slice (some ⟨b,off+i,none⟩) (j - i) (n - i))::e)):Sr q c ds H ops (⟨some d,.slice t x (some lo) (some hi) none,ty,pos,aft,none⟩::l) κ e :=
 Sr.p (fun w a _ ha=>by
  have h1:0≤(j:Int)∧(j:Int)≤(n:Int):=by omega
  have h2:0≤(i:Int)∧(i:Int)≤(j:Int):=by omega
  have h3:¬n=i:=by omega
  simp [execOp,ha.ev hx,ha.ev hl,ha.ev hh,Instr.sliceAt,Instr.sureAddr,Instr.sliceBounds,Z7 (d:=.array n E),ZL (z:=z) (sz:=1) (b:=by_),ZE h1,ZE h2,h3,Zm]) rfl hlt rfl hk
theorem Sr.copyB {d:Tmp} {x y:Operand} {b o dl dc m scp k t t' E Eb:Nat} {sad:Option Addr} [HU c.P t (.slice E)] {z:Value} {by_:Nat} [HI c.P E z 1 by_] {vs us:List Value} {f:Res→List Res} (hx:ev e x=some (.slice (some ⟨b,o,none⟩) dl dc)) (hy:ev e y=some (.slice sad m scp))
  (hb:AtB H b vs Eb f) (hs:Rd c.F c.M H sad us) (hm:us.length=m) (h0:0 < m) (hk0:min m dl=k) (ho:o+k≤vs.length) (h1:us.all (·.oneCell')=true) (hlt:Nat.blt d c.fn.ntmps=true)
  (hk:Sr (.eff dr) c ds (f (.blk b (vs.take o++us.take k++vs.drop (o+k)) Eb)) ops l κ ((d,.int .i64 (k:Int))::e)) :
  Sr (.eff dr) c ds H ops (⟨some d,.call ⟨.builtin .copy,#[x,y],#[t,t']⟩,ty,pos,aft,none⟩::l) κ e :=
 Sr.eff (K:=fun v H'=>v=.int .i64 (k:Int)∧H'=f (.blk b (vs.take o++us.take k++vs.drop (o+k)) Eb)) (fun w a hw ha=>by
  obtain ⟨rest,p1,p2⟩:=hb.h
  have hw':=hw.perm p1
  have hblk:w.heap[b]?=some (.cells ⟨vs⟩ Eb (0,0)):=hw'.res _ (List.mem_cons_self ..)
  obtain ⟨q0,rfl,-⟩:=hs.h w hw 0 us[0] (List.getElem?_eq_getElem (by omega))
  have hlen:(us.take k).length=k:=by rw [List.length_take];omega
  have hP:c.P.underlying t=some (.slice E):=HU.h
  obtain ⟨ti,hi,_,hsz,_⟩:=HI.h (P:=c.P) (t:=E)
  have hsrc:∀ j v,(us.take k)[j]?=some v→w.cell? (q0.add j)=some v:=fun j v hj=>by
   have hjk:j < k:=by have:=(List.getElem?_eq_some_iff.1 hj).1;omega
   rw [List.getElem?_take_of_lt hjk] at hj
   obtain ⟨q1,h2,h3⟩:=hs.h w hw j v hj
   simp only [Option.some.injEq] at h2
   subst h2
   exact h3
  have hrun:=run_copy_row c.P w t t' ty E b o dl dc q0 m scp ⟨vs⟩ Eb (us.take k) hP (by rw [hi];simp [hsz]) hblk (by rw [hlen,←hk0]) hsrc (by rw [hlen];simpa using ho) (fun v hv=>List.all_eq_true.1 h1 v (List.mem_of_mem_take hv))
  rw [hlen] at hrun
  refine ⟨goInt k,w.setRow b ((⟨vs⟩:Array Value).toList.take o++us.take k++(⟨vs⟩:Array Value).toList.drop (o+k)).toArray,_,.inl (by simp only [execOp,ha.ev hx,ha.ev hy,resolve,invoke,builtin];simp [ha.ev hx,ha.ev hy,resolve,invoke,builtin,-List.append_assoc,hrun]),St.perm (hw'.turn (r':=.blk b (vs.take o++us.take k++vs.drop (o+k)) Eb) rfl rfl rfl (by simp) (fun q _ hq=>by rw [setRow_other];simpa [Res.foot] using hq) ?_ (fun q hq=>.inl hq) (by simp [Res.foot])) (p2 _),rfl,rfl⟩
  have:=setRow_heap w b ⟨vs⟩ (vs.take o++us.take k++vs.drop (o+k)).toArray Eb (0,0) hblk
  simpa [Res.holds] using this) hlt rfl (fun v H' ⟨h2,h3⟩=>by subst h2 h3;exact hk)
end
end Sg
/- More rules on texts: a text's bytes as a new row, a part of a text; an append that leaves the row that it began with. -/
namespace Sg
open Go Go.RowKit
theorem St.appendK {c:Ctx} {H:List Res} {w:World} {ad:Option Addr} {n cp sz m t E:Nat} {xs us:List Value} {z:Value} {by_:Nat} {src:Addr} {scp:Nat} {ty:TypeId} (hw:St c.F c.M w (.row ad cp E sz n xs::H))
  [HU c.P t (.slice E)] [HI c.P E z sz by_] (hus:us.length=m*sz) (hnews:∀ j u,us[j]?=some u→w.cell? (src.add j)=some u) (hone:us.all (·.oneCell')=true) (hzs:z.cells.size=sz) (hsz:0 < sz)
  (hroom:(n+m)*by_≤140737488355328∧n+m≤140737488355328) :
  ∃ ad' cp' w' X,(Builtin.append_ #[t,t] ty #[.slice ad n cp,.slice (some src) m scp]).run c.P w=.ok (.slice ad' (n+m) cp') w'∧(ad'=ad∧X=[]∨X=[.row ad cp E sz n xs])∧St c.F c.M w' (.row ad' cp' E sz (n+m) (xs++us)::(X++H)):=by
 obtain ⟨i,hi1,hi2,hi3,hi4⟩:=HI.h (P:=c.P) (t:=E) (z:=z) (sz:=sz) (by_:=by_)
 have hrow:w.ownsRow 0 E sz (.slice ad n cp) n xs:=hw.res _ (List.mem_cons_self ..)
 have hmax:n+m≤maxLen:=by unfold maxLen;omega
 have hone':∀ u∈us,u.oneCell'=true:=fun u hu=>by simpa using List.all_eq_true.1 hone u hu
 obtain ⟨ad',cp',w',hrun,hst⟩:=St.append (c:=c) (t:=t) (z:=z) (sz:=sz) (by_:=by_) (us:=us) (src:=src) (scp:=scp) (ty:=ty) hw hus hnews hone hzs hsz hroom
 have hnew:w'.ownsRow 0 E sz (.slice ad' (n+m) cp') (n+m) (xs++us):=hst.res _ (List.mem_cons_self ..)
 rcases hrow.2 with ⟨hv,h0⟩|⟨g,cap,cur,hv,hbg,hg,hnc,hcm,hcs,htake⟩
 ·simp only [Value.slice.injEq] at hv
  obtain ⟨rfl,rfl,rfl⟩:=hv
  obtain rfl:xs=[]:=List.eq_nil_of_length_eq_zero (by have:=hrow.1;simpa using this)
  exact ⟨ad',cp',w',[.row none 0 E sz 0 []],hrun,.inr rfl,(hst.nilrow E sz).perm (List.Perm.swap _ _ _)⟩
 ·simp only [Value.slice.injEq] at hv
  obtain ⟨rfl,-,rfl⟩:=hv
  subst hi3
  by_cases hrm:n+m≤cp
  ·have hfit:n*i.size+us.length≤cur.size:=by rw [hus,hcs,←Nat.add_mul];exact Nat.mul_le_mul_right _ hrm
   have hr:=run_append_room (P:=c.P) w t ty E i (HU.h (P:=c.P) (t:=t)) hi1 g n cp cur hg src m scp us hus hnews hone' hrm hfit
   rw [hrun] at hr
   simp only [Result.ok.injEq,Value.slice.injEq] at hr
   obtain ⟨⟨rfl,-,-⟩,-⟩:=hr
   exact ⟨_,cp',w',[],hrun,.inl ⟨rfl,rfl⟩,hst⟩
  ·have holds:∀ j u,xs[j]?=some u→w.cell? ((⟨g,0,none⟩:Addr).add j)=some u:=hrow.cells (g:=g) rfl
   subst hi4
   have hr:=run_append_grow (P:=c.P) w t ty E i z (HU.h (P:=c.P) (t:=t)) hi1 hi2 ⟨g,0,none⟩ n cp xs hrow.1 holds src m scp us hus hnews (by omega) (by omega) (growslice_fits (by omega) hroom.1)
   rw [hrun] at hr
   simp only [Result.ok.injEq,Value.slice.injEq] at hr
   obtain ⟨⟨rfl,-,rfl⟩,rfl⟩:=hr
   refine ⟨_,_,_,[.row (some ⟨g,0,none⟩) cp E i.size n xs],hrun,.inr rfl,St.fresh hw rfl rfl rfl (by simp) (fun j hj=>?_) hnew (fun q hq=>?_) (by simp [Res.foot])⟩
   ·show (w.drew.heap.push _)[j]?=_
    have hj':j < w.drew.heap.size:=by simpa using hj
    rw [Array.getElem?_push_lt hj',←Array.getElem?_eq_getElem hj']
    rfl
   ·simp only [Res.foot,List.mem_singleton] at hq
    omega
section
variable {q:Mode} {c:Ctx} {ds:List Deferred} {H:List Res} {ops:Array Oper} {l:List Oper} {κ:List Res→Env→Prop} {dr:Bool} {e:Env} {ty:TypeId} {pos:String} {aft:Array Edge}
theorem T.appendK1 {d:Tmp} {x y:Operand} {ad:Option Addr} {n cp b t E Eb:Nat} {v:Value} [HU c.P t (.slice E)] {z:Value} {by_:Nat} [HI c.P E z 1 by_] {xs:List Value} (hx:ev e x=some (.slice ad n cp)) (hy:ev e y=some (.slice (some ⟨b,0,none⟩) 1 1))
  (hv:v.oneCell'=true) (hzs:z.cells.size=1) (hroom:(n+1)*by_≤140737488355328∧n+1≤140737488355328) (hlt:Nat.blt d c.fn.ntmps=true)
  (hk:∀ ad' cp' X,(ad'=ad∧X=[]∨X=[.row ad cp E 1 n xs])→Sr (.eff dr) c ds (.row ad' cp' E 1 (n+1) (xs++[v])::(X++H)) ops l κ ((d,.slice ad' (n+1) cp')::e)) :
  Sr (.eff dr) c ds (.blk b [v] Eb::.row ad cp E 1 n xs::H) ops (⟨some d,.call ⟨.builtin .append,#[x,y],#[t,t]⟩,ty,pos,aft,none⟩::l) κ e :=
 Sr.eff (K:=fun u H'=>∃ ad' cp' X,u=.slice ad' (n+1) cp'∧(ad'=ad∧X=[]∨X=[.row ad cp E 1 n xs])∧H'=.row ad' cp' E 1 (n+1) (xs++[v])::(X++H)) (fun w a hw ha=>by
  obtain ⟨ad',cp',w',X,hrun,hX,hst⟩:=St.appendK (c:=c) (t:=t) (z:=z) (sz:=1) (by_:=by_) (us:=[v]) (m:=1) (src:=⟨b,0,none⟩) (scp:=1) (ty:=ty) hw.tail rfl (fun j u hj=>by
   rw [Zm,Nat.zero_add,hw.cell (List.mem_cons_self ..)]
   exact hj) (by simp [hv]) hzs (by decide) hroom
  exact ⟨_,w',_,.inl (by simp [execOp,ha.ev hx,ha.ev hy,resolve,invoke,builtin,hrun]),hst,_,_,_,rfl,hX,rfl⟩) hlt rfl
  (fun u H' ⟨ad',cp',X,hu,hX,hH⟩=>by subst hu hH;exact hk ad' cp' X hX)
theorem T.convSB {d:Tmp} {x:Operand} {s t E:TypeId} {bs:List UInt8} [HU c.P s .string] [HU c.P t (.slice E)] [HU c.P E (.int .u8)] (hx:ev e x=some (sV bs)) (hlt:Nat.blt d c.fn.ntmps=true)
  (hk:∀ b cp r,Rd c.F c.M (r::H) (some ⟨b,0,none⟩) (bs.map bV)→bs.length≤cp→Sr (.eff dr) c ds (r::H) ops l κ ((d,.slice (some ⟨b,0,none⟩) bs.length cp)::e)) :
  Sr (.eff dr) c ds H ops (⟨some d,.convert s t x,ty,pos,aft,none⟩::l) κ e :=
 Sr.eff (K:=fun u H'=>∃ b cp r,u=.slice (some ⟨b,0,none⟩) bs.length cp∧Rd c.F c.M (r::H) (some ⟨b,0,none⟩) (bs.map bV)∧bs.length≤cp∧H'=r::H) (fun w a hw ha=>by
  have hrun:=Go.Lib.run_convert_string_bytes (P:=c.P) w s t E (ByteArray.mk bs.toArray) (u:=.string) (HU.h (P:=c.P) (t:=s)) (HU.h (P:=c.P) (t:=t)) (HU.h (P:=c.P) (t:=E))
  have hnew:=Go.Lib.bytesWorld_at_new w E (ByteArray.mk bs.toArray)
  have hsz:=Go.Lib.bytesWorld_size w E (ByteArray.mk bs.toArray)
  have hold:=fun j (hj:j < w.heap.size)=>Go.Lib.bytesWorld_at_old w E (ByteArray.mk bs.toArray) j hj
  have hcap:bs.length≤grownCap w bs.length 0 E:=grownCap_ge w bs.length 0 E
  have hss:(ByteArray.mk bs.toArray).size=bs.length:=rfl
  have hcl:∃ zs,Go.Lib.bytesCells w E (ByteArray.mk bs.toArray)=⟨bs.map bV++zs⟩:=⟨_,by
   unfold Go.Lib.bytesCells
   apply Array.ext'
   simp only [Array.toList_append,Array.toList_map]
   rfl⟩
  obtain ⟨zs,hcl⟩:=hcl
  rw [hcl] at hnew
  rw [hss] at hrun
  have hos:(Go.Lib.bytesWorld w E (ByteArray.mk bs.toArray)).os=w.os∧(Go.Lib.bytesWorld w E (ByteArray.mk bs.toArray)).tape=w.tape∧(Go.Lib.bytesWorld w E (ByteArray.mk bs.toArray)).output=w.output:=by
   unfold Go.Lib.bytesWorld World.freeze
   rw [if_neg (by decide)]
   exact ⟨rfl,rfl,rfl⟩
  refine ⟨.slice (some ⟨w.heap.size,0,none⟩) bs.length (grownCap w bs.length 0 E),Go.Lib.bytesWorld w E (ByteArray.mk bs.toArray),_,.inl (by simp only [execOp,ha.ev hx,Sem.run_bind,hrun,Result.andThen_ok,Sem.run_pure]),hw.fresh (r':=.obj w.heap.size _) hos.1 hos.2.1 hos.2.2 (by rw [hsz];omega) hold hnew (fun q hq=>by simp only [Res.foot,List.mem_singleton] at hq;omega) (by simp [Res.foot]),w.heap.size,_,_,rfl,?_,hcap,rfl⟩
  have h1:Rd c.F c.M (.obj w.heap.size (.cells ⟨bs.map bV++zs⟩ E ((⟨bs.map bV++zs⟩:Array Value).size,(⟨bs.map bV++zs⟩:Array Value).size+1))::H) (some ⟨w.heap.size,0,none⟩) (bs.map bV++zs):=inferInstance
  have h2:=h1.take bs.length
  rwa [List.take_append_of_le_length (by simp),List.take_of_length_le (by simp)] at h2) hlt rfl
  (fun u H' ⟨b,cp,r,hu,hR,hc,hH⟩=>by subst hu hH;exact hk b cp r hR hc)
theorem Sr.same (h:Sr q c ds H ops l κ e):Sr q c ds H ops l κ e:=h
theorem T.sslice {d:Tmp} {x lo hi:Operand} {kd kd':IntKind} {i j:Nat} {t:TypeId} {bs:List UInt8} [HU c.P t .string] (hx:ev e x=some (sV bs)) (hl:ev e lo=some (.int kd (i:Int))) (hh:ev e hi=some (.int kd' (j:Int))) (h0:i≤j∧j≤bs.length) (hlt:Nat.blt d c.fn.ntmps=true)
  (hk:Sr q c ds H ops l κ ((d,sV ((bs.drop i).take (j - i)))::e)):Sr q c ds H ops (⟨some d,.slice t x (some lo) (some hi) none,ty,pos,aft,none⟩::l) κ e :=
 Sr.p (fun w a _ ha=>by
  have hr:=run_slice_string (P:=c.P) (w:=w) t (ByteArray.mk bs.toArray) kd kd' (i:Int) (j:Int) (HU.h (P:=c.P) (t:=t)) (by omega) (by omega) (by show (j:Int)≤(bs.length:Nat);omega)
  have hex:(ByteArray.mk bs.toArray).extract (i:Int).toNat (j:Int).toNat=ByteArray.mk ((bs.drop i).take (j - i)).toArray:=by
   rw [Int.toNat_natCast,Int.toNat_natCast]
   apply ByteArray.ext
   rw [ByteArray.data_extract]
   apply Array.ext'
   simp [List.extract,List.drop_take]
  rw [hex] at hr
  simp [execOp,ha.ev hx,ha.ev hl,ha.ev hh,Instr.sliceAt,Z7 (d:=.string),hr]) rfl hlt rfl hk
theorem T.sneqR {x y:Operand} {d:Tmp} {a:List UInt8} {t u:TypeId} (hx:ev e x=some (sV a)) (hy:ev e y=some (sV a)) (hlt:Nat.blt d c.fn.ntmps=true) (hk:Sr q c ds H ops l κ ((d,.bool false)::e)):Sr q c ds H ops (⟨some d,.binOp .neq t x y u,ty,pos,aft,none⟩::l) κ e :=
 T.sneq hx hy hlt (by simpa using hk)
end
end Sg
/- Slices of texts handed in, opened; from a walk of a law to its row in the second form, the world's shape handed on; for every program. -/
namespace Sg
open Go Go.ChangeShapes Go.WideShapes Go.RowKit
theorem Z3b {H:Type} {enc:TypeId × Value→H} {P:Program} {W:World} {b0:Nat} {t e:TypeId} {v:Value} {d:DataW H} {ps:List MemPlace} (ht:P.underlying t=some (.slice e)) (he:P.underlying e=some .string) (hc:P.cellsOf e=1) (hval:Value.okWide P W .any b0 t v) (hd:DataW.Trod enc P W 0 (fun _=>true) true t v d ps) :
  ∃ (ad:Option Addr) (cp:Nat) (ts:List (List UInt8)),v=.slice ad ts.length cp∧(ts=[]∨∃ sp,d=.slice (ts.map fun s=>.lit (.string s)) sp)∧∀ H',Rd W [] H' ad (ts.map sV):=by
 obtain ⟨ad,len,cap,rfl⟩:=okWide_slice ht hval
 obtain ⟨fuel,hf⟩:=hd
 rcases DataW.trod_slice ht hf with ⟨hcs,hx⟩|⟨a,len',cap',elems,rest,n,_,hcs,hx,_,hl,_,hlen,hele,hsp,_⟩
 ·simp only [Value.cells,List.cons.injEq,Value.slice.injEq,and_true] at hcs
  obtain ⟨rfl,rfl,rfl⟩:=hcs
  exact ⟨none,0,[],rfl,.inl rfl,fun H'=>.ofF fun j u hu=>by simp at hu⟩
 ·simp only [Value.cells,List.cons.injEq,Value.slice.injEq,and_true] at hcs
  obtain ⟨rfl,rfl,rfl⟩:=hcs
  simp only [Prod.mk.injEq] at hx
  obtain ⟨ts,htl,hts⟩:=Z7p (Q:=fun i s=>W.cell? (a.add i)=some (sV s)∧(elems.map (·.1))[i]?=some (.lit (.string s))) len (fun i hi=>by
   have h:=hele i hi
   rw [List.getElem?_eq_getElem (by omega),Option.bind_eq_some_iff] at h
   obtain ⟨cs,h1,h2⟩:=h
   obtain ⟨s,rfl,h3,-⟩:=DataW.trod_string he h2
   refine ⟨s.data.toList,?_,?_⟩
   ·rw [hc,Nat.mul_one] at h1
    unfold World.cells? at h1
    rw [if_pos (Nat.zero_le _)] at h1
    have h4:=mapM_some_get h1 0 0 (by simp)
    rw [show (a.add i).add 0=a.add i by rw [←Zb4];rfl] at h4
    rw [h4,←Zds s]
    rfl
   ·rw [List.getElem?_map,List.getElem?_eq_getElem (by omega),Option.map_some,h3])
  refine ⟨some a,cap,ts,by rw [htl],.inr ⟨rest.map (·.1),?_⟩,fun H'=>.ofF fun j u hu=>⟨a,rfl,?_⟩⟩
  ·rw [hx.1]
   congr 1
   apply List.ext_getElem?
   intro i
   rcases Nat.lt_or_ge i len with h|h
   ·have h5:=(hts i _ (List.getElem?_eq_getElem (by omega))).2
    rw [h5,List.getElem?_map,List.getElem?_eq_getElem (by omega),Option.map_some]
   ·rw [List.getElem?_eq_none (by rw [List.length_map];omega),List.getElem?_eq_none (by rw [List.length_map];omega)]
  ·have hj:j < ts.length:=by
    have:=(List.getElem?_eq_some_iff.1 hu).1
    simpa using this
   have h5:=(hts j _ (List.getElem?_eq_getElem hj)).1
   rw [List.getElem?_map,List.getElem?_eq_getElem hj,Option.map_some,Option.some.injEq] at hu
   rw [h5,←hu]
def Z8E (P:Program) (f:FuncId) (fn:Func) (X:World→Prop) (k:(H:Type)→List (DataW H)→Bool):Prop :=
 ∀ {H:Type} {enc:TypeId × Value→H} (W:World) (base:Nat) (args:Array Value) (ds:List (DataW H)) (p:List MemPlace),(∀ (j:Nat) t v,fn.params[j]?=some t→args[j]?=some v→Value.okWide P W .any base t v) →
  DataW.TrodAll enc P W 0 (fun _=>true) true fn.params.toList args.toList ds p→(DataW.weightsEach P fn.params.toList ds).all (·≤reachBytes)=true→k H ds=true→X W→W.ShapedOpen P →
  Meets P f args.toList W [] [] (fun e _=>e=.returned (.bool true))
theorem Z3d {C:Checked} {os:Os} {f:FuncId} {fn:Func} {s:ChangeSpec} {k:(H:Type)→List (DataW H)→Bool} {conds:List PathCond} {laid:List (String × DataW Unit)} {rt:TypeId} {fresh handsOn:Bool} (H:Type) (enc:TypeId × Value→H) (F:Stop.Interp) (own:ownKnob C.prog.godebug=none) (started:os.Started) (noInit:C.prog.inits.idxOf? f=none) (hfn:C.prog.funcs[f]?=some fn)
  (witness:∃ (w:World) (tape:Tape) (i:Input),w.os=os∧(w.forCall tape i).Shaped C.prog∧i.vars=[]∧Input.okWide C.prog (w.forCall tape i) .any w.heap.size f i ∧
   ({ OpenSpec.ofChange s with cond:=some k }:OpenSpec).preRow enc C.prog fn conds false laid (w.forCall tape i).memory i.args∧({}:Assume).holds C.prog (lone (Frame.enter C.prog f i.args .normal) [] (w.forCall tape i)))
  (hres:fn.resultTypes=#[rt]) (hrt:C.prog.underlying rt=some .bool) (hvars:s.vars=[]) (hs:∀ (H:Type) (ds:List (DataW H)),ds.length=fn.params.toList.length→s.fn H ds={ results:=[.lit (.bool true)],args:=ds })
  (hl:laidOutB C.prog=true) (hts:fn.params.toList.all (fun t=>C.prog.readableRec t&&decide (t < C.prog.types.size))=true) (law:Z8E C.prog f fn (laidMetH C.prog laid) k) :
  ReturnsInHanded {} C os f .any (({ OpenSpec.ofChange s with cond:=some k }:OpenSpec).preRow enc C.prog fn conds false laid) (((({ OpenSpec.ofChange s with cond:=some k }:OpenSpec)).at F).post enc C.prog fn false fresh handsOn false):=by
 refine returnsInHanded_of_row (s:={ OpenSpec.ofChange s with cond:=some k }) own started noInit hfn witness ?_
 intro W base args ds gs before hval hW _ hk hz hx hsh _
 have hW':=hW
 obtain ⟨p,q,hA,hV,rfl,hfz,hnd⟩:=hW
 have hV':DataW.TrodVars enc C.prog W (fun _=>true) s.vars gs q:=hV
 rw [hvars] at hV'
 obtain ⟨rfl,rfl⟩:=trodVars_none hV'
 have hvt:s.plain.varTypes C.prog=[]:=by simp [DataSpec.varTypes,ChangeSpec.plain,hvars]
 have hz':(DataW.weightsEach C.prog (fn.params.toList++s.plain.varTypes C.prog) (ds++[])).all (·≤reachBytes)=true:=hz
 rw [hvt,List.append_nil,List.append_nil] at hz'
 have hk':=hk k rfl
 rw [List.append_nil] at hk'
 have hlt:∀ x∈p,x.block < W.heap.size:=fun x hx=>hW'.lt x (List.mem_append_left _ hx)
 have hlen:=Z3t hA
 refine (law W base args ds p hval hA hz' hk' hx hsh W (St.refl W)).mono fun e W' ⟨H',he,hst⟩=>?_
 subst he
 have hb:Below W.heap.size W W':=⟨hst.os,hst.tape,hst.output,hst.size,fun k hk=>hst.keep k hk (by simp)⟩
 have hp:s.post enc C.prog fn false fresh handsOn false W args (.bool true) W':=by
  refine ⟨ds,[],_,[],p,[],hW',?_,?_,?_,Below.frame hb _,fun h=>by cases h⟩
  ·rw [List.append_nil,hs H ds hlen,hres]
   exact trodAll_mk1 (shut_bool hrt true)
  ·rw [List.append_nil,hs H ds hlen]
   exact Z2t hl hb hts hA hlt
  ·rw [hvars,List.append_nil,hs H ds hlen]
   rfl
 exact ⟨_,rfl,hp⟩
theorem Z2q {H:Type} {enc:TypeId × Value→H} {C:Checked} {os:Os} {f:FuncId} {fn:Func} {s:OpenSpec} {conds:List PathCond} {apart:Bool} {laid:List (String × DataW Unit)} (modest:Bool) (w0:World) (args:Array Value) (hos:w0.os=os)
  (hsh:(w0.forCall (fun _ _=>0) ⟨#[],args,[]⟩).Shaped C.prog)
  (hok:Input.okWideB C.prog (w0.forCall (fun _ _=>0) ⟨#[],args,[]⟩) f ⟨#[],args,[]⟩=true)
  (hrow:s.preRow enc C.prog fn conds apart laid (w0.forCall (fun _ _=>0) ⟨#[],args,[]⟩).memory args) :
  ∃ (w:World) (tape:Tape) (i:Input),w.os=os∧(w.forCall tape i).Shaped C.prog∧i.vars=[]∧Input.okWide C.prog (w.forCall tape i) .any w.heap.size f i ∧
   s.preRow enc C.prog fn conds apart laid (w.forCall tape i).memory i.args∧({ modest:=modest }:Assume).holds C.prog (lone (Frame.enter C.prog f i.args .normal) [] (w.forCall tape i)) :=
 ⟨w0,fun _ _=>0,⟨#[],args,[]⟩,hos,hsh,(Input.okWide_of_okWideB (base:=0) hok).1,(Input.okWide_of_okWideB hok).2,hrow,by
  simp only [Assume.holds]
  exact ⟨by simp,by simp,fun _=>Modest.zero,by simp,by simp⟩⟩
end Sg
/- Slices of records handed in, opened, with what is read of each; for every program. -/
namespace Sg
open Go Go.ChangeShapes Go.WideShapes Go.RowKit
theorem Z3c {H:Type} {enc:TypeId × Value→H} {P:Program} {W:World} {b0 sz:Nat} {t e:TypeId} {α:Type} [Inhabited α] {g:α→List Value} {Q:α→DataW H→Prop} {v:Value} {d:DataW H} {ps:List MemPlace} (hg:∀ a,(g a).length=sz) (hs:0 < sz)
  (hel:∀ {n:Nat} {cs:List Value} {x:DataW H × List MemPlace},DataW.trod enc P W 0 (fun _=>true) true n e cs=some x→∃ a,cs=g a∧Q a x.1)
  (ht:P.underlying t=some (.slice e)) (hc:P.cellsOf e=sz) (hval:Value.okWide P W .any b0 t v) (hd:DataW.Trod enc P W 0 (fun _=>true) true t v d ps) :
  ∃ (ad:Option Addr) (cp:Nat) (xs:List α),v=.slice ad xs.length cp∧xs.length≤cp∧(xs=[]∨∃ (el sp:List (DataW H)),d=.slice el sp∧el.length=xs.length∧∀ (i:Nat) (a:α),xs[i]?=some a→∃ y,el[i]?=some y∧Q a y)∧∀ H',Rd W [] H' ad (xs.flatMap g):=by
 obtain ⟨ad,len,cap,rfl⟩:=okWide_slice ht hval
 obtain ⟨fuel,hf⟩:=hd
 rcases DataW.trod_slice ht hf with ⟨hcs,hx⟩|⟨a,len',cap',elems,rest,n,_,hcs,hx,_,hl,_,hlen,hele,hsp,_⟩
 ·simp only [Value.cells,List.cons.injEq,Value.slice.injEq,and_true] at hcs
  obtain ⟨rfl,rfl,rfl⟩:=hcs
  exact ⟨none,0,[],rfl,Nat.le_refl _,.inl rfl,fun H'=>.ofF fun j u hu=>by simp at hu⟩
 ·simp only [Value.cells,List.cons.injEq,Value.slice.injEq,and_true] at hcs
  obtain ⟨rfl,rfl,rfl⟩:=hcs
  simp only [Prod.mk.injEq] at hx
  obtain ⟨hr1,_⟩:=hsp rfl
  obtain ⟨xs,hxl,hxs⟩:=Z7p (Q:=fun i x=>W.cells? 0 (a.add (i*P.cellsOf e)) (P.cellsOf e)=some (g x)∧∃ y,(elems.map (·.1))[i]?=some y∧Q x y) len (fun i hi=>by
   have h:=hele i hi
   rw [List.getElem?_eq_getElem (by omega),Option.bind_eq_some_iff] at h
   obtain ⟨cs,h1,h2⟩:=h
   obtain ⟨x,rfl,hq⟩:=hel h2
   exact ⟨x,h1,_,by rw [List.getElem?_map,List.getElem?_eq_getElem (by omega),Option.map_some],hq⟩)
  refine ⟨some a,cap,xs,by rw [hxl],by omega,.inr ⟨_,_,hx.1,by rw [List.length_map];omega,fun i x hi=>(hxs i x hi).2⟩,fun H'=>.ofF fun j u hu=>⟨a,rfl,?_⟩⟩
  rw [hc] at hxs
  have hj:=(List.getElem?_eq_some_iff.1 hu).1
  rw [Z0y hg] at hj
  have hi:j / sz < xs.length:=Nat.div_lt_of_lt_mul (by rwa [Nat.mul_comm])
  have hr:j % sz < sz:=Nat.mod_lt _ hs
  have hje:j=j / sz*sz+j % sz:=by rw [Nat.mul_comm];exact (Nat.div_add_mod j sz).symm
  have hq:=(hxs (j / sz) (xs.getD (j / sz) default) (by rw [List.getD_eq_getElem?_getD,List.getElem?_eq_getElem hi];rfl)).1
  rw [hje,Z8l hg hi hr] at hu
  unfold World.cells? at hq
  rw [if_pos (Nat.zero_le _)] at hq
  have h3:=mapM_some_get hq (j % sz) (j % sz) (by simp [hr])
  rw [hu] at h3
  rw [hje,←h3]
  congr 1
  exact Zb4 a _ _
end Sg
/- The second form's bound, on slices and texts. -/
namespace Go.Proofs.YtjajcmedipjfhaaGreatDoor
open Go
theorem ZbS {H:Type} (d:DataW H):1≤Rows.uptoBulk d:=by
 cases d with
 | lit l=>cases l<;>simp [Rows.uptoBulk]
 | _=>simp [Rows.uptoBulk]
theorem Z8B {H:Type}:∀ l:List (DataW H),l.length≤Rows.uptoBulkAll l
 | []=>Nat.zero_le _
 | d::l=>by
  have h1:=ZbS d
  have h2:=Z8B l
  rw [Rows.uptoBulkAll,List.length_cons]
  omega
theorem Z9K {H:Type} {ds:List (DataW H)} (h:Rows.uptoSmall H ds=true):Rows.uptoBulkAll ds≤1048576:=of_decide_eq_true h
end Go.Proofs.YtjajcmedipjfhaaGreatDoor
/- JSON in plain Lean: words of a text, each with its end or its fault; values by going down; and a machine with a stack; both say the same. -/
namespace Sg
structure Nd where
 kind:Int
 key:List UInt8
 text:List UInt8
 whole:Bool
 int:Int
 kids:Int
inductive Gt (α:Type)
 | ok (at_:Nat) (v:α)
 | bad (code:Int) (at_:Nat)
def Gt.bind {α β:Type} (g:Gt α) (f:Nat→α→Gt β):Gt β:=match g with
 | .ok a v=>f a v
 | .bad c a=>.bad c a
def Z6S (c:UInt8):Bool:=c==32 || c==9 || c==10 || c==13
def ZQ (c:UInt8):Bool:=decide (48≤c)&&decide (c≤57)
def Z3 (t:List UInt8) (p:Nat):Nat:=p+((t.drop p).takeWhile Z6S).length
def Zt (t:List UInt8) (p:Nat):Nat:=p+((t.drop p).takeWhile ZQ).length
def Z07 (t:List UInt8) (p:Nat):Gt Unit:=if Zt t p=p then .bad 31 p else .ok (Zt t p) ()
def atB (t:List UInt8) (p:Nat) (c:UInt8):Bool:=t[p]?==some c
def Z19 (t:List UInt8) (p:Nat):Gt Unit:=if atB t p 48 then .ok (p+1) () else Z07 t p
def Z0w (t:List UInt8) (p:Nat):Gt Unit:=if atB t p 46 then Z07 t (p+1) else .ok p ()
def Z0n (t:List UInt8) (p:Nat):Nat:=if atB t p 43 || atB t p 45 then p+1 else p
def Z1a (t:List UInt8) (p:Nat):Gt Unit:=if atB t p 101 || atB t p 69 then Z07 t (Z0n t (p+1)) else .ok p ()
def numX (t:List UInt8) (p:Nat):Gt Unit :=
 (Z19 t (if atB t p 45 then p+1 else p)).bind fun a _=>(Z0w t a).bind fun b _=>Z1a t b
def Z0t (t:List UInt8) (p:Nat):List UInt8→Gt Unit
 | []=>.ok p ()
 | w::ws=>if atB t p w then Z0t t (p+1) ws else .bad 31 p
def hexN (c:UInt8):Option Nat :=
 if 48≤c∧c≤57 then some (c.toNat - 48) else if 97≤c∧c≤102 then some (c.toNat - 87) else if 65≤c∧c≤70 then some (c.toNat - 55) else none
def Z0W (low:Bool) (i u d:Nat):Bool:=(low&&((i==0&&d != 13) || (i==1&&decide (d < 12)))) || (!low&&i==1&&u==13&&decide (12≤d))
def ZK (t:List UInt8) (low:Bool) (fr:Nat):Nat→Nat→Nat→Gt Nat
 | 0,p,u=>.ok p u
 | k+1,p,u=>match t[p]? with
  | none=>.bad 31 p
  | some c=>match hexN c with
   | none=>.bad 33 fr
   | some d=>if Z0W low (3 - k) u d then .bad 33 fr else ZK t low fr k (p+1) (16*u+d)
def utfL (u:Nat):List UInt8 :=
 if u < 128 then [.ofNat u] else if u < 2048 then [.ofNat (192+u / 64),.ofNat (128+u % 64)] else
 if u < 65536 then [.ofNat (224+u / 4096),.ofNat (128+u / 64 % 64),.ofNat (128+u % 64)] else
 [.ofNat (240+u / 262144),.ofNat (128+u / 4096 % 64),.ofNat (128+u / 64 % 64),.ofNat (128+u % 64)]
def Z1k (t:List UInt8) (fr p:Nat) (c:UInt8):Gt Unit:=match t[p]? with
 | none=>.bad 31 p
 | some d=>if d=c then .ok (p+1) () else .bad 33 fr
def Z1G (t:List UInt8) (fr p:Nat):Gt Nat :=
 (ZK t false fr 4 p 0).bind fun a hi=>if hi < 55296∨57343 < hi then .ok a hi else
  (Z1k t fr a 92).bind fun b _=>(Z1k t fr b 117).bind fun d _=>(ZK t true fr 4 d 0).bind fun e lo=>.ok e (65536+1024*(hi - 55296)+lo - 56320)
def escS (c:UInt8):Option Nat :=
 if c=34 then some 34 else if c=92 then some 92 else if c=47 then some 47 else if c=98 then some 8 else if c=102 then some 12 else if c=110 then some 10 else if c=114 then some 13 else if c=116 then some 9 else none
def escX (t:List UInt8) (fr:Nat):Gt Nat:=match t[fr+1]? with
 | none=>.bad 31 (fr+1)
 | some c=>if c=117 then Z1G t fr (fr+2) else match escS c with
  | some u=>.ok (fr+2) u
  | none=>.bad 33 fr
def seqB (c:Nat):Option (Nat × Nat × Nat) :=
 if c < 194∨244 < c then none else if c < 224 then some (1,128,191) else if c=224 then some (2,160,191) else if c=237 then some (2,128,159) else
 if c < 240 then some (2,128,191) else if c=240 then some (3,144,191) else if c=244 then some (3,128,143) else some (3,128,191)
def seqX (t:List UInt8) (fr:Nat):Nat→Nat→Nat→Nat→Gt Unit
 | 0,p,_,_=>.ok p ()
 | k+1,p,lo,hi=>match t[p]? with
  | none=>.bad 31 p
  | some c=>if c.toNat < lo∨hi < c.toNat then .bad 32 fr else seqX t fr k (p+1) 128 191
def Z0G (t:List UInt8) (p:Nat) (c:UInt8):Gt Unit:=match seqB c.toNat with
 | none=>.bad 32 p
 | some (n,lo,hi)=>seqX t p n (p+1) lo hi
def Z0c (t:List UInt8):Nat→Nat→List UInt8→Gt (List UInt8)
 | 0,p,_=>.bad 0 p
 | f+1,p,acc=>match t[p]? with
  | none=>.bad 31 p
  | some c =>
   if c < 32 then .bad 31 p else if c=34 then .ok (p+1) acc else
   if c=92 then (escX t p).bind fun a u=>Z0c t f a (acc++utfL u) else
   if c < 128 then Z0c t f (p+1) (acc++[c]) else
   (Z0G t p c).bind fun a _=>Z0c t f a (acc++(t.drop p).take (a - p))
def ZB (t:List UInt8) (p:Nat):Gt (List UInt8):=Z0c t (t.length+1 - p) p []
structure Wh where
 f:List UInt8→Int × Bool
def nd (k:Int):Nd:=⟨k,[],[],false,0,0⟩
def Nd.named (n:Nd) (k:List UInt8):Nd:={ n with key:=k }
def Nd.more (n:Nd):Nd:={ n with kids:=n.kids+1 }
def ZJ (l:List Nd) (k:List UInt8):List Nd:=match l with
 | []=>[]
 | n::r=>n.named k::r
def sl (t:List UInt8) (a b:Nat):List UInt8:=(t.drop a).take (b - a)
def Z0m (wh:List UInt8→Int × Bool) (t:List UInt8) (p:Nat) (c:UInt8):Gt (List Nd) :=
 if c=34 then (ZB t (p+1)).bind fun a s=>.ok a [{ nd 5 with text:=s }] else
 if c=45∨ZQ c=true then (numX t p).bind fun a _=>.ok a [{ nd 4 with text:=sl t p a,int:=(wh (sl t p a)).1,whole:=(wh (sl t p a)).2 }] else
 if c=110 then (Z0t t p [110,117,108,108]).bind fun a _=>.ok a [nd 1] else
 if c=102 then (Z0t t p [102,97,108,115,101]).bind fun a _=>.ok a [nd 2] else
 if c=116 then (Z0t t p [116,114,117,101]).bind fun a _=>.ok a [nd 3] else .bad 31 p
def Z06 (obj:Bool):UInt8:=if obj then 125 else 93
def rowE (t:List UInt8) (obj:Bool) (again:Nat→Gt (List Nd)) (a:Nat) (l:List Nd):Gt (List Nd) :=
 if atB t (Z3 t a) (Z06 obj) then .ok (Z3 t a+1) l else if atB t (Z3 t a) 44 then again (Z3 t (Z3 t a+1)) else .bad 31 (Z3 t a)
def Z0O (val:Nat→Gt (List Nd)) (t:List UInt8) (obj:Bool) (p:Nat) (names:List (List UInt8)):Gt (List Nd × List UInt8) :=
 if obj then
  if atB t p 34 then (ZB t (p+1)).bind fun a s=>if s∈names then .bad 34 p else
   if atB t (Z3 t a) 58 then (val (Z3 t (Z3 t a+1))).bind fun b l=>.ok b (ZJ l s,s) else .bad 31 (Z3 t a)
  else .bad 31 p
 else (val p).bind fun a l=>.ok a (l,[])
def rowX (val:Nat→Gt (List Nd)) (t:List UInt8) (obj:Bool):Nat→Nat→List (List UInt8)→Nd→List Nd→Gt (List Nd)
 | 0,p,_,_,_=>.bad 0 p
 | f+1,p,names,hd,out=>(Z0O val t obj p names).bind fun a g=>rowE t obj (fun p'=>rowX val t obj f p' (names++[g.2]) hd.more (out++g.1)) a (hd.more::(out++g.1))
def valX (wh:List UInt8→Int × Bool) (t:List UInt8):Nat→Nat→Gt (List Nd)
 | d,p=>match t[p]? with
  | none=>.bad 31 p
  | some c=>if c=91∨c=123 then (match d with
    | 0=>.bad 11 p
    | d+1=>if atB t (Z3 t (p+1)) (Z06 (c=123)) then .ok (Z3 t (p+1)+1) [nd (if c=123 then 7 else 6)] else
      rowX (valX wh t d) t (c=123) (t.length+1) (Z3 t (p+1)) [] (nd (if c=123 then 7 else 6)) [])
   else Z0m wh t p c
def Z05 (wh:List UInt8→Int × Bool) (t:List UInt8):Gt (List Nd) :=
 if 262144 < t.length then .bad 10 0 else
 (valX wh t 32 (Z3 t 0)).bind fun a l=>if Z3 t a < t.length then .bad 31 (Z3 t a) else .ok (Z3 t a) l
end Sg
