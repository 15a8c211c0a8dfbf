/- Rules for the single operations, over the judgement of the core; for every program. -/
import Derived.Test.YtophlopiigpbgaaGreatDoorCore
namespace Sg
open Go Go.RowKit

/- Closed facts of a program, found by their numbers. -/
class HU (P:Program) (t:TypeId) (d:outParam TypeDesc):Prop where
 h:P.underlying t=some d
theorem HI.witness {P:Program} {t:TypeId} {z:Value} {sz by_:Nat} (h:(P.info? t).map (fun i=>(i.zero,i.size,i.bytes))=some (some z,sz,by_)):∃ i,P.info? t=some i∧i.zero=some z∧i.size=sz∧i.bytes=by_:=by
 obtain ⟨i,hi,hx⟩:=Option.map_eq_some_iff.1 h
 simp only [Prod.mk.injEq] at hx
 exact ⟨i,hi,hx.1,hx.2.1,hx.2.2⟩
class HI (P:Program) (t:TypeId) (z:outParam Value) (sz by_:outParam Nat):Prop where
 h:∃ i,P.info? t=some i∧i.zero=some z∧i.size=sz∧i.bytes=by_
def plain:TypeDesc→Bool
 | .struct _=>false
 | .array _ _=>false
 | _=>true
theorem Z2E {P:Program} {t:TypeId} {d:TypeDesc} [h:HU P t d] (w:World):(isAgg t).run P w=.ok (!plain d) w:=by
 have:=h.h
 unfold isAgg
 rw [Sem.run_bind,run_underlying this]
 cases d<;>rfl
theorem ZO {P:Program} {t:TypeId} {z:Value} {sz b:Nat} [h:HI P t z sz b] (w:World):(Go.sizeOf t).run P w=.ok sz w:=by
 obtain ⟨i,hi,_,h2,_⟩:=h.h
 simp [Go.sizeOf,typeInfo,program,Sem.run,hi,h2]
theorem Z1o {P:Program} {t:TypeId} {z:Value} {sz b:Nat} [h:HI P t z sz b] (w:World):(zeroValue t).run P w=.ok z w:=by
 obtain ⟨i,hi,h1,_,_⟩:=h.h
 simp [zeroValue,typeInfo,program,Sem.run,hi,h1]
theorem Z9 {P:Program} {t:TypeId} {d:TypeDesc} [h:HU P t d] (w:World):(underlying t).run P w=.ok d w:=run_underlying h.h w

section
variable {c:Ctx} {H:List Res} {e:Env} {dst:Option Tmp} {ty:TypeId} {pos:String} {aft:Array Edge} {g:Option (Nat × Bool)}
theorem Pu.mv {x:Operand} {v:Value} (h:ev e x=some v):Pu c H e ⟨dst,.move x,ty,pos,aft,g⟩ v:=fun w a _ ha=>by
 simp [execOp,ha.ev h]
theorem Pu.asn {x:Operand} {v:Value} (h:ev e x=some v):Pu c H e ⟨dst,.assign x,ty,pos,aft,g⟩ v:=fun w a _ ha=>by
 simp [execOp,ha.ev h]
theorem Pu.pickT {x y z:Operand} {v:Value} (h:ev e x=some (.bool true)) (hy:ev e y=some v):Pu c H e ⟨dst,.pick x y z,ty,pos,aft,g⟩ v:=fun w a _ ha=>by
 simp [execOp,ha.ev h,ha.ev hy,asBool]
theorem Pu.pickF {x y z:Operand} {v:Value} (h:ev e x=some (.bool false)) (hz:ev e z=some v):Pu c H e ⟨dst,.pick x y z,ty,pos,aft,g⟩ v:=fun w a _ ha=>by
 simp [execOp,ha.ev h,ha.ev hz,asBool]
theorem Pu.nilCheck {x:Operand} {ad:Addr} (h:ev e x=some (.pointer (some ad))):Pu c H e ⟨dst,.nilCheck x,ty,pos,aft,g⟩ (.pointer (some ad)):=fun w a _ ha=>by
 simp [execOp,ha.ev h]
theorem Pu.extract {x:Operand} {i:Nat} {vs:List Value} {v:Value} (h:ev e x=some (.tuple ⟨vs⟩)) (hv:vs[i]?=some v):Pu c H e ⟨dst,.extract x i,ty,pos,aft,g⟩ v:=fun w a _ ha=>by
 simp [execOp,ha.ev h,Instr.extract,hv]
theorem Pu.not {x:Operand} {b:Bool} {t:TypeId} (h:ev e x=some (.bool b)):Pu c H e ⟨dst,.unOp .not t x,ty,pos,aft,g⟩ (.bool !b):=fun w a _ ha=>by
 simp [execOp,ha.ev h,Op.unary]
theorem Pu.neg {x:Operand} {k:IntKind} {n r:Int} {t:TypeId} (h:ev e x=some (.int k n)) (hr:k.wrap (0 - n)=r):Pu c H e ⟨dst,.unOp .neg t x,ty,pos,aft,g⟩ (.int k r):=fun w a _ ha=>by
 subst hr
 simp [execOp,ha.ev h,Op.unary,Op.intArith]
theorem Pu.conv {x:Operand} {k k':IntKind} {n r:Int} {s t:TypeId} {d:TypeDesc} (h:ev e x=some (.int k n)) [HU c.P s d] [HU c.P t (.int k')] (hr:k'.wrap n=r) :
  Pu c H e ⟨dst,.convert s t x,ty,pos,aft,g⟩ (.int k' r):=fun w a _ ha=>by
 subst hr
 simp [execOp,ha.ev h,convert,Z9 (d:=d),Z9 (d:=.int k'),Conv.intToInt]

/- Arithmetic. -/
theorem Pu.add {x y:Operand} {k:IntKind} {m n r:Int} {t u:TypeId} (hx:ev e x=some (.int k m)) (hy:ev e y=some (.int k n)) (hr:k.wrap (m+n)=r) :
  Pu c H e ⟨dst,.binOp .add t x y u,ty,pos,aft,g⟩ (.int k r):=fun w a _ ha=>by
 subst hr
 simp [execOp,ha.ev hx,ha.ev hy,eqGuard,binOp,Op.intArith]
theorem Pu.sub {x y:Operand} {k:IntKind} {m n r:Int} {t u:TypeId} (hx:ev e x=some (.int k m)) (hy:ev e y=some (.int k n)) (hr:k.wrap (m - n)=r) :
  Pu c H e ⟨dst,.binOp .sub t x y u,ty,pos,aft,g⟩ (.int k r):=fun w a _ ha=>by
 subst hr
 simp [execOp,ha.ev hx,ha.ev hy,eqGuard,binOp,Op.intArith]
theorem Pu.mul {x y:Operand} {k:IntKind} {m n r:Int} {t u:TypeId} (hx:ev e x=some (.int k m)) (hy:ev e y=some (.int k n)) (hr:k.wrap (m*n)=r) :
  Pu c H e ⟨dst,.binOp .mul t x y u,ty,pos,aft,g⟩ (.int k r):=fun w a _ ha=>by
 subst hr
 simp [execOp,ha.ev hx,ha.ev hy,eqGuard,binOp,Op.intArith]
theorem Pu.quo {x y:Operand} {k:IntKind} {m n r:Int} {t u:TypeId} (hx:ev e x=some (.int k m)) (hy:ev e y=some (.int k n)) (hn:n≠0) (hr:k.wrap (m.tdiv n)=r) :
  Pu c H e ⟨dst,.binOp .quo t x y u,ty,pos,aft,g⟩ (.int k r):=fun w a _ ha=>by
 subst hr
 simp [execOp,ha.ev hx,ha.ev hy,eqGuard,binOp,Op.intDiv,hn]
theorem Pu.rem {x y:Operand} {k:IntKind} {m n r:Int} {t u:TypeId} (hx:ev e x=some (.int k m)) (hy:ev e y=some (.int k n)) (hn:n≠0) (hr:m.tmod n=r) :
  Pu c H e ⟨dst,.binOp .rem t x y u,ty,pos,aft,g⟩ (.int k r):=fun w a _ ha=>by
 subst hr
 simp [execOp,ha.ev hx,ha.ev hy,eqGuard,binOp,Op.intDiv,hn]
theorem Pu.and {x y:Operand} {k:IntKind} {m n r:Int} {t u:TypeId} (hx:ev e x=some (.int k m)) (hy:ev e y=some (.int k n)) (hr:k.wrap (BitVec.ofInt k.bits m&&&BitVec.ofInt k.bits n).toNat=r) :
  Pu c H e ⟨dst,.binOp .and t x y u,ty,pos,aft,g⟩ (.int k r):=fun w a _ ha=>by
 subst hr
 simp [execOp,ha.ev hx,ha.ev hy,eqGuard,binOp,Op.intBits]
theorem Pu.or {x y:Operand} {k:IntKind} {m n r:Int} {t u:TypeId} (hx:ev e x=some (.int k m)) (hy:ev e y=some (.int k n)) (hr:k.wrap (BitVec.ofInt k.bits m|||BitVec.ofInt k.bits n).toNat=r) :
  Pu c H e ⟨dst,.binOp .or t x y u,ty,pos,aft,g⟩ (.int k r):=fun w a _ ha=>by
 subst hr
 simp [execOp,ha.ev hx,ha.ev hy,eqGuard,binOp,Op.intBits]
theorem Pu.xor {x y:Operand} {k:IntKind} {m n r:Int} {t u:TypeId} (hx:ev e x=some (.int k m)) (hy:ev e y=some (.int k n)) (hr:k.wrap (BitVec.ofInt k.bits m ^^^ BitVec.ofInt k.bits n).toNat=r) :
  Pu c H e ⟨dst,.binOp .xor t x y u,ty,pos,aft,g⟩ (.int k r):=fun w a _ ha=>by
 subst hr
 simp [execOp,ha.ev hx,ha.ev hy,eqGuard,binOp,Op.intBits]
theorem Pu.shl {x y:Operand} {k k':IntKind} {m n r:Int} {t u:TypeId} (hx:ev e x=some (.int k m)) (hy:ev e y=some (.int k' n)) (hn:0≤n) (hr:k.wrap (m*2 ^ (min n.toNat k.bits))=r) :
  Pu c H e ⟨dst,.binOp .shl t x y u,ty,pos,aft,g⟩ (.int k r):=fun w a _ ha=>by
 subst hr
 have hn':¬n < 0:=by omega
 simp [execOp,ha.ev hx,ha.ev hy,eqGuard,binOp,Op.shift,hn']
theorem Pu.shr {x y:Operand} {k k':IntKind} {m n r:Int} {t u:TypeId} (hx:ev e x=some (.int k m)) (hy:ev e y=some (.int k' n)) (hn:0≤n) (hr:m.fdiv (2 ^ (min n.toNat k.bits))=r) :
  Pu c H e ⟨dst,.binOp .shr t x y u,ty,pos,aft,g⟩ (.int k r):=fun w a _ ha=>by
 subst hr
 have hn':¬n < 0:=by omega
 simp [execOp,ha.ev hx,ha.ev hy,eqGuard,binOp,Op.shift,hn']
theorem Pu.lss {x y:Operand} {k:IntKind} {m n:Int} {t u:TypeId} (hx:ev e x=some (.int k m)) (hy:ev e y=some (.int k n)) :
  Pu c H e ⟨dst,.binOp .lss t x y u,ty,pos,aft,g⟩ (.bool (decide (m < n))):=fun w a _ ha=>by
 simp [execOp,ha.ev hx,ha.ev hy,eqGuard,binOp,Op.intCmp]
theorem Pu.leq {x y:Operand} {k:IntKind} {m n:Int} {t u:TypeId} (hx:ev e x=some (.int k m)) (hy:ev e y=some (.int k n)) :
  Pu c H e ⟨dst,.binOp .leq t x y u,ty,pos,aft,g⟩ (.bool (decide (m≤n))):=fun w a _ ha=>by
 simp [execOp,ha.ev hx,ha.ev hy,eqGuard,binOp,Op.intCmp]
theorem Pu.gtr {x y:Operand} {k:IntKind} {m n:Int} {t u:TypeId} (hx:ev e x=some (.int k m)) (hy:ev e y=some (.int k n)) :
  Pu c H e ⟨dst,.binOp .gtr t x y u,ty,pos,aft,g⟩ (.bool (decide (n < m))):=fun w a _ ha=>by
 simp [execOp,ha.ev hx,ha.ev hy,eqGuard,binOp,Op.intCmp]
theorem Pu.geq {x y:Operand} {k:IntKind} {m n:Int} {t u:TypeId} (hx:ev e x=some (.int k m)) (hy:ev e y=some (.int k n)) :
  Pu c H e ⟨dst,.binOp .geq t x y u,ty,pos,aft,g⟩ (.bool (decide (n≤m))):=fun w a _ ha=>by
 simp [execOp,ha.ev hx,ha.ev hy,eqGuard,binOp,Op.intCmp]
theorem Pu.eql {x y:Operand} {k:IntKind} {m n:Int} {t u:TypeId} (hx:ev e x=some (.int k m)) (hy:ev e y=some (.int k n)) :
  Pu c H e ⟨dst,.binOp .eql t x y u,ty,pos,aft,g⟩ (.bool (decide (m=n))):=fun w a _ ha=>by
 simp [execOp,ha.ev hx,ha.ev hy,eqGuard,binOp,Op.intCmp];rfl
theorem Pu.neq {x y:Operand} {k:IntKind} {m n:Int} {t u:TypeId} (hx:ev e x=some (.int k m)) (hy:ev e y=some (.int k n)) :
  Pu c H e ⟨dst,.binOp .neq t x y u,ty,pos,aft,g⟩ (.bool (decide (¬m=n))):=fun w a _ ha=>by
 simp [execOp,ha.ev hx,ha.ev hy,eqGuard,binOp,Op.intCmp];rfl
theorem Z8w {P:Program} {t:TypeId} {m n:Bool} [HU P t .bool] (w:World) (d:Nat):(Op.equalIn (d+1) t (.bool m) (.bool n)).run P w=.ok (m==n) w:=by
 simp [Op.equalIn,Z9 (d:=.bool)]
theorem Pu.eqlB {x y:Operand} {m n:Bool} {t u:TypeId} (hx:ev e x=some (.bool m)) (hy:ev e y=some (.bool n)) [HU c.P t .bool] :
  Pu c H e ⟨dst,.binOp .eql t x y u,ty,pos,aft,g⟩ (.bool (m==n)):=fun w a _ ha=>by
 have h:=Z8w (P:=c.P) (t:=t) (m:=m) (n:=n) w 9999
 simp only [execOp,ha.ev hx,ha.ev hy,eqGuard,binOp,Op.equal,Op.maxDepth]
 simp [h]
/- Slices, addresses, loads. -/
theorem Pu.len {x:Operand} {ad:Option Addr} {n cp:Nat} {t E:TypeId} (hx:ev e x=some (.slice ad n cp)) [HU c.P t (.slice E)] :
  Pu c H e ⟨dst,.call ⟨.builtin .len,#[x],#[t]⟩,ty,pos,aft,g⟩ (.int .i64 n):=fun w a _ ha=>by
 simp [execOp,ha.ev hx,resolve,invoke,builtin,Builtin.len_,Z9 (d:=.slice E),goInt]
theorem Pu.lenS {x:Operand} {s:ByteArray} {t:TypeId} (hx:ev e x=some (.string s)) [HU c.P t .string] :
  Pu c H e ⟨dst,.call ⟨.builtin .len,#[x],#[t]⟩,ty,pos,aft,g⟩ (.int .i64 s.size):=fun w a _ ha=>by
 simp [execOp,ha.ev hx,resolve,invoke,builtin,Builtin.len_,Z9 (d:=.string),goInt]
theorem Zo (b off k:Nat):(⟨b,off,none⟩:Addr).add k=⟨b,off+k,none⟩:=by
 unfold Addr.add
 split
 ·rename_i h;simp
 ·rfl
def Z4l (P:Program) (t i:Nat):Option (Nat × Bool):=match P.underlying t with
 | some (.struct fs)=>match fs[i]? with
  | some f=>(P.info? f.type).map fun x=>(f.offset,x.size==0)
  | none=>none
 | _=>none
class HFd (P:Program) (t i:Nat) (off:outParam Nat):Prop where
 h:Z4l P t i=some (off,false)
theorem Pu.fieldAddr {x:Operand} {b off i fo:Nat} {t:TypeId} (hx:ev e x=some (.pointer (some ⟨b,off,none⟩))) [hf:HFd c.P t i fo]:Pu c H e ⟨dst,.fieldAddr t x i,ty,pos,aft,g⟩ (.pointer (some ⟨b,off+fo,none⟩)):=fun w a _ ha=>by
 have h:=hf.h
 unfold Z4l at h
 split at h
 ·rename_i fs hu
  split at h
  ·rename_i f hfi
   obtain ⟨inf,hi,hx2⟩:=Option.map_eq_some_iff.1 h
   simp only [Prod.mk.injEq,beq_eq_false_iff_ne,ne_eq] at hx2
   obtain ⟨rfl,hsz⟩:=hx2
   have hsize:(Go.sizeOf f.type).run c.P w=.ok inf.size w:=by simp [Go.sizeOf,typeInfo,program,Sem.run,hi]
   simp [execOp,ha.ev hx,Instr.fieldAt,run_underlying hu,hfi,Instr.sureAddr,fieldPlace,hsize,hsz,Zo]
  ·cases h
 ·cases h
def eaddr (a:Option Addr) (k:Nat):Option Addr:=a.map (·.add k)
theorem Pu.indexAddrA {x y:Operand} {b off n:Nat} {k:IntKind} {i:Int} {t E:TypeId} {z:Value} {sz by_:Nat} (hx:ev e x=some (.pointer (some ⟨b,off,none⟩))) (hy:ev e y=some (.int k i))
  [HU c.P t (.array n E)] [HI c.P E z sz by_] (h0:0≤i∧i < n):Pu c H e ⟨dst,.indexAddr t x y,ty,pos,aft,g⟩ (.pointer (some ⟨b,off+i.toNat*sz,none⟩)):=fun w a _ ha=>by
 simp [execOp,ha.ev hx,ha.ev hy,Instr.indexAt,asIntOf,Z9 (d:=.array n E),ZO (z:=z) (sz:=sz) (b:=by_),h0,Instr.sureAddr,Zo]
class Rd (F:World) (M:List Nat) (H:List Res) (a:Option Addr) (vs:outParam (List Value)):Prop where
 h:∀ w,St F M w H→∀ j u,vs[j]?=some u→∃ ad,a=some ad∧w.cell? (ad.add j)=some u
instance Rd.tl {F:World} {M:List Nat} {H:List Res} {a:Option Addr} {vs:List Value} {r:Res} [h:Rd F M H a vs]:Rd F M (r::H) a vs:=⟨fun w hw=>h.h w hw.tail⟩
instance Rd.row {F:World} {M:List Nat} {H:List Res} {a:Option Addr} {vs:List Value} {cp n sz:Nat} {E:TypeId}:Rd F M (.row a cp E sz n vs::H) a vs:=⟨fun w hw j u hu=>by
 have hr:w.ownsRow 0 E sz (.slice a n cp) n vs:=hw.res _ (List.mem_cons_self ..)
 have hlen:=(List.getElem?_eq_some_iff.1 hu).1
 cases a with
 | none =>
  obtain ⟨h1,h2⟩:=hr
  rcases h2 with ⟨_,h2⟩|⟨g,cap,cur,hv,_⟩
  ·subst h2;simp at h1;subst h1;simp at hlen
  ·simp at hv
 | some ad =>
  refine ⟨ad,rfl,?_⟩
  have hz:ad=⟨ad.block,0,none⟩:=by
   rcases hr.2 with ⟨hv,_⟩|⟨g,cap,cur,hv,_⟩
   ·simp at hv
   ·simp only [Value.slice.injEq,Option.some.injEq] at hv
    rw [hv.1]
  have:=hr.cells (g:=ad.block) rfl j u hu
  rw [hz]
  exact this⟩
theorem Pu.ix {x y:Operand} {ad:Option Addr} {n cp:Nat} {k:IntKind} {i:Int} {t E:TypeId} {z:Value} {sz by_:Nat} {vs:List Value} (hx:ev e x=some (.slice ad n cp)) (hy:ev e y=some (.int k i))
  [HU c.P t (.slice E)] [HI c.P E z sz by_] [hr:Rd c.F c.M H ad vs] (h0:0≤i∧i < n) (hl:i.toNat*sz < vs.length):Pu c H e ⟨dst,.indexAddr t x y,ty,pos,aft,g⟩ (.pointer (eaddr ad (i.toNat*sz))):=fun w a hw ha=>by
 obtain ⟨q,rfl,-⟩:=hr.h w hw _ _ (List.getElem?_eq_getElem hl)
 simp [execOp,ha.ev hx,ha.ev hy,Instr.indexAt,asIntOf,Z9 (d:=.slice E),ZO (z:=z) (sz:=sz) (b:=by_),h0,eaddr]
theorem Pu.ix1 {x y:Operand} {ad:Option Addr} {n cp:Nat} {k:IntKind} {i:Int} {t E:TypeId} {z:Value} {by_:Nat} {vs:List Value} (hx:ev e x=some (.slice ad n cp)) (hy:ev e y=some (.int k i))
  [HU c.P t (.slice E)] [HI c.P E z 1 by_] [hr:Rd c.F c.M H ad vs] (h0:0≤i∧i < n) (hl:i.toNat < vs.length):Pu c H e ⟨dst,.indexAddr t x y,ty,pos,aft,g⟩ (.pointer (eaddr ad i.toNat)):=by
 have:=Pu.ix (c:=c) (H:=H) (e:=e) (dst:=dst) (ty:=ty) (pos:=pos) (aft:=aft) (g:=g) (t:=t) (E:=E) (z:=z) (sz:=1) (by_:=by_) (vs:=vs) hx hy h0 (by omega)
 rwa [Nat.mul_one] at this
theorem Pu.ixN {x y:Operand} {ad:Option Addr} {n cp:Nat} {k:IntKind} {i:Nat} {t E:TypeId} {z:Value} {by_:Nat} {vs:List Value} (hx:ev e x=some (.slice ad n cp)) (hy:ev e y=some (.int k (i:Int)))
  [HU c.P t (.slice E)] [HI c.P E z 1 by_] [hr:Rd c.F c.M H ad vs] (h0:i < n) (hl:i < vs.length):Pu c H e ⟨dst,.indexAddr t x y,ty,pos,aft,g⟩ (.pointer (eaddr ad i)) :=
 Pu.ix1 hx hy ⟨by omega,by omega⟩ (by simpa using hl)
class InB (H:List Res) (b:Nat) (vs:outParam (List Value)) (E:outParam TypeId):Prop where
 h : .blk b vs E∈H
instance InB.hd {H:List Res} {b:Nat} {vs:List Value} {E:TypeId}:InB (.blk b vs E::H) b vs E:=⟨List.mem_cons_self ..⟩
instance InB.tl {H:List Res} {b:Nat} {vs:List Value} {E:TypeId} {r:Res} [h:InB H b vs E]:InB (r::H) b vs E:=⟨List.mem_cons_of_mem _ h.h⟩
theorem Z5r {P:Program} {t:TypeId} {d:TypeDesc} [HU P t d] (hd:plain d=true) {ad:Addr} {v:Value} {w:World} (h:w.cell? ad=some v):(loadVar t ad).run P w=.ok v w:=by
 simp [loadVar,Z2E (d:=d),hd,load,Sem.run,h]
theorem Z5q {P:Program} {t:TypeId} {d:TypeDesc} {z:Value} {by_:Nat} {vs:List Value} {n:Nat} [HU P t d] [HI P t z n by_] (hn:vs.length=n) (hd:plain d=false) {ad:Addr} {w:World}
  (h:∀ j v,vs[j]?=some v→w.cell? (ad.add j)=some v):(loadVar t ad).run P w=.ok (.agg ⟨vs⟩) w:=by
 simp [loadVar,Z2E (d:=d),hd,ZO (z:=z) (sz:=n) (b:=by_),←hn,run_loadCells_list w ad vs h]
theorem Pu.load {x:Operand} {b off:Nat} {t:TypeId} {d:TypeDesc} {vs:List Value} {E:TypeId} {v:Value} (hx:ev e x=some (.pointer (some ⟨b,off,none⟩))) [HU c.P t d] (hd:plain d=true) [hb:InB H b vs E]
  (hv:vs[off]?=some v):Pu c H e ⟨dst,.load t x,ty,pos,aft,g⟩ v:=fun w a hw ha=>by
 simp [execOp,ha.ev hx,Instr.loadAt,Instr.sureAddr,Z5r (P:=c.P) hd ((hw.cell hb.h off).trans hv)]
theorem Pu.loadN {x:Operand} {b off:Nat} {t:TypeId} {d:TypeDesc} {z:Value} {by_ n:Nat} {vs:List Value} {E:TypeId} (hx:ev e x=some (.pointer (some ⟨b,off,none⟩))) [HU c.P t d] (hd:plain d=false) [hb:InB H b vs E]
  [HI c.P t z n by_] (hn:((vs.drop off).take n).length=n):Pu c H e ⟨dst,.load t x,ty,pos,aft,g⟩ (.agg ⟨(vs.drop off).take n⟩):=fun w a hw ha=>by
 have:=Z5q (P:=c.P) (t:=t) (d:=d) (z:=z) (by_:=by_) (vs:=(vs.drop off).take n) hn hd (ad:=⟨b,off,none⟩) (w:=w) (fun j v hj=>by
  rw [Zo,hw.cell hb.h]
  have hjn:j < n:=by have:=(List.getElem?_eq_some_iff.1 hj).1;omega
  rw [List.getElem?_take_of_lt hjn,List.getElem?_drop] at hj
  exact hj)
 simp [execOp,ha.ev hx,Instr.loadAt,Instr.sureAddr,this]
theorem Pu.loadE {x:Operand} {ad:Option Addr} {j:Nat} {t:TypeId} {d:TypeDesc} {vs:List Value} {v:Value} (hx:ev e x=some (.pointer (eaddr ad j))) [HU c.P t d] (hd:plain d=true) [hr:Rd c.F c.M H ad vs]
  (hv:vs[j]?=some v):Pu c H e ⟨dst,.load t x,ty,pos,aft,g⟩ v:=fun w a hw ha=>by
 obtain ⟨q,rfl,hq⟩:=hr.h w hw j v hv
 simp [execOp,ha.ev hx,Instr.loadAt,eaddr,Instr.sureAddr,Z5r (P:=c.P) hd hq]

/- Bytes and ints as elements. -/
abbrev bV (b:UInt8):Value:=.int .u8 b.toNat
abbrev iV (n:Int):Value:=.int .i64 n
theorem getB {xs:List UInt8} {j:Nat} (h:j < xs.length):(xs.map bV)[j]?=some (.int .u8 ((xs.getD j 0).toNat)):=by
 simp [List.getD,h]
theorem getI {xs:List Int} {j:Nat} (h:j < xs.length):(xs.map iV)[j]?=some (.int .i64 (xs.getD j 0)):=by
 simp [List.getD,h]
theorem Pu.loadB {x:Operand} {ad:Option Addr} {j:Nat} {t:TypeId} {xs:List UInt8} (hx:ev e x=some (.pointer (eaddr ad j))) [HU c.P t (.int .u8)] [hr:Rd c.F c.M H ad (xs.map bV)]
  (hj:j < xs.length):Pu c H e ⟨dst,.load t x,ty,pos,aft,g⟩ (.int .u8 ((xs.getD j 0).toNat)):=Pu.loadE (d:=.int .u8) hx rfl (getB hj)
theorem Pu.loadI {x:Operand} {ad:Option Addr} {j:Nat} {t:TypeId} {xs:List Int} (hx:ev e x=some (.pointer (eaddr ad j))) [HU c.P t (.int .i64)] [hr:Rd c.F c.M H ad (xs.map iV)]
  (hj:j < xs.length):Pu c H e ⟨dst,.load t x,ty,pos,aft,g⟩ (.int .i64 (xs.getD j 0)):=Pu.loadE (d:=.int .i64) hx rfl (getI hj)

/- Operations that make or write memory. -/
theorem Ef.alloc {E:TypeId} {z:Value} {sz by_:Nat} [HI c.P E z sz by_]:Ef c H e ⟨dst,.alloc E,ty,pos,aft,g⟩ (fun v H'=>∃ b,v=.pointer (some ⟨b,0,none⟩)∧H'=.blk b z.cells.toList E::H):=fun w a hw ha =>
 ⟨_,_,_,.inl (by simp [execOp,Instr.alloc,Z1o (z:=z) (sz:=sz) (b:=by_),newVar,newRow,newObj,Sem.run]),hw.alloc z.cells.toList E,_,rfl,rfl⟩
theorem Ef.box {E:TypeId} {x:Operand} {v:Value} (hx:ev e x=some v):Ef c H e ⟨dst,.box E x,ty,pos,aft,g⟩ (fun u H'=>∃ b,u=.pointer (some ⟨b,0,none⟩)∧H'=.blk b v.cells.toList E::H):=fun w a hw ha =>
 ⟨_,_,_,.inl (by simp [execOp,ha.ev hx,Instr.box,newVar,newRow,newObj,Sem.run]),hw.alloc v.cells.toList E,_,rfl,rfl⟩
end

/- Resources in their places: a resource in a list, and the list with another one in its place. -/
class AtB (H:List Res) (b:Nat) (vs:outParam (List Value)) (E:outParam TypeId) (f:outParam (Res→List Res)):Prop where
 h:∃ rest,H.Perm (.blk b vs E::rest)∧∀ r,(r::rest).Perm (f r)
instance AtB.hd {H:List Res} {b:Nat} {vs:List Value} {E:TypeId}:AtB (.blk b vs E::H) b vs E (fun r=>r::H):=⟨H,.refl _,fun _=>.refl _⟩
instance AtB.tl {H:List Res} {b:Nat} {vs:List Value} {E:TypeId} {q:Res} {f:Res→List Res} [h:AtB H b vs E f]:AtB (q::H) b vs E (fun r=>q::f r):=by
 obtain ⟨rest,h1,h2⟩:=h.h
 exact ⟨q::rest,(h1.cons q).trans (.swap _ _ _),fun r=>(List.Perm.swap q r rest).trans ((h2 r).cons q)⟩
class AtR (H:List Res) (a:Option Addr) (cp:outParam Nat) (E:outParam TypeId) (sz n:outParam Nat) (xs:outParam (List Value)) (f:outParam (Res→List Res)):Prop where
 h:∃ rest,H.Perm (.row a cp E sz n xs::rest)∧∀ r,(r::rest).Perm (f r)
instance AtR.hd {H:List Res} {a:Option Addr} {cp:Nat} {E:TypeId} {sz n:Nat} {xs:List Value}:AtR (.row a cp E sz n xs::H) a cp E sz n xs (fun r=>r::H):=⟨H,.refl _,fun _=>.refl _⟩
instance AtR.tl {H:List Res} {a:Option Addr} {cp:Nat} {E:TypeId} {sz n:Nat} {xs:List Value} {q:Res} {f:Res→List Res} [h:AtR H a cp E sz n xs f]:AtR (q::H) a cp E sz n xs (fun r=>q::f r):=by
 obtain ⟨rest,h1,h2⟩:=h.h
 exact ⟨q::rest,(h1.cons q).trans (.swap _ _ _),fun r=>(List.Perm.swap q r rest).trans ((h2 r).cons q)⟩

section
variable {c:Ctx} {ds:List Deferred} {H:List Res} {ops:Array Oper} {l:List Oper} {κ:List Res→Env→Prop} {dr:Bool} {e:Env} {dst:Option Tmp} {ty:TypeId} {pos:String} {aft:Array Edge}
theorem St.unfrozen {F:World} {M:List Nat} {w:World} {b:Nat} {vs:List Value} {E:TypeId} (h:St F M w H) (hm : .blk b vs E∈H) (i:Nat):w.frozen? ⟨b,i,none⟩=false:=by
 have hb:w.heap[b]?=some (.cells ⟨vs⟩ E (0,0)):=h.res _ hm
 simp [World.frozen?,hb]
theorem Z4L {P:Program} {w:World} {ad:Addr} {u v:Value} (h:w.cell? ad=some u) (hf:w.frozen? ad=false) (hv:v.oneCell'=true):(store ad v).run P w=.ok () (w.setCell ad v):=by
 cases v<;>simp_all [store,Sem.run,Value.oneCell']
theorem Z5M {P:Program} {t:TypeId} {z:Value} {by_:Nat} [HI P t z 1 by_] {ad:Addr} {u v:Value} {w:World} (h:w.cell? ad=some u) (hf:w.frozen? ad=false) (hv:v.oneCell'=true) :
  (storeVar t ad v).run P w=.ok () (w.setCell ad v):=by
 have hc:v.cells=#[v]:=by cases v<;>simp_all [Value.cells,Value.oneCell']
 have ha:ad.add 0=ad:=by simp [Addr.add]
 simp [storeVar,hc,ZO (z:=z) (sz:=1) (b:=by_),storeCells,ha,Z4L h hf hv]
theorem Sr.store {x y:Operand} {b i:Nat} {t:TypeId} {z:Value} {by_:Nat} {vs:List Value} {E:TypeId} {v:Value} {f:Res→List Res} (hx:ev e x=some (.pointer (some ⟨b,i,none⟩))) (hy:ev e y=some v)
  [HI c.P t z 1 by_] [hb:AtB H b vs E f] (hi:i < vs.length) (hv:v.oneCell'=true) (hk:Sr (.eff dr) c ds (f (.blk b (vs.set i v) E)) ops l κ e) :
  Sr (.eff dr) c ds H ops (⟨none,.store t x y,ty,pos,aft,none⟩::l) κ e :=
 Sr.eff (K:=fun u H'=>H'=f (.blk b (vs.set i v) E)) (fun w a hw ha=>by
  obtain ⟨rest,h1,h2⟩:=hb.h
  have hw':=hw.perm h1
  have hcell:=hw'.cell (List.mem_cons_self ..) i
  rw [List.getElem?_eq_getElem hi] at hcell
  have hst:=Z5M (P:=c.P) (t:=t) (z:=z) (by_:=by_) hcell (hw'.unfrozen (List.mem_cons_self ..) i) hv
  exact ⟨undef,_,_,.inr ⟨by simp [execOp,ha.ev hx,ha.ev hy,Instr.storeAt,Instr.sureAddr,hst],rfl⟩,(hw'.setCell i v).perm (h2 _),rfl⟩) rfl rfl (fun u H' hH=>by subst hH;exact hk)
theorem Z3L {w:World} {E:TypeId} {sz n:Nat} {a:Option Addr} {cp:Nat} {xs:List Value} (h:w.ownsRow 0 E sz (.slice a n cp) n xs) {q:Addr} (ha:a=some q) {j:Nat} (hj:j < xs.length) (v:Value) :
  (∃ u,w.cell? (q.add j)=some u)∧w.frozen? (q.add j)=false∧(w.setCell (q.add j) v).ownsRow 0 E sz (.slice a n cp) n (xs.set j v):=by
 subst ha
 obtain ⟨h1,h2⟩:=h
 rcases h2 with ⟨hv,_⟩|⟨g,cap,cur,hv,h3,hh,h4,h5,h6,h7⟩
 ·simp at hv
 ·simp only [Value.slice.injEq,Option.some.injEq] at hv
  obtain ⟨rfl,-,rfl⟩:=hv
  have hle:n*sz≤cur.size:=by rw [h6];exact Nat.mul_le_mul_right _ h4
  have hjc:j < cur.size:=by omega
  rw [Zo,Nat.zero_add]
  refine ⟨⟨cur[j],by simp [World.cell?,hh,hjc]⟩,by simp [World.frozen?,hh],by simpa using h1,.inr ⟨g,cp,cur.set j v hjc,rfl,h3,?_,h4,h5,by simpa using h6,?_⟩⟩
  ·simp only [World.setCell,Array.getElem?_modify,if_pos,hh,Option.map_some]
   simp [Array.setIfInBounds,hjc]
  ·rw [←h7,Array.toList_set,List.take_set]
theorem Sr.storeE {x y:Operand} {ad:Option Addr} {j:Nat} {t:TypeId} {z:Value} {by_ cp sz n:Nat} {xs:List Value} {E:TypeId} {v:Value} {f:Res→List Res} (hx:ev e x=some (.pointer (eaddr ad j))) (hy:ev e y=some v)
  [HI c.P t z 1 by_] [hb:AtR H ad cp E sz n xs f] (hi:j < xs.length) (hv:v.oneCell'=true) (hk:Sr (.eff dr) c ds (f (.row ad cp E sz n (xs.set j v))) ops l κ e) :
  Sr (.eff dr) c ds H ops (⟨none,.store t x y,ty,pos,aft,none⟩::l) κ e :=
 Sr.eff (K:=fun u H'=>H'=f (.row ad cp E sz n (xs.set j v))) (fun w a hw ha=>by
  obtain ⟨rest,h1,h2⟩:=hb.h
  have hw':=hw.perm h1
  have hrow:w.ownsRow 0 E sz (.slice ad n cp) n xs:=hw'.res _ (List.mem_cons_self ..)
  cases ad with
  | none =>
   rcases hrow.2 with ⟨_,h0⟩|⟨g,cap,cur,h0,_⟩
   ·have:=hrow.1;subst h0;simp at this;subst this;simp at hi
   ·simp at h0
  | some q =>
   obtain ⟨⟨u,hu⟩,hfz,hown⟩:=Z3L hrow rfl hi v
   have hst:=Z5M (P:=c.P) (t:=t) (z:=z) (by_:=by_) hu hfz hv
   have hqb:(q.add j).block=q.block:=by unfold Addr.add;split<;>rfl
   refine ⟨undef,_,_,.inr ⟨by simp [execOp,ha.ev hx,ha.ev hy,Instr.storeAt,eaddr,Instr.sureAddr,hst],rfl⟩,St.perm (St.turn (w':=w.setCell (q.add j) v) hw' (r':=.row (some q) cp E sz n (xs.set j v)) rfl rfl rfl (by simp) (fun i _ hi'=>Below.heap_setCell _ _ _ _ (by rw [hqb];simpa [Res.foot] using hi')) hown (fun b hb=>.inl hb) (by simp [Res.foot])) (h2 _),rfl⟩) rfl rfl (fun u H' hH=>by subst hH;exact hk)
def evps (e:Env):List (Nat × Operand)→Option (List (Nat × Value))
 | []=>some []
 | (i,x)::r=>match ev e x with
  | some v=>match evps e r with
   | some vs=>some ((i,v)::vs)
   | none=>none
  | none=>none
theorem Ok.evps {n:Nat} {a:Act} (h:Ok n e a):∀ {ps:List (Nat × Operand)} {us:List (Nat × Value)},evps e ps=some us→ps.map (fun p=>(p.1,a.eval p.2))=us
 | [],us,hv=>by simp only [Sg.evps,Option.some.injEq] at hv;simp [←hv]
 | (i,x)::r,us,hv=>by
  simp only [Sg.evps] at hv
  split at hv
  ·rename_i v h1
   split at hv
   ·rename_i vs h2
    simp only [Option.some.injEq] at hv
    rw [←hv,List.map_cons,h.ev h1,Ok.evps h h2]
   ·cases hv
  ·cases hv
class HPl (P:Program) (t:TypeId) (pl:outParam (List (Nat × Nat))):Prop where
 h:∀ fs,P.underlying t=some (.struct fs)→∀ w,(fs.mapM fun f=>do pure (f.offset,←Go.sizeOf f.type):Sem (Array (Nat × Nat))).run P w=.ok ⟨pl⟩ w
theorem HPl.of {P:Program} {t:TypeId} {pl:List (Nat × Nat)} {fs:Array Field} (hu:P.underlying t=some (.struct fs)) (h:fs.toList.map (fun f=>(f.offset,(P.info? f.type).map (·.size)))=pl.map (fun p=>(p.1,some p.2))):HPl P t pl:=⟨by
 intro fs' hfs w
 obtain rfl:fs=fs':=by rw [hu] at hfs;simpa using hfs
 have key:∀ (l:List Field) (pl:List (Nat × Nat)),l.map (fun f=>(f.offset,(P.info? f.type).map (·.size)))=pl.map (fun p=>(p.1,some p.2)) →
   (l.mapM fun f=>do pure (f.offset,←Go.sizeOf f.type):Sem (List (Nat × Nat))).run P w=.ok pl w:=by
  intro l
  induction l with
  | nil=>intro pl h;cases pl with
   | nil=>simp
   | cons p r=>simp at h
  | cons f r ih =>
   intro pl h
   cases pl with
   | nil=>simp at h
   | cons p q =>
    simp only [List.map_cons,List.cons.injEq,Prod.mk.injEq] at h
    obtain ⟨⟨h1,h2⟩,h3⟩:=h
    obtain ⟨i,hi,hs⟩:=Option.map_eq_some_iff.1 h2
    have hsz:(Go.sizeOf f.type).run P w=.ok p.2 w:=by simp [Go.sizeOf,typeInfo,program,Sem.run,hi,hs]
    have hq:=ih q h3
    simp only [List.mapM_cons,Sem.run_bind,hsz,Result.andThen_ok,Sem.run_pure,hq,h1]
 have:=key fs.toList pl h
 obtain ⟨fl⟩:=fs
 rw [List.mapM_toArray,Sem.run_map,this]
 rfl⟩
theorem Pu.build {ps:List (Nat × Operand)} {us:List (Nat × Value)} {t:TypeId} {fs:Array Field} {z:Value} {sz by_:Nat} {pl:List (Nat × Nat)} {cs:Array Value} {g:Option (Nat × Bool)} (hps:evps e ps=some us) [HU c.P t (.struct fs)] [HI c.P t z sz by_] [hpl:HPl c.P t pl]
  (hf:Instr.fill (pl[·]?) z.cells us=some cs):Pu c H e ⟨dst,.build t ps.toArray,ty,pos,aft,g⟩ (.agg cs):=fun w a _ ha=>by
 have h1:=ha.evps hps
 have h2:=hpl.h fs (HU.h (P:=c.P) (t:=t)) w
 have h3:(ps.toArray.map fun x=>(x.1,a.eval x.2))=us.toArray:=by rw [←h1];simp
 simp only [execOp,h3,Instr.build,Sem.run_bind,Z1o (z:=z) (sz:=sz) (b:=by_),Result.andThen_ok,Z9 (d:=.struct fs),h2]
 have h4:(fun x:Nat=>(({ toList:=pl }:Array (Nat × Nat)))[x]?)=(fun x:Nat=>pl[x]?):=by funext x;simp
 simp [hf]
theorem Pu.buildA {ps:List (Nat × Operand)} {us:List (Nat × Value)} {t E:TypeId} {z zE:Value} {n sz by_ szE byE:Nat} {cs:Array Value} {g:Option (Nat × Bool)} (hps:evps e ps=some us) [HU c.P t (.array n E)] [HI c.P t z sz by_] [HI c.P E zE szE byE]
  (hf:Instr.fill (fun i=>some (i*szE,szE)) z.cells us=some cs):Pu c H e ⟨dst,.build t ps.toArray,ty,pos,aft,g⟩ (.agg cs):=fun w a _ ha=>by
 have h1:=ha.evps hps
 have h3:(ps.toArray.map fun x=>(x.1,a.eval x.2))=us.toArray:=by rw [←h1];simp
 simp [execOp,h3,Instr.build,Z1o (z:=z) (sz:=sz) (b:=by_),Z9 (d:=.array n E),ZO (z:=zE) (sz:=szE) (b:=byE),hf]
theorem Sr.buildSlice {d:Tmp} {ps:List (Nat × Operand)} {us:List (Nat × Value)} {t E:TypeId} {z:Value} {sz by_ n:Nat} {cs:Array Value} (hps:evps e ps=some us) [HU c.P t (.slice E)] [HI c.P E z sz by_]
  (hn:Nat.ble (n*sz) 16777216=true) (hd:Nat.blt d c.fn.ntmps=true)
  (hf:Instr.fill (fun i=>some (i*sz,sz)) ((Array.range (n*sz)).map (z.cells[· % z.cells.size]!)) us=some cs) (hk:∀ b,Sr (.eff dr) c ds (.blk b cs.toList E::H) ops l κ ((d,(.slice (some ⟨b,0,none⟩) n n))::e)) :
  Sr (.eff dr) c ds H ops (⟨some d,.buildSlice t n ps.toArray,ty,pos,aft,none⟩::l) κ e :=
 Sr.eff (K:=fun v H'=>∃ b,v=.slice (some ⟨b,0,none⟩) n n∧H'=.blk b cs.toList E::H) (fun w a hw ha=>by
  have h1:=ha.evps hps
  have h3:(ps.toArray.map fun x=>(x.1,a.eval x.2))=us.toArray:=by rw [←h1];simp
  have hn':¬n*sz > 2 ^ 24:=by have:=Nat.le_of_ble_eq_true hn;omega
  refine ⟨_,_,_,.inl ?_,hw.alloc cs.toList E,_,rfl,rfl⟩
  by_cases h0:n*sz=0
  ·have hf':Instr.fill (fun i=>some (i*sz,sz)) (Array.map (fun x=>(#[]:Array Value)[x % 0]!) (Array.range 0)) us=some cs:=by
    have h00:Array.range 0=#[]:=rfl
    rw [←hf,h0]
    simp [h00]
   simp only [execOp,h3,Instr.buildSlice,Sem.run_bind,Z9 (d:=.slice E),ZO (z:=z) (sz:=sz) (b:=by_),Result.andThen_ok,h0]
   simp at hf' ⊢
   simp [hf',newRow,newObj,Sem.run]
  ·simp [execOp,h3,Instr.buildSlice,Z9 (d:=.slice E),ZO (z:=z) (sz:=sz) (b:=by_),hn',h0,Z1o (z:=z) (sz:=sz) (b:=by_),hf,newRow,newObj,Sem.run]) hd rfl
  (fun v H' ⟨b,hv,hH⟩=>by subst hv hH;exact hk b)
theorem Sr.alloc {d:Tmp} {E:TypeId} {z:Value} {sz by_:Nat} [HI c.P E z sz by_] (hd:Nat.blt d c.fn.ntmps=true) (hk:∀ b,Sr (.eff dr) c ds (.blk b z.cells.toList E::H) ops l κ ((d,(.pointer (some ⟨b,0,none⟩)))::e)) :
  Sr (.eff dr) c ds H ops (⟨some d,.alloc E,ty,pos,aft,none⟩::l) κ e:=Sr.eff (Ef.alloc (z:=z) (sz:=sz) (by_:=by_)) hd rfl (fun v H' ⟨b,hv,hH⟩=>by subst hv hH;exact hk b)
theorem Sr.box {d:Tmp} {E:TypeId} {x:Operand} {v:Value} (hx:ev e x=some v) (hd:Nat.blt d c.fn.ntmps=true) (hk:∀ b,Sr (.eff dr) c ds (.blk b v.cells.toList E::H) ops l κ ((d,(.pointer (some ⟨b,0,none⟩)))::e)) :
  Sr (.eff dr) c ds H ops (⟨some d,.box E x,ty,pos,aft,none⟩::l) κ e:=Sr.eff (Ef.box hx) hd rfl (fun v H' ⟨b,hv,hH⟩=>by subst hv hH;exact hk b)
theorem Z6G {P:Program} (w:World) (t ty e:TypeId) (i:TypeInfo) (z:Value) (size bytes:Nat) (ht:P.underlying t=some (.slice e)) (hi:P.info? e=some i) (hz:i.zero=some z)
  (hsize:i.size=size) (hby:i.bytes=bytes) (v:Value) (n:Nat) (xs:List Value) (hown:w.ownsRow 0 e size v n xs)
  (a:Addr) (m c:Nat) (news:List Value) (hl:news.length=m*size) (hnews:∀ j u,news[j]?=some u→w.cell? (a.add j)=some u) (h1:∀ u∈news,u.oneCell'=true)
  (h63:n+m≤maxLen) (hbytes:(n+m)*bytes≤140737488355328) {v':Value} {w':World} (hrun:(Builtin.append_ #[t,t] ty #[v,.slice (some a) m c]).run P w=.ok v' w') :
  v'.ownBlock=v.ownBlock∨v'.ownBlock=some w.heap.size:=by
 subst hsize hby
 have hsmall:n+m≤9223372036854775807:=by simp only [maxLen] at h63;omega
 rcases hown.2 with ⟨rfl,rfl⟩|⟨g,cap,cur,rfl,hbg,hg,hnc,hcm,hcs,htake⟩
 ·by_cases hm:m=0
  ·subst hm
   have hn:news=[]:=List.eq_nil_of_length_eq_zero (by simpa using hl)
   subst hn
   have:(Builtin.append_ #[t,t] ty #[.slice none 0 0,.slice (some a) 0 c]).run P w=.ok (.slice none 0 0) w:=by
    simp [Builtin.append_,run_underlying ht,Go.sizeOf,typeInfo,hi,Builtin.lenOf,Builtin.firstCells,loadCells,loadCellsFrom]
   rw [this] at hrun
   simp only [Result.ok.injEq] at hrun
   left
   rw [←hrun.1]
  ·have hr:=run_append_nil (P:=P) w t ty e i z ht hi hz a m c news hl hnews (by omega) (by omega) (by have hb:=hbytes;simp only [Nat.zero_add] at hb;omega)
   rw [hr] at hrun
   simp only [Result.ok.injEq] at hrun
   right
   rw [←hrun.1]
   rfl
 ·by_cases hroom:n+m≤cap
  ·have hfit:n*i.size+news.length≤cur.size:=by rw [hl,hcs,←Nat.add_mul];exact Nat.mul_le_mul_right _ hroom
   have hr:=run_append_room (P:=P) w t ty e i ht hi g n cap cur hg a m c news hl hnews h1 hroom hfit
   rw [hr] at hrun
   simp only [Result.ok.injEq] at hrun
   left
   rw [←hrun.1]
   rfl
  ·have holds:∀ j u,xs[j]?=some u→w.cell? ((⟨g,0,none⟩:Addr).add j)=some u:=hown.cells (g:=g) rfl
   have hr:=run_append_grow (P:=P) w t ty e i z ht hi hz ⟨g,0,none⟩ n cap xs hown.1 holds a m c news hl hnews (by omega) (by omega) (growslice_fits (by omega) hbytes)
   rw [hr] at hrun
   simp only [Result.ok.injEq] at hrun
   right
   rw [←hrun.1]
   rfl
theorem St.append {c:Ctx} {H:List Res} {w:World} {ad:Option Addr} {n cp sz m t E:Nat} {xs us:List Value} {z:Value} {by_:Nat} {src:Addr} {scp:Nat} {ty:TypeId} (hw:St c.F c.M w (.row ad cp E sz n xs::H))
  [HU c.P t (.slice E)] [HI c.P E z sz by_] (hus:us.length=m*sz) (hnews:∀ j u,us[j]?=some u→w.cell? (src.add j)=some u) (hone:us.all (·.oneCell')=true) (hzs:z.cells.size=sz) (hsz:0 < sz)
  (hroom:(n+m)*by_≤140737488355328∧n+m≤140737488355328) :
  ∃ ad' cp' w',(Builtin.append_ #[t,t] ty #[.slice ad n cp,.slice (some src) m scp]).run c.P w=.ok (.slice ad' (n+m) cp') w'∧St c.F c.M w' (.row ad' cp' E sz (n+m) (xs++us)::H):=by
 obtain ⟨i,hi1,hi2,hi3,hi4⟩:=HI.h (P:=c.P) (t:=E) (z:=z) (sz:=sz) (by_:=by_)
 have hrow:w.ownsRow 0 E sz (.slice ad n cp) n xs:=hw.res _ (List.mem_cons_self ..)
 have hmax:n+m≤maxLen:=by unfold maxLen;omega
 have hone':∀ u∈us,u.oneCell'=true:=fun u hu=>by simpa using List.all_eq_true.1 hone u hu
 obtain ⟨v',w',hrun,hown,hg,-⟩:=run_append_own (P:=c.P) w 0 t ty E i z sz by_ (HU.h (P:=c.P) (t:=t)) hi1 hi2 hi3 hi4 hzs hsz _ n xs hrow src m scp us hus hnews hone' hmax hroom.1 (Nat.zero_le _)
 have hwhere:=Z6G (P:=c.P) w t ty E i z sz by_ (HU.h (P:=c.P) (t:=t)) hi1 hi2 hi3 hi4 _ n xs hrow src m scp us hus hnews hone' hmax hroom.1 hrun
 obtain ⟨ad',cp',hv'⟩:∃ ad' cp',v'=.slice ad' (n+m) cp':=by
  rcases hown.2 with ⟨hv,h0⟩|⟨g,cap,cur,hv,_⟩
  ·exact ⟨none,0,by rw [hv,h0]⟩
  ·exact ⟨_,_,hv⟩
 subst hv'
 refine ⟨ad',cp',w',hrun,hw.turn (r':=.row ad' cp' E sz (n+m) (xs++us)) hg.os hg.tape hg.output hg.size (fun j hj hjr=>hg.block j hj fun hjo=>hjr ?_) hown (fun q hq=>?_) (by cases ad'<;>simp [Res.foot])⟩
 ·cases ad with
  | none=>simp [Value.ownBlock] at hjo
  | some q=>simp only [Value.ownBlock,Option.some.injEq] at hjo;simp [Res.foot,hjo]
 ·cases ad' with
  | none=>simp [Res.foot] at hq
  | some p =>
   simp only [Res.foot,List.mem_singleton] at hq
   subst hq
   rcases hwhere with hwh|hwh
   ·left
    cases ad with
    | none=>simp [Value.ownBlock] at hwh
    | some q=>simp only [Value.ownBlock,Option.some.injEq] at hwh;simp [Res.foot,hwh]
   ·right
    simp only [Value.ownBlock,Option.some.injEq] at hwh
    omega
theorem Sr.append {d:Tmp} {x y:Operand} {ad:Option Addr} {n cp sz m b t E Eb:Nat} {xs us:List Value} {z:Value} {by_:Nat} {f:Res→List Res} (hx:ev e x=some (.slice ad n cp)) (hy:ev e y=some (.slice (some ⟨b,0,none⟩) m m))
  [HU c.P t (.slice E)] [HI c.P E z sz by_] [hr:AtR H ad cp E sz n xs f] (hus:us.length=m*sz) (hone:us.all (·.oneCell')=true) (hzs:z.cells.size=sz) (hsz:0 < sz) (hroom:(n+m)*by_≤140737488355328∧n+m≤140737488355328) (hd:Nat.blt d c.fn.ntmps=true)
  (hk:∀ ad' cp',Sr (.eff dr) c ds (f (.row ad' cp' E sz (n+m) (xs++us))) ops l κ ((d,(.slice ad' (n+m) cp'))::e)) :
  Sr (.eff dr) c ds (.blk b us Eb::H) ops (⟨some d,.call ⟨.builtin .append,#[x,y],#[t,t]⟩,ty,pos,aft,none⟩::l) κ e :=
 Sr.eff (K:=fun v H'=>∃ ad' cp',v=.slice ad' (n+m) cp'∧H'=f (.row ad' cp' E sz (n+m) (xs++us))) (fun w a hw ha=>by
  obtain ⟨rest,h1,h2⟩:=hr.h
  obtain ⟨ad',cp',w',hrun,hst⟩:=St.append (c:=c) (t:=t) (z:=z) (sz:=sz) (by_:=by_) (us:=us) (src:=⟨b,0,none⟩) (scp:=m) (ty:=ty) (hw.tail.perm h1) hus (fun j u hj=>by
   rw [Zo,Nat.zero_add,hw.cell (List.mem_cons_self ..)]
   exact hj) hone hzs hsz hroom
  exact ⟨_,w',_,.inl (by simp [execOp,ha.ev hx,ha.ev hy,resolve,invoke,builtin,hrun]),hst.perm (h2 _),_,_,rfl,rfl⟩) hd rfl
  (fun v H' ⟨ad',cp',hv,hH⟩=>by subst hv hH;exact hk ad' cp')
theorem Sr.appendR {d:Tmp} {x y:Operand} {ad sad:Option Addr} {n cp sz m scp t E:Nat} {xs us:List Value} {z:Value} {by_:Nat} {f:Res→List Res} (hx:ev e x=some (.slice ad n cp)) (hy:ev e y=some (.slice sad m scp))
  [HU c.P t (.slice E)] [HI c.P E z sz by_] [hr:AtR H ad cp E sz n xs f] [hs:Rd c.F c.M H sad us] (hsn:sad≠none) (hus:us.length=m*sz) (hone:us.all (·.oneCell')=true) (hzs:z.cells.size=sz) (hsz:0 < sz) (hroom:(n+m)*by_≤140737488355328∧n+m≤140737488355328) (hd:Nat.blt d c.fn.ntmps=true)
  (hk:∀ ad' cp',Sr (.eff dr) c ds (f (.row ad' cp' E sz (n+m) (xs++us))) ops l κ ((d,(.slice ad' (n+m) cp'))::e)) :
  Sr (.eff dr) c ds H ops (⟨some d,.call ⟨.builtin .append,#[x,y],#[t,t]⟩,ty,pos,aft,none⟩::l) κ e :=
 Sr.eff (K:=fun v H'=>∃ ad' cp',v=.slice ad' (n+m) cp'∧H'=f (.row ad' cp' E sz (n+m) (xs++us))) (fun w a hw ha=>by
  obtain ⟨rest,h1,h2⟩:=hr.h
  obtain ⟨src,rfl⟩:∃ src,sad=some src:=by cases sad with
   | none=>exact absurd rfl hsn
   | some q=>exact ⟨q,rfl⟩
  obtain ⟨ad',cp',w',hrun,hst⟩:=St.append (c:=c) (t:=t) (z:=z) (sz:=sz) (by_:=by_) (us:=us) (src:=src) (scp:=scp) (ty:=ty) (hw.perm h1) hus (fun j u hj=>by
   obtain ⟨q,hq,hc⟩:=hs.h w hw j u hj
   simp only [Option.some.injEq] at hq
   rw [hq]
   exact hc) hone hzs hsz hroom
  exact ⟨_,w',_,.inl (by simp [execOp,ha.ev hx,ha.ev hy,resolve,invoke,builtin,hrun]),hst.perm (h2 _),_,_,rfl,rfl⟩) hd rfl
  (fun v H' ⟨ad',cp',hv,hH⟩=>by subst hv hH;exact hk ad' cp')
theorem Z5a {P:Program} {t E ty:TypeId} {z:Value} {sz by_ n cp scp:Nat} {ad:Option Addr} [HU P t (.slice E)] [HI P E z sz by_] (hcap:n≤cp) (w:World) :
  (Builtin.append_ #[t,t] ty #[.slice ad n cp,.slice none 0 scp]).run P w=.ok (.slice ad n cp) w:=by
 obtain ⟨i,hi1,-,-,-⟩:=HI.h (P:=P) (t:=E) (z:=z) (sz:=sz) (by_:=by_)
 cases ad with
 | none=>simp [Builtin.append_,Z9 (d:=.slice E),Go.sizeOf,typeInfo,hi1,Builtin.lenOf,hcap,Builtin.firstCells]
 | some q=>simp [Builtin.append_,Z9 (d:=.slice E),Go.sizeOf,typeInfo,hi1,Builtin.lenOf,hcap,Builtin.firstCells,storeCells]
end


section
variable {c:Ctx} {ds:List Deferred} {H:List Res} {ops:Array Oper} {l:List Oper} {κ:List Res→Env→Prop} {dr:Bool} {e:Env} {dst:Option Tmp} {ty:TypeId} {pos:String} {aft:Array Edge} {g:Option (Nat × Bool)}
def Z4R:TypeDesc→Bool
 | .interface _=>false
 | _=>true
theorem Pu.makeI {x:Operand} {v:Value} {t:TypeId} {dd:TypeDesc} (hx:ev e x=some v) [HU c.P t dd] (hd:Z4R dd=true):Pu c H e ⟨dst,.makeInterface t x,ty,pos,aft,g⟩ (.iface t v):=fun w a _ ha=>by
 simp only [execOp,ha.ev hx,Instr.makeInterface,Sem.run_bind,Z9 (d:=dd),Result.andThen_ok]
 cases dd<;>simp_all [Z4R]
theorem Sr.panic {x:Operand} {t:TypeId} {v:Value} (hx:ev e x=some (.iface t v)) (hk:D c dr ds H [⟨.iface t v,false,false⟩] e):Sr (.eff dr) c ds H ops (⟨none,.panic x,ty,pos,aft,none⟩::l) κ e:=Sr.halt (fun w a hw ha hds=>by
 simp only [Oper.wp,execOp,ha.ev hx,Instr.panic,goPanic]
 simp only [Sem.run_bind,Sem.run,Result.andThen_halt,Oper.upon]
 exact ⟨hds,hk w a hw ha hds⟩)
theorem Z2m {P:Program} {b:Nat} {E:TypeId}:∀ (us:List Value) (w:World) (vs:List Value) (i j:Nat),w.heap[b]?=some (.cells ⟨vs⟩ E (0,0))→i+j+us.length≤vs.length→us.all (·.oneCell')=true →
  ∃ w',(storeCells ⟨b,i,none⟩ us j).run P w=.ok () w'∧w'.heap[b]?=some (.cells ⟨vs.take (i+j)++us++vs.drop (i+j+us.length)⟩ E (0,0))∧w'.os=w.os∧w'.tape=w.tape∧w'.output=w.output∧w'.heap.size=w.heap.size∧∀ q,q≠b→w'.heap[q]?=w.heap[q]?
 | [],w,vs,i,j,hb,hl,_=>⟨w,by simp [storeCells],by simpa using hb,rfl,rfl,rfl,rfl,fun _ _=>rfl⟩
 | u::r,w,vs,i,j,hb,hl,ho=>by
  simp only [List.all_cons,Bool.and_eq_true] at ho
  simp only [List.length_cons] at hl
  have hlt:i+j < vs.length:=by omega
  have hcell:w.cell? ⟨b,i+j,none⟩=some vs[i+j]:=by simp [World.cell?,hb,hlt]
  have hfz:w.frozen? ⟨b,i+j,none⟩=false:=by simp [World.frozen?,hb]
  have hb1:(w.setCell ⟨b,i+j,none⟩ u).heap[b]?=some (.cells ⟨vs.set (i+j) u⟩ E (0,0)):=by
   simp only [World.setCell,Array.getElem?_modify,if_pos,hb,Option.map_some]
   simp
  obtain ⟨w',h1,h2,h3,h4,h5,h6,h7⟩:=Z2m (P:=P) r (w.setCell ⟨b,i+j,none⟩ u) (vs.set (i+j) u) i (j+1) hb1 (by simp;omega) ho.2
  refine ⟨w',?_,?_,h3,h4,h5,by simpa using h6,fun q hq=>(h7 q hq).trans (Below.heap_setCell _ _ _ _ hq)⟩
  ·simp only [storeCells,Sem.run_bind,Zo,Z4L hcell hfz ho.1,Result.andThen_ok,h1]
  ·rw [h2]
   congr 3
   have e1:(vs.set (i+j) u).take (i+(j+1))=vs.take (i+j)++[u]:=by
    rw [show i+(j+1)=(i+j)+1 by omega,List.take_succ_eq_append_getElem (by simpa using hlt)]
    simp [List.take_set_of_le]
   have e2:(vs.set (i+j) u).drop (i+(j+1)+r.length)=vs.drop (i+j+(u::r).length):=by
    rw [List.drop_set_of_lt (by omega)]
    congr 1
    simp only [List.length_cons]
    omega
   rw [e1,e2]
   simp
theorem Sr.storeN {x y:Operand} {b i:Nat} {t:TypeId} {z:Value} {n by_:Nat} {vs:List Value} {E:TypeId} {us:List Value} {f:Res→List Res} (hx:ev e x=some (.pointer (some ⟨b,i,none⟩))) (hy:ev e y=some (.agg ⟨us⟩))
  [HI c.P t z n by_] [hb:AtB H b vs E f] (hn:us.length=n) (hi:i+n≤vs.length) (hv:us.all (·.oneCell')=true) (hk:Sr (.eff dr) c ds (f (.blk b (vs.take i++us++vs.drop (i+n)) E)) ops l κ e) :
  Sr (.eff dr) c ds H ops (⟨none,.store t x y,ty,pos,aft,none⟩::l) κ e :=
 Sr.eff (K:=fun u H'=>H'=f (.blk b (vs.take i++us++vs.drop (i+n)) E)) (fun w a hw ha=>by
  obtain ⟨rest,h1,h2⟩:=hb.h
  have hw':=hw.perm h1
  have hblk:w.heap[b]?=some (.cells ⟨vs⟩ E (0,0)):=hw'.res _ (List.mem_cons_self ..)
  obtain ⟨w',s1,s2,s3,s4,s5,s6,s7⟩:=Z2m (P:=c.P) us w vs i 0 hblk (by omega) hv
  refine ⟨undef,w',_,.inr ⟨by simp [execOp,ha.ev hx,ha.ev hy,Instr.storeAt,Instr.sureAddr,storeVar,Value.cells,ZO (z:=z) (sz:=n) (b:=by_),hn,s1],rfl⟩,St.perm (hw'.turn (r':=.blk b (vs.take i++us++vs.drop (i+n)) E) s3 s4 s5 (by omega) (fun q _ hq=>s7 q (by simpa [Res.foot] using hq)) (by simpa [Res.holds,hn] using s2) (fun q hq=>.inl hq) (by simp [Res.foot])) (h2 _),rfl⟩) rfl rfl (fun u H' hH=>by subst hH;exact hk)
end
end Sg
