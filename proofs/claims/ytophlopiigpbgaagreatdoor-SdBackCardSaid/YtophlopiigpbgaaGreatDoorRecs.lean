/- Slices whose elements are structs: their cells in the layout of a list. -/
import Derived.Test.YtophlopiigpbgaaGreatDoorMore
namespace Sg
open Go Go.RowKit

section
variable {α:Type} {g:α→List Value} {sz:Nat}
theorem Z0Y (hg:∀ a,(g a).length=sz):∀ xs:List α,(xs.flatMap g).length=xs.length*sz
 | []=>by simp
 | x::r=>by simp only [List.flatMap_cons,List.length_append,hg,Z0Y hg r,List.length_cons,Nat.succ_mul];omega
theorem Z1S (hg:∀ a,(g a).length=sz):∀ (xs:List α) (i:Nat),(xs.flatMap g).drop (i*sz)=(xs.drop i).flatMap g
 | xs,0=>by simp
 | [],i+1=>by simp
 | x::r,i+1=>by
  have h:(i+1)*sz=(g x).length+i*sz:=by rw [hg,Nat.succ_mul];omega
  rw [h,List.flatMap_cons,List.drop_length_add_append,Z1S hg r i]
  rfl
theorem Z4i (hg:∀ a,(g a).length=sz):∀ (xs:List α) (i:Nat),(xs.flatMap g).take (i*sz)=(xs.take i).flatMap g
 | xs,0=>by simp
 | [],i+1=>by simp
 | x::r,i+1=>by
  have h:(i+1)*sz=(g x).length+i*sz:=by rw [hg,Nat.succ_mul];omega
  rw [h,List.flatMap_cons,List.take_length_add_append,Z4i hg r i]
  rfl
theorem Z5y [Inhabited α] (hg:∀ a,(g a).length=sz) {xs:List α} {i:Nat} (hi:i < xs.length):(xs.flatMap g).drop (i*sz)=g (xs.getD i default)++(xs.drop (i+1)).flatMap g:=by
 rw [Z1S hg,List.drop_eq_getElem_cons hi,List.flatMap_cons]
 simp [List.getD,hi]
theorem ZbO [Inhabited α] (hg:∀ a,(g a).length=sz) {xs:List α} {i f:Nat} (hi:i < xs.length) (hf:f < sz):(xs.flatMap g)[i*sz+f]?=(g (xs.getD i default))[f]?:=by
 rw [←List.getElem?_drop,Z5y hg hi,List.getElem?_append_left (by rw [hg];exact hf)]
theorem ZbL (hg:∀ a,(g a).length=sz) {xs:List α} {i:Nat} (hi:i < xs.length) (a:α):(xs.flatMap g).take (i*sz)++g a++(xs.flatMap g).drop (i*sz+sz)=(xs.set i a).flatMap g:=by
 have h1:i*sz+sz=(i+1)*sz:=by rw [Nat.succ_mul]
 rw [h1,Z4i hg,Z1S hg,List.set_eq_take_append_cons_drop,if_pos hi,List.flatMap_append,List.flatMap_cons,List.append_assoc]
theorem ZbK [Inhabited α] (hg:∀ a,(g a).length=sz) {xs:List α} {i f:Nat} (hi:i < xs.length) (hf:f < sz) {v:Value} {a:α} (ha:(g (xs.getD i default)).set f v=g a):(xs.flatMap g).set (i*sz+f) v=(xs.set i a).flatMap g:=by
 have h0:(xs.flatMap g)=(xs.flatMap g).take (i*sz)++(xs.flatMap g).drop (i*sz):=(List.take_append_drop _ _).symm
 have hl:((xs.flatMap g).take (i*sz)).length=i*sz:=by
  have:(i+1)*sz≤xs.length*sz:=Nat.mul_le_mul_right _ hi
  rw [List.length_take,Z0Y hg]
  rw [Nat.succ_mul] at this
  omega
 rw [h0,List.set_append_right _ _ (by omega),hl,Nat.add_sub_cancel_left,Z5y hg hi,List.set_append_left _ _ (by rw [hg];exact hf),ha,←List.append_assoc,←ZbL hg hi a]
 have h1:i*sz+sz=(i+1)*sz:=by rw [Nat.succ_mul]
 rw [h1,Z1S hg]
theorem Zau (xs:List α) (a:α):xs.flatMap g++g a=(xs++[a]).flatMap g:=by simp
end
def faddr (ad:Option Addr) (i sz f:Nat):Option Addr:=eaddr ad (i*sz+f)
theorem Z6z {ad:Addr} {j k:Nat}:(ad.add j).add k=ad.add (j+k):=Z3m ad j k
theorem Z9L {F:World} {M:List Nat} {H:List Res} {ad:Option Addr} {vs:List Value} (hr:Rd F M H ad vs) {w:World} (hw:St F M w H) {j:Nat} (hj:j < vs.length):∃ q,ad=some q:=by
 obtain ⟨q,h,-⟩:=hr.h w hw _ _ (List.getElem?_eq_getElem hj)
 exact ⟨q,h⟩
def repL:Nat→List Value→List Value
 | 0,_=>[]
 | n+1,zs=>zs++repL n zs
theorem Z7O {zs:List Value}:∀ (n j:Nat),j < n*zs.length→(repL n zs)[j]?=zs[j % zs.length]?
 | 0,j,h=>by simp at h
 | n+1,j,h=>by
  rw [repL]
  rw [Nat.succ_mul] at h
  by_cases hj:j < zs.length
  ·rw [List.getElem?_append_left hj,Nat.mod_eq_of_lt hj]
  ·have hm:j % zs.length=(j - zs.length) % zs.length:=Nat.mod_eq_sub_mod (by omega)
   rw [List.getElem?_append_right (by omega),Z7O n _ (by omega),hm]
theorem Z7N {zs:List Value}:∀ n,(repL n zs).length=n*zs.length
 | 0=>by simp [repL]
 | n+1=>by rw [repL,List.length_append,Z7N n,Nat.succ_mul];omega
theorem Za8 (z:Value) {sz:Nat} (hsz:z.cells.size=sz) (n:Nat):(madeCells z.cells (n*sz)).toList=repL n (Z1X z):=by
 have hl:(Z1X z).length=sz:=by rw [←Z0R,Array.length_toList,hsz]
 have hc:z.cells=⟨Z1X z⟩:=by rw [←Z0R]
 apply List.ext_getElem?
 intro j
 by_cases hj:j < n*sz
 ·have h0:0 < sz:=Nat.pos_of_ne_zero fun h=>by subst h;simp at hj
  rw [Z7O _ _ (by rw [hl];exact hj),hl]
  have hm:=Nat.mod_lt j h0
  have hg:(madeCells z.cells (n*sz)).toList[j]?=some (z.cells[j % z.cells.size]!):=by
   simp [madeCells,hj]
  rw [hg,hsz,getElem!_pos z.cells _ (by omega),List.getElem?_eq_getElem (by omega)]
  simp [hc]
 ·rw [List.getElem?_eq_none (by simp [madeCells];omega),List.getElem?_eq_none (by rw [Z7N,hl];omega)]

section
variable {c:Ctx} {ds:List Deferred} {H:List Res} {ops:Array Oper} {l:List Oper} {κ:List Res→Env→Prop} {dr:Bool} {e:Env} {ty:TypeId} {pos:String} {aft:Array Edge} {k:List Item} {q:Mode}
theorem T.ixF {α:Type} {g:α→List Value} {sz:Nat} {x y:Operand} {d:Tmp} {ad:Option Addr} {n cp i:Nat} {kd:IntKind} {t E:TypeId} [HU c.P t (.slice E)] {z:Value} {by_:Nat} [HI c.P E z sz by_] {xs:List α} (hx:ev e x=some (.slice ad n cp)) (hy:ev e y=some (.int kd (Int.ofNat i))) (hr:Rd c.F c.M H ad (xs.flatMap g))
  (hg:∀ a,(g a).length=sz) (hs:Nat.blt 0 sz=true) (h0:i < n) (hl:i < xs.length) (hlt:Nat.blt d c.fn.ntmps=true) (hk:Sr q c ds H ops l κ ((d,.pointer (faddr ad i sz 0))::e)):Sr q c ds H ops (⟨some d,.indexAddr t x y,ty,pos,aft,none⟩::l) κ e:=by
 have hs':0 < sz:=by simpa [Nat.blt_eq] using hs
 have hle:(i+1)*sz≤xs.length*sz:=Nat.mul_le_mul_right _ hl
 rw [Nat.succ_mul] at hle
 have:=Pu.ix (c:=c) (H:=H) (e:=e) (dst:=some d) (ty:=ty) (pos:=pos) (aft:=aft) (g:=none) (t:=t) (E:=E) (z:=z) (sz:=sz) (by_:=by_) (vs:=xs.flatMap g) (i:=Int.ofNat i) hx hy ⟨Int.natCast_nonneg i,Int.ofNat_lt.2 h0⟩ (by rw [Z0Y hg];simp only [Int.ofNat_eq_natCast,Int.toNat_natCast];omega)
 exact Sr.p this rfl hlt rfl hk
theorem Pu.fieldAddrE {x:Operand} {dst:Option Tmp} {ad:Option Addr} {vs:List Value} {j i fo:Nat} {t:TypeId} {g:Option (Nat × Bool)} (hx:ev e x=some (.pointer (eaddr ad j))) [hf:HFd c.P t i fo] (hr:Rd c.F c.M H ad vs) (hj:j < vs.length):Pu c H e ⟨dst,.fieldAddr t x i,ty,pos,aft,g⟩ (.pointer (eaddr ad (j+fo))):=fun w a hw ha=>by
 obtain ⟨q,rfl⟩:=Z9L hr hw hj
 have h:=hf.h
 unfold Z4l at h
 split at h
 ·rename_i fs hu
  split at h
  ·rename_i f hfi
   obtain ⟨inf,hi,hx2⟩:=Option.map_eq_some_iff.1 h
   simp only [Prod.mk.injEq,beq_eq_false_iff_ne,ne_eq] at hx2
   obtain ⟨rfl,hsz⟩:=hx2
   have hsize:(Go.sizeOf f.type).run c.P w=.ok inf.size w:=by simp [Go.sizeOf,typeInfo,program,Sem.run,hi]
   have hx':ev e x=some (.pointer (some (q.add j))):=hx
   simp [execOp,ha.ev hx',Instr.fieldAt,run_underlying hu,hfi,Instr.sureAddr,fieldPlace,hsize,hsz,eaddr,Z6z]
  ·cases h
 ·cases h
theorem T.fieldAddrF {α:Type} {g:α→List Value} {sz:Nat} {x:Operand} {d:Tmp} {ad:Option Addr} {i f fi fo:Nat} {t:TypeId} [HFd c.P t fi fo] {xs:List α} (hx:ev e x=some (.pointer (faddr ad i sz f))) (hr:Rd c.F c.M H ad (xs.flatMap g))
  (hg:∀ a,(g a).length=sz) (hs:Nat.blt f sz=true) (hl:i < xs.length) (hlt:Nat.blt d c.fn.ntmps=true) (hk:Sr q c ds H ops l κ ((d,.pointer (faddr ad i sz (f+fo)))::e)):Sr q c ds H ops (⟨some d,.fieldAddr t x fi,ty,pos,aft,none⟩::l) κ e:=by
 have hs':f < sz:=by simpa [Nat.blt_eq] using hs
 have hle:(i+1)*sz≤xs.length*sz:=Nat.mul_le_mul_right _ hl
 rw [Nat.succ_mul] at hle
 have:=Pu.fieldAddrE (c:=c) (H:=H) (e:=e) (dst:=some d) (ty:=ty) (pos:=pos) (aft:=aft) (g:=none) (t:=t) (fo:=fo) (i:=fi) (vs:=xs.flatMap g) (j:=i*sz+f) hx hr (by rw [Z0Y hg];omega)
 rw [Nat.add_assoc] at this
 exact Sr.p this rfl hlt rfl hk
theorem Zf {α:Type} [Inhabited α] {xs:List α} {i:Nat} (h:i < xs.length):xs[i]?=some (xs.getD i default):=by simp [List.getD,h]
theorem Z3I {α:Type} [Inhabited α] {xs:List α} {i:Nat} {a:α} (h:xs[i]?=some a):i < xs.length∧xs.getD i default=a:=⟨(List.getElem?_eq_some_iff.1 h).1,by simp [List.getD,h]⟩
theorem T.loadF {α:Type} {g:α→List Value} {sz:Nat} {x:Operand} {d:Tmp} {ad:Option Addr} {i f:Nat} {t:TypeId} {dd:TypeDesc} [HU c.P t dd] {xs:List α} {a:α} {v:Value} (hx:ev e x=some (.pointer (faddr ad i sz f))) (hd:plain dd=true) (hr:Rd c.F c.M H ad (xs.flatMap g))
  (hg:∀ a,(g a).length=sz) (hs:Nat.blt f sz=true) (hi:xs[i]?=some a) (hv:(g a)[f]?=some v) (hlt:Nat.blt d c.fn.ntmps=true) (hk:Sr q c ds H ops l κ ((d,v)::e)):Sr q c ds H ops (⟨some d,.load t x,ty,pos,aft,none⟩::l) κ e:=by
 have hin:Inhabited α:=⟨a⟩
 obtain ⟨hl,rfl⟩:=Z3I hi
 exact Sr.p (Pu.loadE (d:=dd) hx hd (by rw [ZbO hg hl (by simpa [Nat.blt_eq] using hs)];exact hv)) rfl hlt rfl hk
theorem Pu.loadEN {x:Operand} {dst:Option Tmp} {ad:Option Addr} {vs:List Value} {j n by_:Nat} {t:TypeId} {dd:TypeDesc} {z:Value} {g:Option (Nat × Bool)} [HU c.P t dd] [HI c.P t z n by_] (hd:plain dd=false) (hx:ev e x=some (.pointer (eaddr ad j))) (hr:Rd c.F c.M H ad vs) (hn:0 < n) (hj:j+n≤vs.length):Pu c H e ⟨dst,.load t x,ty,pos,aft,g⟩ (.agg ⟨(vs.drop j).take n⟩):=fun w a hw ha=>by
 obtain ⟨q,rfl⟩:=Z9L hr hw (j:=j) (by omega)
 have hx':ev e x=some (.pointer (some (q.add j))):=hx
 have:=Z5q (P:=c.P) (t:=t) (d:=dd) (z:=z) (by_:=by_) (vs:=(vs.drop j).take n) (by simp;omega) hd (ad:=q.add j) (w:=w) (fun k v hk=>by
  have hkn:k < n:=by have:=(List.getElem?_eq_some_iff.1 hk).1;simp only [List.length_take] at this;omega
  rw [List.getElem?_take_of_lt hkn,List.getElem?_drop] at hk
  obtain ⟨q',hq,hc⟩:=hr.h w hw _ _ hk
  simp only [Option.some.injEq] at hq
  subst hq
  rw [Z6z]
  exact hc)
 simp [execOp,ha.ev hx',Instr.loadAt,Instr.sureAddr,this]
theorem T.loadFN {α:Type} {g:α→List Value} {sz:Nat} {x:Operand} {d:Tmp} {ad:Option Addr} {i by_:Nat} {t:TypeId} {dd:TypeDesc} {z:Value} [HU c.P t dd] [HI c.P t z sz by_] {xs:List α} {a:α} (hx:ev e x=some (.pointer (faddr ad i sz 0))) (hd:plain dd=false) (hr:Rd c.F c.M H ad (xs.flatMap g))
  (hg:∀ a,(g a).length=sz) (hs:Nat.blt 0 sz=true) (hi:xs[i]?=some a) (hlt:Nat.blt d c.fn.ntmps=true) (hk:Sr q c ds H ops l κ ((d,.agg ⟨g a⟩)::e)):Sr q c ds H ops (⟨some d,.load t x,ty,pos,aft,none⟩::l) κ e:=by
 have hin:Inhabited α:=⟨a⟩
 obtain ⟨hl,rfl⟩:=Z3I hi
 have hs':0 < sz:=by simpa [Nat.blt_eq] using hs
 have hle:(i+1)*sz≤xs.length*sz:=Nat.mul_le_mul_right _ hl
 rw [Nat.succ_mul] at hle
 have:=Pu.loadEN (c:=c) (H:=H) (e:=e) (dst:=some d) (ty:=ty) (pos:=pos) (aft:=aft) (g:=none) (t:=t) (dd:=dd) (z:=z) (by_:=by_) (n:=sz) (vs:=xs.flatMap g) (j:=i*sz+0) hd hx hr hs' (by rw [Z0Y hg];omega)
 rw [Nat.add_zero,Z5y hg hl,List.take_append_of_le_length (by rw [hg];exact Nat.le_refl _),List.take_of_length_le (by rw [hg];exact Nat.le_refl _)] at this
 exact Sr.p this rfl hlt rfl hk
theorem T.storeF {α:Type} {g:α→List Value} {sz:Nat} {x y:Operand} {ad:Option Addr} {i fo by_ n cp:Nat} {t E:TypeId} {z:Value} [HI c.P t z 1 by_] {xs:List α} {v:Value} {f:Res→List Res} {a₀:α} (a:α) (hx:ev e x=some (.pointer (faddr ad i sz fo))) (hy:ev e y=some v) (hb:AtR H ad cp E sz n (xs.flatMap g) f)
  (hg:∀ a,(g a).length=sz) (hs:Nat.blt fo sz=true) (hi:xs[i]?=some a₀) (hset:(g a₀).set fo v=g a) (hv:v.oneCell'=true) (hk:Sr (.eff dr) c ds (f (.row ad cp E sz n ((xs.set i a).flatMap g))) ops l κ e):Sr (.eff dr) c ds H ops (⟨none,.store t x y,ty,pos,aft,none⟩::l) κ e:=by
 have hin:Inhabited α:=⟨a⟩
 obtain ⟨hl,rfl⟩:=Z3I hi
 have hs':fo < sz:=by simpa [Nat.blt_eq] using hs
 have hle:(i+1)*sz≤xs.length*sz:=Nat.mul_le_mul_right _ hl
 rw [Nat.succ_mul] at hle
 refine Sr.storeE (z:=z) (by_:=by_) hx hy (by rw [Z0Y hg];omega) hv ?_
 rw [ZbK hg hl hs' hset]
 exact hk
theorem T.bsL {d:Tmp} {us:List (Nat × Value)} {t E:TypeId} [HU c.P t (.slice E)] {z:Value} {sz by_:Nat} [HI c.P E z sz by_] {ps:List (Nat × Operand)} {n:Nat} {cs:List Value} (hps:evps e ps=some us) (hzs:z.cells.size=sz) (hf:Z7f (fun i=>some (i*sz,sz)) (repL n (Z1X z)) us=some cs) (hsm:Nat.ble (n*sz) 16777216=true) (hlt:Nat.blt d c.fn.ntmps=true)
  (hk:∀ b,Sr (.eff dr) c ds (.blk b cs E::H) ops l κ ((d,.slice (some ⟨b,0,none⟩) n n)::e)):Sr (.eff dr) c ds H ops (⟨some d,.buildSlice t n ps.toArray,ty,pos,aft,none⟩::l) κ e:=by
 refine Sr.buildSlice (us:=us) (cs:=⟨cs⟩) (z:=z) (sz:=sz) (by_:=by_) hps hsm hlt ?_ hk
 have h:=Z3x hf
 rw [←Za8 z hzs] at h
 exact h
theorem T.appendF {α:Type} {g:α→List Value} {sz:Nat} {d:Tmp} {x y:Operand} {ad:Option Addr} {n cp b t E Eb:Nat} [HU c.P t (.slice E)] {z:Value} {by_:Nat} [HI c.P E z sz by_] {xs:List α} {us:List Value} {f:Res→List Res} (a:α) (hx:ev e x=some (.slice ad n cp)) (hy:ev e y=some (.slice (some ⟨b,0,none⟩) 1 1))
  (hus:us=g a) (hr:AtR H ad cp E sz n (xs.flatMap g) f) (hg:∀ a,(g a).length=sz) (hone:us.all (·.oneCell')=true) (hzs:z.cells.size=sz) (hs:Nat.blt 0 sz=true) (hroom:(n+1)*by_≤140737488355328∧n+1≤140737488355328) (hlt:Nat.blt d c.fn.ntmps=true)
  (hk:∀ ad' cp',Sr (.eff dr) c ds (f (.row ad' cp' E sz (n+1) ((xs++[a]).flatMap g))) ops l κ ((d,.slice ad' (n+1) cp')::e)) :
  Sr (.eff dr) c ds (.blk b us Eb::H) ops (⟨some d,.call ⟨.builtin .append,#[x,y],#[t,t]⟩,ty,pos,aft,none⟩::l) κ e:=by
 subst hus
 refine T.append (z:=z) (by_:=by_) hx hy hr (by rw [hg];omega) hone hzs hs hroom hlt fun ad' cp'=>?_
 rw [Zau]
 exact hk ad' cp'
theorem Rd.subF {α:Type} {g:α→List Value} {sz:Nat} {F:World} {M:List Nat} {ad:Option Addr} {xs:List α} (h:Rd F M H ad (xs.flatMap g)) (hg:∀ a,(g a).length=sz) {cp lo:Nat} (hl:xs.length≤cp):Rd F M H (saddr ad cp lo sz) ((xs.drop lo).flatMap g):=by
 have:=h.sub (cp:=cp) (lo:=lo) (sz:=sz) (by rw [Z0Y hg];exact Nat.mul_le_mul_right _ hl)
 rwa [Z1S hg] at this
theorem Rd.takeF {α:Type} {g:α→List Value} {sz:Nat} {F:World} {M:List Nat} {ad:Option Addr} {xs:List α} (h:Rd F M H ad (xs.flatMap g)) (hg:∀ a,(g a).length=sz) (n:Nat):Rd F M H ad ((xs.take n).flatMap g):=by
 have:=h.take (n*sz)
 rwa [Z4i hg] at this
end
end Sg
