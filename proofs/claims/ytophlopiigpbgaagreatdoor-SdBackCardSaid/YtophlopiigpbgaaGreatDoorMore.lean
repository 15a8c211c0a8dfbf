/- Further rules: slices, made slices, cells at places that are not written out, calls that are deferred and that recover. -/
import Derived.Test.YtophlopiigpbgaaGreatDoorSteps
import Derived.Test.YtophlopiigpbgaaGreatDoorDraw
import Derived.Laws.OwnMore
namespace Sg
open Go Go.RowKit

/- Resources: order and leaving out. -/
theorem St.sublist {F:World} {M:List Nat} {w:World} {H H':List Res} (h:St F M w H) (hs:H'.Sublist H):St F M w H' :=
 have hf:(feet H').Sublist (feet H):=by
  unfold feet
  induction hs with
  | slnil=>exact List.Sublist.refl _
  | cons r _ ih=>exact (ih h.tail).trans (by simp)
  | cons_cons r _ ih=>rw [List.flatMap_cons,List.flatMap_cons];exact List.Sublist.append (.refl _) (ih h.tail)
 { h with own:=fun b hb=>h.own b (hf.subset hb),nd:=h.nd.sublist hf,res:=fun r hr=>h.res r (hs.subset hr) }
def PSub (H' H:List Res):Prop:=∃ Z,H.Perm (H'++Z)
theorem PSub.refl (H:List Res):PSub H H:=⟨[],by simp⟩
theorem PSub.nil {H:List Res}:PSub [] H:=⟨H,by simp⟩
theorem PSub.trans {A B C:List Res} (h1:PSub A B) (h2:PSub B C):PSub A C:=by
 obtain ⟨Z,h1⟩:=h1
 obtain ⟨Z',h2⟩:=h2
 exact ⟨Z++Z',by rw [←List.append_assoc];exact h2.trans (h1.append_right Z')⟩
theorem PSub.take {H H₁ H':List Res} {r:Res} (hp:H.Perm (r::H₁)) (h:PSub H' H₁):PSub (r::H') H:=by
 obtain ⟨Z,h⟩:=h
 exact ⟨Z,hp.trans (h.cons r)⟩
theorem PSub.drop {H H':List Res} {r:Res} (h:PSub H' H):PSub H' (r::H):=by
 obtain ⟨Z,h⟩:=h
 exact ⟨r::Z,(h.cons r).trans List.perm_middle.symm⟩
theorem Z0 {H:List Res} {r:Res}:(r::H).Perm (r::H):=.refl _
theorem Z1 {H H₁:List Res} {r q:Res} (h:H.Perm (r::H₁)):(q::H).Perm (r::q::H₁):=(h.cons q).trans (.swap _ _ _)
theorem St.psub {F:World} {M:List Nat} {w:World} {H H':List Res} (h:St F M w H) (hs:PSub H' H):St F M w H':=by
 obtain ⟨Z,hz⟩:=hs
 exact (h.perm hz).sublist (List.sublist_append_left _ _)
class Fr (H:List Res) (b:Nat) (H':outParam (List Res)):Prop where
 h:H.Perm H'
instance Fr.hd {H:List Res} {b:Nat} {vs:List Value} {E:TypeId}:Fr (.blk b vs E::H) b (.blk b vs E::H):=⟨.refl _⟩
instance Fr.tl {H H':List Res} {b:Nat} {q r:Res} [h:Fr H b (r::H')]:Fr (q::H) b (r::q::H'):=⟨(h.h.cons q).trans (.swap _ _ _)⟩
class FrR (H:List Res) (a:Option Addr) (H':outParam (List Res)):Prop where
 h:H.Perm H'
instance FrR.hd {H:List Res} {a:Option Addr} {cp sz n:Nat} {xs:List Value} {E:TypeId}:FrR (.row a cp E sz n xs::H) a (.row a cp E sz n xs::H):=⟨.refl _⟩
instance FrR.tl {H H':List Res} {a:Option Addr} {q r:Res} [h:FrR H a (r::H')]:FrR (q::H) a (r::q::H'):=⟨(h.h.cons q).trans (.swap _ _ _)⟩
section
variable {c:Ctx} {ds:List Deferred} {H:List Res} {ops:Array Oper} {l:List Oper} {κ:List Res→Env→Prop} {dr:Bool} {e:Env} {k:List Item}
theorem S.sublist {H':List Res} (h:S c ds H' k e) (hs:PSub H' H):S c ds H k e:=by
 unfold S at h ⊢
 exact fun w a hw ha hd=>h w a (hw.psub hs) ha hd
theorem Sr.sublist {H':List Res} (h:Sr (.eff dr) c ds H' ops l κ e) (hs:PSub H' H):Sr (.eff dr) c ds H ops l κ e:=by
 unfold Sr at h ⊢
 exact fun w a hw ha hd=>h w a (hw.psub hs) ha hd
theorem S.cut {x:Item} (J:List Res→Env→Prop) (body:∀ k':List Item,(∀ H' e' e'',J H' e'→sub e' e''→S c ds H' k' e'')→S c ds H (x::k') e) (rest:∀ H' e',J H' e'→S c ds H' k e'):S c ds H (x::k) e:=body k fun _ _ _ hj hs=>S.mono (rest _ _ hj) hs
def pick (e:Env):List Nat→Option Env
 | []=>some []
 | t::r=>match get? e t with
  | some v=>match pick e r with
   | some b=>some ((t,v)::b)
   | none=>none
  | none=>none
def ZdY:Nat→List Res→Option (List Res)
 | 0,H=>some H
 | n+1,_::H=>ZdY n H
 | _+1,[]=>none
theorem S.loopE {x:Code} (n:Nat) (keep:List Nat) {R:List Res} {b:Env} (I:List Res→Env→Nat→List Res→Env→Prop) (_hR:ZdY n H=some R) (_hb:pick e keep=some b)
  (body:∀ μ H' e',I R b μ H' e'→(∀ μ' H'' e₁ e'',I R b μ' H'' e₁→μ' < μ→sub e₁ e''→S c ds H'' (.inLoop x::k) e'')→S c ds H' (.code x::.inLoop x::k) e')
  (μ₀:Nat) (e₀:Env) (h₀:I R b μ₀ H e₀) (hs:sub e₀ e):S c ds H (.code (.loop x)::k) e:=S.loop (I R b) body μ₀ e₀ h₀ hs
theorem S.front {H':List Res} (b:Nat) [hf:Fr H b H'] (h:S c ds H' k e):S c ds H k e:=S.perm h hf.h
theorem S.frontR {H':List Res} (a:Option Addr) [hf:FrR H a H'] (h:S c ds H' k e):S c ds H k e:=S.perm h hf.h
theorem Sr.front {H':List Res} (b:Nat) [hf:Fr H b H'] (h:Sr (.eff dr) c ds H' ops l κ e):Sr (.eff dr) c ds H ops l κ e:=Sr.perm h hf.h
theorem Sr.frontR {H':List Res} (a:Option Addr) [hf:FrR H a H'] (h:Sr (.eff dr) c ds H' ops l κ e):Sr (.eff dr) c ds H ops l κ e:=Sr.perm h hf.h
end

/- A guard that looks at an operation that was not carried out. -/
def gundef (ops:Array Oper) (e:Env) (j:Nat):Bool:=match (ops[j]?).bind (·.dst) with
 | some t=>match get? e t with
  | some (.tuple _)=>true
  | _=>false
 | none=>false
theorem Z4g {n:Nat} {a:Act} {ops:Array Oper} {e:Env} (ha:Ok n e a) {j:Nat} (h:gundef ops e j=true):yielded ops a.tmps j=none:=by
 unfold gundef at h
 split at h
 ·rename_i t ht
  split at h
  ·rename_i vs hu
   have:=ha.get t _ hu
   cases hq:a.tmps[t]? with
   | none=>simp [yielded,ht,hq]
   | some v =>
    simp [Array.getD_eq_getD_getElem?,hq] at this
    simp [yielded,ht,hq,this]
  ·cases h
 ·cases h
theorem T.skipU {c:Ctx} {ds:List Deferred} {H:List Res} {ops:Array Oper} {l:List Oper} {κ:List Res→Env→Prop} {e:Env} {ty:TypeId} {pos:String} {aft:Array Edge} {q:Mode} [hq:NotUni q] {o:Op} {d:Tmp} {j:Nat} {b:Bool} (h:gundef ops e j=true) (hlt:Nat.blt d c.fn.ntmps=true) (hk:Sr q c ds H ops l κ ((d,undef)::e)):Sr q c ds H ops (⟨some d,o,ty,pos,aft,some (j,b)⟩::l) κ e:=by
 unfold Sr at hk ⊢
 have h1:dlt (some d) c.fn.ntmps=true:=hlt
 cases q with
 | quiet =>
  intro w a hw ha hds
  unfold wpStill
  rw [if_neg (by
   have:=Z4g ha h
   simp [Region.wanted,this])]
  exact hk w _ hw (ha.put (d:=some d) h1 undef) ((Zt _ _ _).trans hds)
 | eff dr =>
  intro w a hw ha hds
  exact Z3d (by
   have:=Z4g ha h
   simp [Region.wanted,this]) (hk w _ hw (ha.put (d:=some d) h1 undef) ((Zt _ _ _).trans hds))
 | uni=>exact absurd rfl hq.h

/- Where slices of slices lie. -/
def saddr (ad:Option Addr) (cp lo sz:Nat):Option Addr:=if cp=lo then ad else ad.map (·.add (lo*sz))
theorem Z3m (ad:Addr) (i j:Nat):(ad.add i).add j=ad.add (i+j):=by
 by_cases h1:i=0
 ·subst h1;simp [Addr.add]
 ·by_cases h2:j=0
  ·subst h2;simp [Addr.add]
  ·have h3:i+j≠0:=by omega
   simp [Addr.add,h1,h2,Nat.add_assoc]
theorem Rd.sub {F:World} {M:List Nat} {H:List Res} {ad:Option Addr} {vs:List Value} (h:Rd F M H ad vs) {cp lo sz:Nat} (hl:vs.length≤cp*sz):Rd F M H (saddr ad cp lo sz) (vs.drop (lo*sz)):=⟨fun w hw j u hu=>by
 rw [List.getElem?_drop] at hu
 obtain ⟨q,rfl,hc⟩:=h.h w hw _ u hu
 have hlt:=(List.getElem?_eq_some_iff.1 hu).1
 have hne:cp≠lo:=fun he=>by subst he;omega
 refine ⟨q.add (lo*sz),by simp [saddr,hne],?_⟩
 rw [Z3m]
 exact hc⟩
theorem Rd.sub1 {α:Type} {F:World} {M:List Nat} {H:List Res} {ad:Option Addr} {g:α→Value} {xs:List α} (h:Rd F M H ad (xs.map g)) {cp lo:Nat} (hl:xs.length≤cp):Rd F M H (saddr ad cp lo 1) ((xs.drop lo).map g):=by
 have:=h.sub (cp:=cp) (lo:=lo) (sz:=1) (by simpa using hl)
 simpa [List.map_drop] using this
theorem Rd.take {F:World} {M:List Nat} {H:List Res} {ad:Option Addr} {vs:List Value} (h:Rd F M H ad vs) (n:Nat):Rd F M H ad (vs.take n):=⟨fun w hw j u hu=>h.h w hw j u (by
 have hlt:=(List.getElem?_eq_some_iff.1 hu).1
 rw [List.getElem?_take_of_lt (by simp only [List.length_take] at hlt;omega)] at hu
 exact hu)⟩
section
variable {c:Ctx} {H:List Res} {e:Env} {dst:Option Tmp} {ty:TypeId} {pos:String} {aft:Array Edge} {g:Option (Nat × Bool)}
theorem ZH {P:Program} {kd:IntKind} {i:Int} {y:Nat} {code:BoundsCode} (h:0≤i∧i≤y) (w:World):(Instr.sliceBound (.int kd i) y code).run P w=.ok i.toNat w:=by
 simp [Instr.sliceBound,asIntOf,h]
theorem Pu.sliceL {x lo:Operand} {ad:Option Addr} {n cp:Nat} {kd:IntKind} {i:Int} {t E:TypeId} {z:Value} {sz by_:Nat} (hx:ev e x=some (.slice ad n cp)) (hl:ev e lo=some (.int kd i)) [HU c.P t (.slice E)] [HI c.P E z sz by_]
  (h0:0≤i∧i≤n):Pu c H e ⟨dst,.slice t x (some lo) none none,ty,pos,aft,g⟩ (.slice (saddr ad cp i.toNat sz) (n - i.toNat) (cp - i.toNat)):=fun w a hw ha=>by
 simp [execOp,ha.ev hx,ha.ev hl,Instr.sliceAt,Instr.slice,Instr.sliceBounds,Z9 (d:=.slice E),ZO (z:=z) (sz:=sz) (b:=by_),ZH h0,saddr]
theorem Pu.sliceH {x hi:Operand} {ad:Option Addr} {n cp:Nat} {kd:IntKind} {j:Int} {t E:TypeId} {z:Value} {sz by_:Nat} (hx:ev e x=some (.slice ad n cp)) (hl:ev e hi=some (.int kd j)) [HU c.P t (.slice E)] [HI c.P E z sz by_]
  (h0:0≤j∧j≤cp):Pu c H e ⟨dst,.slice t x none (some hi) none,ty,pos,aft,g⟩ (.slice ad j.toNat cp):=fun w a hw ha=>by
 have hz:ad.map (·.add 0)=ad:=by cases ad<;>simp [Addr.add]
 simp [execOp,ha.ev hx,ha.ev hl,Instr.sliceAt,Instr.slice,Instr.sliceBounds,Z9 (d:=.slice E),ZO (z:=z) (sz:=sz) (b:=by_),ZH h0,hz]
theorem Pu.sliceLH {x lo hi:Operand} {ad:Option Addr} {n cp:Nat} {kd kd':IntKind} {i j:Int} {t E:TypeId} {z:Value} {sz by_:Nat} (hx:ev e x=some (.slice ad n cp)) (hl:ev e lo=some (.int kd i)) (hh:ev e hi=some (.int kd' j)) [HU c.P t (.slice E)] [HI c.P E z sz by_]
  (h0:0≤i∧i≤j∧j≤cp):Pu c H e ⟨dst,.slice t x (some lo) (some hi) none,ty,pos,aft,g⟩ (.slice (saddr ad cp i.toNat sz) (j.toNat - i.toNat) (cp - i.toNat)):=fun w a hw ha=>by
 have h1:0≤j∧j≤cp:=by omega
 have h2:0≤i∧i≤(j.toNat:Int):=by omega
 simp [execOp,ha.ev hx,ha.ev hl,ha.ev hh,Instr.sliceAt,Instr.slice,Instr.sliceBounds,Z9 (d:=.slice E),ZO (z:=z) (sz:=sz) (b:=by_),ZH h1,ZH h2,saddr]
theorem Pu.sliceA {x lo:Operand} {b off n:Nat} {kd:IntKind} {i:Int} {t E:TypeId} {z:Value} {sz by_:Nat} (hx:ev e x=some (.pointer (some ⟨b,off,none⟩))) (hl:ev e lo=some (.int kd i)) [HU c.P t (.array n E)] [HI c.P E z sz by_]
  (h0:0≤i∧i < n):Pu c H e ⟨dst,.slice t x (some lo) none none,ty,pos,aft,g⟩ (.slice (some ⟨b,off+i.toNat*sz,none⟩) (n - i.toNat) (n - i.toNat)):=fun w a hw ha=>by
 have h1:0≤i∧i≤(n:Int):=by omega
 have h2:¬n=i.toNat:=by omega
 simp [execOp,ha.ev hx,ha.ev hl,Instr.sliceAt,Instr.sureAddr,Instr.sliceBounds,Z9 (d:=.array n E),ZO (z:=z) (sz:=sz) (b:=by_),ZH h1,h2,Zo]
theorem Pu.assert {x:Operand} {t t':TypeId} {v:Value} {d:TypeDesc} (hx:ev e x=some (.iface t v)) [HU c.P t' d] (hd:Z4R d=true) (ht:Nat.beq t t'=true) {s:TypeId}:Pu c H e ⟨dst,.typeAssert x s t' true,ty,pos,aft,g⟩ (.tuple ⟨[v,.bool true]⟩):=fun w a hw ha=>by
 have:=Nat.eq_of_beq_eq_true ht
 subst this
 cases d<;>simp_all [execOp,ha.ev hx,Instr.typeAssert,Z9 (d:=_),Z4R]
theorem Z6T {P:Program} {t t':TypeId} {u:Value} {ms:Array (String × TypeId)} [HU P t (.interface ms)] (w:World) (d:Nat):(Op.equalIn (d+1) t (.iface t' u) .nilIface).run P w=.ok false w:=by
 simp [Op.equalIn,Z9 (d:=.interface ms)]
theorem Z60 {P:Program} {t:TypeId} {ms:Array (String × TypeId)} [HU P t (.interface ms)] (w:World) (d:Nat):(Op.equalIn (d+1) t .nilIface .nilIface).run P w=.ok true w:=by
 simp [Op.equalIn,Z9 (d:=.interface ms)]
theorem Pu.neqIf {x:Operand} {u:Value} {t t' t'':TypeId} {ms:Array (String × TypeId)} [HU c.P t (.interface ms)] (hx:ev e x=some (.iface t' u)):Pu c H e ⟨dst,.binOp .neq t x (.const .nilIface) t'',ty,pos,aft,g⟩ (.bool true):=fun w a hw ha=>by
 have h:=Z6T (P:=c.P) (t:=t) (t':=t') (u:=u) (ms:=ms) w 9999
 have h2:a.eval (.const .nilIface)=.nilIface:=rfl
 simp only [execOp,ha.ev hx,h2,eqGuard,binOp,Op.equal,Op.maxDepth]
 simp [h]
theorem Pu.neqNil {x:Operand} {t t'':TypeId} {ms:Array (String × TypeId)} [HU c.P t (.interface ms)] (hx:ev e x=some .nilIface):Pu c H e ⟨dst,.binOp .neq t x (.const .nilIface) t'',ty,pos,aft,g⟩ (.bool false):=fun w a hw ha=>by
 have h:=Z60 (P:=c.P) (t:=t) (ms:=ms) w 9999
 have h2:a.eval (.const .nilIface)=.nilIface:=rfl
 simp only [execOp,ha.ev hx,h2,eqGuard,binOp,Op.equal,Op.maxDepth]
 simp [h]
end

/- Structs and arrays that are built, in the form of lists. -/
def Z1X:Value→List Value
 | .agg a=>a.toList
 | v=>[v]
theorem Z0R (v:Value):v.cells.toList=Z1X v:=by cases v<;>rfl
def lenL:List Value→Nat
 | []=>0
 | _::r=>lenL r+1
theorem Zac:∀ l:List Value,lenL l=l.length
 | []=>rfl
 | _::r=>by rw [lenL,Zac r,List.length_cons]
def over:List Value→List Value→Option (List Value)
 | [],cs=>some cs
 | v::r,_::cs=>match over r cs with
  | some q=>some (v::q)
  | none=>none
 | _::_,[]=>none
def splice (vs:List Value):Nat→List Value→Option (List Value)
 | 0,cs=>over vs cs
 | n+1,c::cs=>match splice vs n cs with
  | some q=>some (c::q)
  | none=>none
 | _+1,[]=>none
theorem Z9R:∀ {vs cs q:List Value},over vs cs=some q→vs.length≤cs.length∧q=vs++cs.drop vs.length
 | [],cs,q,h=>by simp only [over,Option.some.injEq] at h;subst h;simp
 | v::r,c::cs,q,h=>by
  simp only [over] at h
  split at h
  ·rename_i q' hq
   simp only [Option.some.injEq] at h
   subst h
   obtain ⟨h1,h2⟩:=Z9R hq
   exact ⟨by simpa using h1,by simp [h2]⟩
  ·cases h
 | v::r,[],q,h=>by simp [over] at h
theorem Z5P {vs:List Value}:∀ {n:Nat} {cs q:List Value},splice vs n cs=some q→n+vs.length≤cs.length∧q=cs.take n++vs++cs.drop (n+vs.length)
 | 0,cs,q,h=>by
  obtain ⟨h1,h2⟩:=Z9R h
  exact ⟨by omega,by simpa using h2⟩
 | n+1,c::cs,q,h=>by
  simp only [splice] at h
  split at h
  ·rename_i q' hq
   simp only [Option.some.injEq] at h
   subst h
   obtain ⟨h1,h2⟩:=Z5P hq
   refine ⟨by simp;omega,?_⟩
   have e:n+1+vs.length=(n+vs.length)+1:=by omega
   rw [h2,e]
   simp
  ·cases h
 | n+1,[],q,h=>by simp [splice] at h
theorem Z6q (off:Nat):∀ (vs cs:List Value) (k:Nat),off+k+vs.length≤cs.length →
  (vs.zipIdx k).foldl (fun (c:Array Value) p=>c.setIfInBounds (off+p.2) p.1) ⟨cs⟩=⟨cs.take (off+k)++vs++cs.drop (off+k+vs.length)⟩
 | [],cs,k,h=>by simp
 | v::r,cs,k,h=>by
  simp only [List.length_cons] at h
  have ih:=Z6q off r (cs.set (off+k) v) (k+1) (by simp;omega)
  simp only [List.zipIdx_cons,List.foldl_cons,List.setIfInBounds_toArray]
  rw [ih]
  congr 1
  have e1:(cs.set (off+k) v).take (off+(k+1))=cs.take (off+k)++[v]:=by
   rw [show off+(k+1)=(off+k)+1 by omega,List.take_succ_eq_append_getElem (by simp;omega)]
   have e3:(cs.set (off+k) v).take (off+k)=cs.take (off+k):=List.ext_getElem? fun j=>by
    by_cases hj:j < off+k
    ·rw [List.getElem?_take_of_lt hj,List.getElem?_take_of_lt hj,List.getElem?_set_ne (by omega)]
    ·rw [List.getElem?_take_eq_none (by omega),List.getElem?_take_eq_none (by omega)]
   rw [e3]
   simp
  have e2:(cs.set (off+k) v).drop (off+(k+1)+r.length)=cs.drop (off+k+(r.length+1)):=by
   rw [List.drop_set_of_lt (by omega)]
   congr 1
   omega
  rw [e1,e2]
  simp
def Z7f (pl:Nat→Option (Nat × Nat)):List Value→List (Nat × Value)→Option (List Value)
 | cs,[]=>some cs
 | cs,(i,v)::r=>match pl i with
  | some (off,sz)=>match Nat.beq (lenL (Z1X v)) sz with
   | true=>match splice (Z1X v) off cs with
    | some q=>Z7f pl q r
    | none=>none
   | false=>none
  | none=>none
theorem Z3x {pl:Nat→Option (Nat × Nat)}:∀ {us:List (Nat × Value)} {cs q:List Value},Z7f pl cs us=some q→Instr.fill pl ⟨cs⟩ us=some ⟨q⟩
 | [],cs,q,h=>by simp only [Z7f,Option.some.injEq] at h;subst h;rfl
 | (i,v)::r,cs,q,h=>by
  simp only [Z7f] at h
  split at h
  ·rename_i off sz hp
   split at h
   ·rename_i hb
    split at h
    ·rename_i q' hs
     obtain ⟨h1,h2⟩:=Z5P hs
     have hsz:v.cells.size=sz:=by rw [←Array.length_toList,Z0R,←Zac];exact Nat.eq_of_beq_eq_true hb
     have hl:v.cells.size=(Z1X v).length:=by rw [←Array.length_toList,Z0R]
     simp only [Instr.fill,hp]
     rw [if_neg (by simp;omega)]
     have hf:=Z6q off (Z1X v) cs 0 (by omega)
     rw [←Array.foldl_toList,Array.toList_zipIdx,Z0R]
     rw [Nat.add_zero] at hf
     rw [hf,←h2]
     exact Z3x h
    ·cases h
   ·cases h
  ·cases h
def nthP:List (Nat × Nat)→Nat→Option (Nat × Nat)
 | [],_=>none
 | p::_,0=>some p
 | _::r,n+1=>nthP r n
theorem Z7W:∀ (l:List (Nat × Nat)) (i:Nat),nthP l i=l[i]?
 | [],_=>by simp [nthP]
 | _::_,0=>by simp [nthP]
 | _::r,n+1=>by simp [nthP,Z7W r n]
section
variable {c:Ctx} {ds:List Deferred} {H:List Res} {ops:Array Oper} {l:List Oper} {κ:List Res→Env→Prop} {dr:Bool} {e:Env} {ty:TypeId} {pos:String} {aft:Array Edge} {k:List Item} {q:Mode}
theorem T.buildL {ps:List (Nat × Operand)} {us:List (Nat × Value)} {d:Tmp} {t:TypeId} {fs:Array Field} [HU c.P t (.struct fs)] {z:Value} {sz by_:Nat} [HI c.P t z sz by_] {pl:List (Nat × Nat)} [HPl c.P t pl] {cs:List Value} (hps:evps e ps=some us) (hf:Z7f (nthP pl) (Z1X z) us=some cs)
  (hlt:Nat.blt d c.fn.ntmps=true) (hk:Sr q c ds H ops l κ ((d,.agg ⟨cs⟩)::e)):Sr q c ds H ops (⟨some d,.build t ps.toArray,ty,pos,aft,none⟩::l) κ e:=by
 have h:=Z3x hf
 rw [show (nthP pl)=(pl[·]?) from funext (Z7W pl),←Z0R] at h
 exact T.build (fs:=fs) (z:=z) (sz:=sz) (by_:=by_) (pl:=pl) (cs:=⟨cs⟩) hps (by simpa using h) hlt hk
theorem T.buildAL {ps:List (Nat × Operand)} {us:List (Nat × Value)} {d:Tmp} {t E n:Nat} [HU c.P t (.array n E)] {z zE:Value} {sz by_ szE byE:Nat} [HI c.P t z sz by_] [HI c.P E zE szE byE] {cs:List Value} (hps:evps e ps=some us) (hf:Z7f (fun i=>some (i*szE,szE)) (Z1X z) us=some cs)
  (hlt:Nat.blt d c.fn.ntmps=true) (hk:Sr q c ds H ops l κ ((d,.agg ⟨cs⟩)::e)):Sr q c ds H ops (⟨some d,.build t ps.toArray,ty,pos,aft,none⟩::l) κ e:=by
 have h:=Z3x hf
 rw [←Z0R] at h
 exact T.buildA (E:=E) (n:=n) (z:=z) (zE:=zE) (sz:=sz) (by_:=by_) (byE:=byE) (cs:=⟨cs⟩) hps (by simpa using h) hlt hk
end

/- Made slices are rows. -/
section
variable {c:Ctx} {ds:List Deferred} {H:List Res} {ops:Array Oper} {l:List Oper} {κ:List Res→Env→Prop} {dr:Bool} {e:Env} {ty:TypeId} {pos:String} {aft:Array Edge} {k:List Item} {q:Mode}
theorem T.sliceA {x lo:Operand} {d:Tmp} {b off n:Nat} {kd:IntKind} {i:Int} {t E:TypeId} {z:Value} {sz by_:Nat} [HU c.P t (.array n E)] [HI c.P E z sz by_] (hx:ev e x=some (.pointer (some ⟨b,off,none⟩))) (hl:ev e lo=some (.int kd i)) (h0:0≤i∧i < n)
  (hlt:Nat.blt d c.fn.ntmps=true) (hk:Sr q c ds H ops l κ ((d,.slice (some ⟨b,off+i.toNat*sz,none⟩) (n - i.toNat) (n - i.toNat))::e)):Sr q c ds H ops (⟨some d,.slice t x (some lo) none none,ty,pos,aft,none⟩::l) κ e:=Sr.p (Pu.sliceA (E:=E) (z:=z) (by_:=by_) hx hl h0) rfl hlt rfl hk
theorem T.assert {x:Operand} {d:Tmp} {t t':TypeId} {v:Value} {dd:TypeDesc} [HU c.P t' dd] {s:TypeId} (hx:ev e x=some (.iface t v)) (hd:Z4R dd=true) (ht:Nat.beq t t'=true) (hlt:Nat.blt d c.fn.ntmps=true) (hk:Sr q c ds H ops l κ ((d,.tuple ⟨[v,.bool true]⟩)::e)):Sr q c ds H ops (⟨some d,.typeAssert x s t' true,ty,pos,aft,none⟩::l) κ e:=Sr.p (Pu.assert (d:=dd) hx hd ht) rfl hlt rfl hk
theorem T.neqIf {x:Operand} {d:Tmp} {u:Value} {t t' t'':TypeId} {ms:Array (String × TypeId)} [HU c.P t (.interface ms)] (hx:ev e x=some (.iface t' u)) (hlt:Nat.blt d c.fn.ntmps=true) (hk:Sr q c ds H ops l κ ((d,.bool true)::e)):Sr q c ds H ops (⟨some d,.binOp .neq t x (.const .nilIface) t'',ty,pos,aft,none⟩::l) κ e:=Sr.p (Pu.neqIf hx) rfl hlt rfl hk
theorem T.neqNil {x:Operand} {d:Tmp} {t t'':TypeId} {ms:Array (String × TypeId)} [HU c.P t (.interface ms)] (hx:ev e x=some .nilIface) (hlt:Nat.blt d c.fn.ntmps=true) (hk:Sr q c ds H ops l κ ((d,.bool false)::e)):Sr q c ds H ops (⟨some d,.binOp .neq t x (.const .nilIface) t'',ty,pos,aft,none⟩::l) κ e:=Sr.p (Pu.neqNil hx) rfl hlt rfl hk
end

section
variable {c:Ctx} {ds:List Deferred} {H:List Res} {ops:Array Oper} {l:List Oper} {κ:List Res→Env→Prop} {dr:Bool} {e:Env} {ty:TypeId} {pos:String} {aft:Array Edge} {k:List Item} {q:Mode}
theorem T.ixK {x y:Operand} {d:Tmp} {ad:Option Addr} {n cp i:Nat} {kd:IntKind} {t E:TypeId} [HU c.P t (.slice E)] {z:Value} {by_:Nat} [HI c.P E z 1 by_] {vs:List Value} (hx:ev e x=some (.slice ad n cp)) (hy:ev e y=some (.int kd (Int.ofNat i))) (hr:Rd c.F c.M H ad vs) (h0:i < n) (hl:i < vs.length)
  (hlt:Nat.blt d c.fn.ntmps=true) (hk:Sr q c ds H ops l κ ((d,.pointer (eaddr ad i))::e)):Sr q c ds H ops (⟨some d,.indexAddr t x y,ty,pos,aft,none⟩::l) κ e:=Sr.p (Pu.ixN (E:=E) (z:=z) (by_:=by_) (vs:=vs) hx hy h0 hl) rfl hlt rfl hk
theorem T.ixC {x:Operand} {d:Tmp} {ad:Option Addr} {n cp i:Nat} {kd:IntKind} {t E:TypeId} [HU c.P t (.slice E)] {z:Value} {by_:Nat} [HI c.P E z 1 by_] {vs:List Value} (hx:ev e x=some (.slice ad n cp)) (hr:Rd c.F c.M H ad vs) (h0:(@OfNat.ofNat Nat i (instOfNatNat i)) < n) (hl:(@OfNat.ofNat Nat i (instOfNatNat i)) < vs.length)
  (hlt:Nat.blt d c.fn.ntmps=true) (hk:Sr q c ds H ops l κ ((d,.pointer (eaddr ad (@OfNat.ofNat Nat i (instOfNatNat i))))::e)):Sr q c ds H ops (⟨some d,.indexAddr t x (.const (.int kd (@OfNat.ofNat Int i instOfNat))),ty,pos,aft,none⟩::l) κ e:=T.ixK (E:=E) (z:=z) (by_:=by_) (vs:=vs) hx rfl hr h0 hl hlt hk
theorem T.sliceLK {x lo:Operand} {d:Tmp} {ad:Option Addr} {n cp i:Nat} {kd:IntKind} {t E:TypeId} {z:Value} {sz by_:Nat} [HU c.P t (.slice E)] [HI c.P E z sz by_] (hx:ev e x=some (.slice ad n cp)) (hl:ev e lo=some (.int kd (Int.ofNat i))) (h0:i≤n)
  (hlt:Nat.blt d c.fn.ntmps=true) (hk:Sr q c ds H ops l κ ((d,.slice (saddr ad cp i sz) (n - i) (cp - i))::e)):Sr q c ds H ops (⟨some d,.slice t x (some lo) none none,ty,pos,aft,none⟩::l) κ e:=Sr.p (Pu.sliceL (E:=E) (z:=z) (by_:=by_) hx hl ⟨Int.natCast_nonneg i,Int.ofNat_le.2 h0⟩) rfl hlt rfl hk
theorem T.sliceHK {x hi:Operand} {d:Tmp} {ad:Option Addr} {n cp j:Nat} {kd:IntKind} {t E:TypeId} {z:Value} {sz by_:Nat} [HU c.P t (.slice E)] [HI c.P E z sz by_] (hx:ev e x=some (.slice ad n cp)) (hl:ev e hi=some (.int kd (Int.ofNat j))) (h0:j≤cp)
  (hlt:Nat.blt d c.fn.ntmps=true) (hk:Sr q c ds H ops l κ ((d,.slice ad j cp)::e)):Sr q c ds H ops (⟨some d,.slice t x none (some hi) none,ty,pos,aft,none⟩::l) κ e:=Sr.p (Pu.sliceH (E:=E) (z:=z) (by_:=by_) hx hl ⟨Int.natCast_nonneg j,Int.ofNat_le.2 h0⟩) rfl hlt rfl hk
theorem T.sliceLHK {x lo hi:Operand} {d:Tmp} {ad:Option Addr} {n cp i j:Nat} {kd kd':IntKind} {t E:TypeId} {z:Value} {sz by_:Nat} [HU c.P t (.slice E)] [HI c.P E z sz by_] (hx:ev e x=some (.slice ad n cp)) (hl:ev e lo=some (.int kd (Int.ofNat i))) (hh:ev e hi=some (.int kd' (Int.ofNat j))) (h0:i≤j∧j≤cp)
  (hlt:Nat.blt d c.fn.ntmps=true) (hk:Sr q c ds H ops l κ ((d,.slice (saddr ad cp i sz) (j - i) (cp - i))::e)):Sr q c ds H ops (⟨some d,.slice t x (some lo) (some hi) none,ty,pos,aft,none⟩::l) κ e:=Sr.p (Pu.sliceLH (E:=E) (z:=z) (by_:=by_) hx hl hh ⟨Int.natCast_nonneg i,Int.ofNat_le.2 h0.1,Int.ofNat_le.2 h0.2⟩) rfl hlt rfl hk
theorem T.sliceLC {x:Operand} {d:Tmp} {ad:Option Addr} {n cp i:Nat} {kd:IntKind} {t E:TypeId} [HU c.P t (.slice E)] {z:Value} {sz by_:Nat} [HI c.P E z sz by_] (hx:ev e x=some (.slice ad n cp)) (h0:(@OfNat.ofNat Nat i (instOfNatNat i))≤n)
  (hlt:Nat.blt d c.fn.ntmps=true) (hk:Sr q c ds H ops l κ ((d,.slice (saddr ad cp (@OfNat.ofNat Nat i (instOfNatNat i)) sz) (n - (@OfNat.ofNat Nat i (instOfNatNat i))) (cp - (@OfNat.ofNat Nat i (instOfNatNat i))))::e)):Sr q c ds H ops (⟨some d,.slice t x (some (.const (.int kd (@OfNat.ofNat Int i instOfNat)))) none none,ty,pos,aft,none⟩::l) κ e:=T.sliceLK (E:=E) (z:=z) (by_:=by_) hx rfl h0 hlt hk
end

section
variable {c:Ctx} {ds:List Deferred} {H:List Res} {ops:Array Oper} {l:List Oper} {κ:List Res→Env→Prop} {dr:Bool} {e:Env} {ty:TypeId} {pos:String} {aft:Array Edge} {k:List Item} {q:Mode}
theorem T.remI64 {x y:Operand} {d:Tmp} {t u:TypeId} {m n:Nat} (hx:ev e x=some (.int .i64 (m:Int))) (hy:ev e y=some (.int .i64 (n:Int))) (hn:0 < n) (hlt:Nat.blt d c.fn.ntmps=true) (hk:Sr q c ds H ops l κ ((d,.int .i64 ((m % n:Nat):Int))::e)) :
  Sr q c ds H ops (⟨some d,.binOp .rem t x y u,ty,pos,aft,none⟩::l) κ e:=Sr.p (Pu.rem hx hy (by omega) (by rw [Int.tmod_eq_emod_of_nonneg (by omega)];rfl)) rfl hlt rfl hk
theorem T.quoI64 {x y:Operand} {d:Tmp} {t u:TypeId} {m n:Nat} (hx:ev e x=some (.int .i64 (m:Int))) (hy:ev e y=some (.int .i64 (n:Int))) (hn:0 < n) (hm:m < 9223372036854775808) (hlt:Nat.blt d c.fn.ntmps=true) (hk:Sr q c ds H ops l κ ((d,.int .i64 ((m / n:Nat):Int))::e)) :
  Sr q c ds H ops (⟨some d,.binOp .quo t x y u,ty,pos,aft,none⟩::l) κ e:=Sr.p (Pu.quo hx hy (by omega) (by
   rw [Int.tdiv_eq_ediv_of_nonneg (by omega)]
   have h:m / n≤m:=Nat.div_le_self _ _
   rw [←Int.natCast_ediv]
   generalize m / n=r at h
   exact IntWalk.i64_in (r:Int) (by omega))) rfl hlt rfl hk
end

/- Natural numbers as elements; cells of blocks whose parts are lists. -/
abbrev nV (n:Nat):Value:=.int .i64 n
theorem getN {xs:List Nat} {j:Nat} (h:j < xs.length):(xs.map nV)[j]?=some (.int .i64 ((xs.getD j 0:Nat):Int)):=by
 simp [List.getD,h]
section
variable {c:Ctx} {ds:List Deferred} {H:List Res} {ops:Array Oper} {l:List Oper} {κ:List Res→Env→Prop} {dr:Bool} {e:Env} {ty:TypeId} {pos:String} {aft:Array Edge} {k:List Item} {q:Mode}
theorem T.fieldAddrZ {x:Operand} {d b i fo:Nat} {t:TypeId} [HFd c.P t i fo] (hx:ev e x=some (.pointer (some ⟨b,0,none⟩))) (hlt:Nat.blt d c.fn.ntmps=true) (hk:Sr q c ds H ops l κ ((d,.pointer (some ⟨b,fo,none⟩))::e)):Sr q c ds H ops (⟨some d,.fieldAddr t x i,ty,pos,aft,none⟩::l) κ e:=by
 have:=Pu.fieldAddr (c:=c) (H:=H) (e:=e) (dst:=some d) (ty:=ty) (pos:=pos) (aft:=aft) (g:=none) (fo:=fo) (t:=t) (i:=i) hx
 rw [Nat.zero_add] at this
 exact Sr.p this rfl hlt rfl hk
theorem T.ixAZ {x y:Operand} {d b n i:Nat} {kd:IntKind} {t E:TypeId} [HU c.P t (.array n E)] {z:Value} {by_:Nat} [HI c.P E z 1 by_] (hx:ev e x=some (.pointer (some ⟨b,0,none⟩))) (hy:ev e y=some (.int kd (i:Int))) (h0:i < n) (hlt:Nat.blt d c.fn.ntmps=true)
  (hk:Sr q c ds H ops l κ ((d,.pointer (some ⟨b,i,none⟩))::e)):Sr q c ds H ops (⟨some d,.indexAddr t x y,ty,pos,aft,none⟩::l) κ e:=by
 have:=Pu.indexAddrA (c:=c) (H:=H) (e:=e) (dst:=some d) (ty:=ty) (pos:=pos) (aft:=aft) (g:=none) (t:=t) (E:=E) (z:=z) (sz:=1) (by_:=by_) hx hy (by omega)
 simp only [Int.toNat_natCast,Nat.mul_one,Nat.zero_add] at this
 exact Sr.p this rfl hlt rfl hk
theorem T.ixAN {x y:Operand} {d b off n i:Nat} {kd:IntKind} {t E:TypeId} [HU c.P t (.array n E)] {z:Value} {by_:Nat} [HI c.P E z 1 by_] (hx:ev e x=some (.pointer (some ⟨b,off,none⟩))) (hy:ev e y=some (.int kd (i:Int))) (h0:i < n) (hlt:Nat.blt d c.fn.ntmps=true)
  (hk:Sr q c ds H ops l κ ((d,.pointer (some ⟨b,off+i,none⟩))::e)):Sr q c ds H ops (⟨some d,.indexAddr t x y,ty,pos,aft,none⟩::l) κ e:=by
 have:=Pu.indexAddrA (c:=c) (H:=H) (e:=e) (dst:=some d) (ty:=ty) (pos:=pos) (aft:=aft) (g:=none) (t:=t) (E:=E) (z:=z) (sz:=1) (by_:=by_) hx hy (by omega)
 simp only [Int.toNat_natCast,Nat.mul_one] at this
 exact Sr.p this rfl hlt rfl hk
theorem Z11 (xs:List UInt8):(xs.map bV).all (·.oneCell')=true:=by
 rw [List.all_map]
 exact List.all_eq_true.2 fun _ _=>rfl
theorem T.loadNat {x:Operand} {d:Tmp} {ad:Option Addr} {j:Nat} {t:TypeId} [HU c.P t (.int .i64)] {xs:List Nat} (hx:ev e x=some (.pointer (eaddr ad j))) (hr:Rd c.F c.M H ad (xs.map nV)) (hj:j < xs.length) (hlt:Nat.blt d c.fn.ntmps=true)
  (hk:Sr q c ds H ops l κ ((d,.int .i64 ((xs.getD j 0:Nat):Int))::e)):Sr q c ds H ops (⟨some d,.load t x,ty,pos,aft,none⟩::l) κ e:=Sr.p (Pu.loadE (d:=.int .i64) hx rfl (getN hj)) rfl hlt rfl hk
instance Rd.blk0 {F:World} {M:List Nat} {H:List Res} {b:Nat} {vs:List Value} {E:TypeId}:Rd F M (.blk b vs E::H) (some ⟨b,0,none⟩) vs:=⟨fun w hw j u hu=>⟨⟨b,0,none⟩,rfl,by rw [Zo,Nat.zero_add,hw.cell (List.mem_cons_self ..)];exact hu⟩⟩
theorem T.loadW {x:Operand} {d b:Nat} {t:TypeId} {dd:TypeDesc} [HU c.P t dd] {z:Value} {n by_:Nat} [HI c.P t z n by_] {vs:List Value} {E:TypeId} (hx:ev e x=some (.pointer (some ⟨b,0,none⟩))) (hd:plain dd=false) (hb:InB H b vs E) (hn:vs.length=n) (hlt:Nat.blt d c.fn.ntmps=true)
  (hk:Sr q c ds H ops l κ ((d,.agg ⟨vs⟩)::e)):Sr q c ds H ops (⟨some d,.load t x,ty,pos,aft,none⟩::l) κ e:=by
 have h:=Pu.loadN (c:=c) (H:=H) (e:=e) (dst:=some d) (ty:=ty) (pos:=pos) (aft:=aft) (g:=none) (t:=t) (d:=dd) (z:=z) (by_:=by_) (n:=n) (vs:=vs) (E:=E) (off:=0) hx hd (by simp [hn])
 rw [List.drop_zero,List.take_of_length_le (by omega)] at h
 exact Sr.p h rfl hlt rfl hk
theorem T.storeW {x y:Operand} {b:Nat} {t:TypeId} {z:Value} {n by_:Nat} [HI c.P t z n by_] {vs:List Value} {E:TypeId} {us:List Value} {f:Res→List Res} (hx:ev e x=some (.pointer (some ⟨b,0,none⟩))) (hy:ev e y=some (.agg ⟨us⟩))
  (hb:AtB H b vs E f) (hn:us.length=n) (hi:vs.length=n) (hv:us.all (·.oneCell')=true) (hk:Sr (.eff dr) c ds (f (.blk b us E)) ops l κ e):Sr (.eff dr) c ds H ops (⟨none,.store t x y,ty,pos,aft,none⟩::l) κ e:=by
 refine Sr.storeN (z:=z) (by_:=by_) hx hy hn (by omega) hv ?_
 have h0:List.drop n vs=[]:=List.drop_eq_nil_of_le (by omega)
 simpa [h0] using hk
theorem T.appendN {d:Tmp} {x y:Operand} {ad:Option Addr} {n cp b t E Eb:Nat} {m:Nat} [HU c.P t (.slice E)] {z:Value} {by_:Nat} [HI c.P E z 1 by_] {xs:List Nat} {f:Res→List Res} (hx:ev e x=some (.slice ad n cp)) (hy:ev e y=some (.slice (some ⟨b,0,none⟩) 1 1))
  (hr:AtR H ad cp E 1 n (xs.map nV) f) (hzs:z.cells.size=1) (hroom:(n+1)*by_≤140737488355328∧n+1≤140737488355328) (hlt:Nat.blt d c.fn.ntmps=true)
  (hk:∀ ad' cp',Sr (.eff dr) c ds (f (.row ad' cp' E 1 (n+1) ((xs++[m]).map nV))) ops l κ ((d,.slice ad' (n+1) cp')::e)) :
  Sr (.eff dr) c ds (.blk b [.int .i64 (m:Int)] Eb::H) ops (⟨some d,.call ⟨.builtin .append,#[x,y],#[t,t]⟩,ty,pos,aft,none⟩::l) κ e:=Sr.append (z:=z) (by_:=by_) hx hy rfl rfl hzs (by omega) hroom hlt (fun ad' cp'=>by
  have:=hk ad' cp'
  rw [List.map_append] at this
  exact this)
theorem T.appendB {d:Tmp} {x y:Operand} {ad:Option Addr} {n cp b t E Eb:Nat} {m:UInt8} [HU c.P t (.slice E)] {z:Value} {by_:Nat} [HI c.P E z 1 by_] {xs:List UInt8} {f:Res→List Res} (hx:ev e x=some (.slice ad n cp)) (hy:ev e y=some (.slice (some ⟨b,0,none⟩) 1 1))
  (hr:AtR H ad cp E 1 n (xs.map bV) f) (hzs:z.cells.size=1) (hroom:(n+1)*by_≤140737488355328∧n+1≤140737488355328) (hlt:Nat.blt d c.fn.ntmps=true)
  (hk:∀ ad' cp',Sr (.eff dr) c ds (f (.row ad' cp' E 1 (n+1) ((xs++[m]).map bV))) ops l κ ((d,.slice ad' (n+1) cp')::e)) :
  Sr (.eff dr) c ds (.blk b [.int .u8 (m.toNat:Int)] Eb::H) ops (⟨some d,.call ⟨.builtin .append,#[x,y],#[t,t]⟩,ty,pos,aft,none⟩::l) κ e:=Sr.append (z:=z) (by_:=by_) hx hy rfl rfl hzs (by omega) hroom hlt (fun ad' cp'=>by
  have:=hk ad' cp'
  rw [List.map_append] at this
  exact this)
theorem Z5j {w:World} {ad:Option Addr} {cp sz n:Nat} {E:TypeId} {xs:List Value} (h:w.ownsRow 0 E sz (.slice ad n cp) n xs):n≤cp:=by
 rcases h.2 with ⟨hv,h0⟩|⟨g,cap,cur,hv,_,_,h4,_⟩
 ·simp only [Value.slice.injEq] at hv;omega
 ·simp only [Value.slice.injEq] at hv;omega
theorem Sr.capR {ad:Option Addr} {cp n sz:Nat} {E:TypeId} {xs:List Value} {f:Res→List Res} (hr:AtR H ad cp E sz n xs f) (h:n≤cp→Sr (.eff dr) c ds H ops l κ e):Sr (.eff dr) c ds H ops l κ e:=by
 unfold Sr at h ⊢
 intro w a hw ha hd
 obtain ⟨rest,h1,-⟩:=hr.h
 exact h (Z5j ((hw.perm h1).res _ (List.mem_cons_self ..))) w a hw ha hd
theorem S.capR {ad:Option Addr} {cp n sz:Nat} {E:TypeId} {xs:List Value} {f:Res→List Res} (hr:AtR H ad cp E sz n xs f) (h:n≤cp→S c ds H k e):S c ds H k e:=by
 unfold S at h ⊢
 intro w a hw ha hd
 obtain ⟨rest,h1,-⟩:=hr.h
 exact h (Z5j ((hw.perm h1).res _ (List.mem_cons_self ..))) w a hw ha hd
theorem T.appendAll {α:Type} {g:α→Value} {d:Tmp} {x y:Operand} {ad sad:Option Addr} {n cp m scp t E:Nat} [HU c.P t (.slice E)] {z:Value} {by_:Nat} [HI c.P E z 1 by_] {xs us:List α} {f:Res→List Res} (hx:ev e x=some (.slice ad n cp)) (hy:ev e y=some (.slice sad m scp))
  (hr:AtR H ad cp E 1 n (xs.map g) f) (hs:Rd c.F c.M H sad (us.map g)) (hm:us.length=m) (hg:∀ u,(g u).oneCell'=true) (hzs:z.cells.size=1) (hroom:(n+m)*by_≤140737488355328∧n+m≤140737488355328) (hlt:Nat.blt d c.fn.ntmps=true)
  (hk:∀ ad' cp',Sr (.eff dr) c ds (f (.row ad' cp' E 1 (n+m) ((xs++us).map g))) ops l κ ((d,.slice ad' (n+m) cp')::e)) :
  Sr (.eff dr) c ds H ops (⟨some d,.call ⟨.builtin .append,#[x,y],#[t,t]⟩,ty,pos,aft,none⟩::l) κ e:=by
 have hk':∀ ad' cp',Sr (.eff dr) c ds (f (.row ad' cp' E 1 (n+m) (xs.map g++us.map g))) ops l κ ((d,.slice ad' (n+m) cp')::e):=fun ad' cp'=>by rw [←List.map_append];exact hk ad' cp'
 cases sad with
 | some q=>exact Sr.appendR (z:=z) (by_:=by_) hx hy (by simp) (by simpa using hm) (by simpa using fun u _=>hg u) hzs (by omega) hroom hlt hk'
 | none =>
  have he:Ef c H e ⟨some d,.call ⟨.builtin .append,#[x,y],#[t,t]⟩,ty,pos,aft,none⟩ (fun v H'=>∃ ad' cp',v=.slice ad' (n+m) cp'∧H'=f (.row ad' cp' E 1 (n+m) (xs.map g++us.map g))):=fun w a hw ha=>by
   have hus:us=[]:=by
    cases us with
    | nil=>rfl
    | cons u r =>
     obtain ⟨ad',h1,-⟩:=hs.h w hw 0 (g u) rfl
     cases h1
   subst hus
   subst hm
   obtain ⟨rest,h1,h2⟩:=hr.h
   have hcap:n≤cp:=Z5j ((hw.perm h1).res _ (List.mem_cons_self ..))
   have hrun:=Z5a (P:=c.P) (t:=t) (E:=E) (ty:=ty) (z:=z) (sz:=1) (by_:=by_) (ad:=ad) (scp:=scp) hcap w
   refine ⟨.slice ad n cp,w,_,.inl (by simp [execOp,ha.ev hx,ha.ev hy,resolve,invoke,builtin,hrun]),hw.perm ((h1.trans ?_)),ad,cp,rfl,rfl⟩
   simpa using h2 (.row ad cp E 1 n (xs.map g))
  exact Sr.eff he hlt rfl (fun v H' ⟨ad',cp',hv,hH⟩=>by subst hv hH;exact hk' ad' cp')
end

/- The end of a call: results in cells; deferred calls. -/
section
variable {c:Ctx} {ds:List Deferred} {H:List Res} {e:Env} {k:List Item}
theorem RV.cell1 {t:Tmp} {T:TypeId} {b off:Nat} {v:Value} {d:TypeDesc} {us:List Value} {E:TypeId} {rs:List ResultVar} {vs:List Value} (h1:get? e t=some (.pointer (some ⟨b,off,none⟩))) [HU c.P T d] (hd:plain d=true) [hb:InB H b us E] (hv:us[off]?=some v) (h3:RV c H e rs vs):RV c H e (.cell t T::rs) (v::vs) :=
 .cell h1 (fun _w hw=>Z5r (d:=d) hd ((hw.cell hb.h off).trans hv)) h3
theorem RV.cellN {t:Tmp} {T:TypeId} {b off n by_:Nat} {d:TypeDesc} {z:Value} {us:List Value} {E:TypeId} {rs:List ResultVar} {vs:List Value} (h1:get? e t=some (.pointer (some ⟨b,off,none⟩))) [HU c.P T d] (hd:plain d=false) [hb:InB H b us E] [HI c.P T z n by_] (hn:((us.drop off).take n).length=n) (h3:RV c H e rs vs) :
  RV c H e (.cell t T::rs) (.agg ⟨(us.drop off).take n⟩::vs) :=
 .cell h1 (fun w hw=>Z5q (P:=c.P) (t:=T) (d:=d) (z:=z) (by_:=by_) (vs:=(us.drop off).take n) hn hd (ad:=⟨b,off,none⟩) (w:=w) (fun j v hj=>by
  rw [Zo,hw.cell hb.h]
  have hjn:j < n:=by have:=(List.getElem?_eq_some_iff.1 hj).1;omega
  rw [List.getElem?_take_of_lt hjn,List.getElem?_drop] at hj
  exact hj)) h3
theorem RV.cellW {t:Tmp} {T:TypeId} {b n by_:Nat} {d:TypeDesc} {z:Value} {us:List Value} {E:TypeId} {rs:List ResultVar} {vs:List Value} [HU c.P T d] [HI c.P T z n by_] (h1:get? e t=some (.pointer (some ⟨b,0,none⟩))) (hd:plain d=false) (hb:InB H b us E) (hn:us.length=n) (h3:RV c H e rs vs) :
  RV c H e (.cell t T::rs) (.agg ⟨us⟩::vs):=by
 have h:=RV.cellN (c:=c) (T:=T) (z:=z) (by_:=by_) (n:=n) (us:=us) (off:=0) h1 hd (by simp [hn]) h3
 rwa [List.drop_zero,List.take_of_length_le (by omega)] at h
theorem RV.cellP {t:Tmp} {T:TypeId} {b off:Nat} {v:Value} {d:TypeDesc} {us:List Value} {E:TypeId} {rs:List ResultVar} {vs:List Value} [HU c.P T d] (h1:get? e t=some (.pointer (some ⟨b,off,none⟩))) (hd:plain d=true) (hb:InB H b us E) (hv:us[off]?=some v) (h3:RV c H e rs vs):RV c H e (.cell t T::rs) (v::vs):=RV.cell1 h1 hd hv h3
theorem ZcT {a:Act} {w:World} {b:Frame} {v:Value} {todo:List Item} (hf:c.P.funcs[c.f]?=some c.fn) (hbf:b.fn=c.f) (hbk:b.kind=Z2o c) (hd:a.defers=[]) (hres:(results c.fn a.tmps).run c.P w=.ok v w):Out c { b.at a todo with mode:=.returning } w (.returned v):=by
 unfold Out
 unfold Z2o at hbk
 cases hl:c.late with
 | false=>exact ⟨rfl,hd,by simpa [Frame.at,hl] using hbk,c.fn,by rw [←hf,←hbf];rfl,hres⟩
 | true=>exact ⟨by simpa [Frame.at,hl] using hbk,rfl,hd,c.fn,by rw [←hf,←hbf];rfl,hres⟩
theorem T.retW {v:Value} [hf:HFn c.P c.f c.fn] (hv:retv e c.fn.results.toList=some v) (hp:∃ H',PSub H' H∧c.post (.returned v) H'):S c [] H (.code .ret::k) e:=by
 obtain ⟨H',hs,hp⟩:=hp
 exact S.sublist (T.ret hv hp) hs
theorem T.doneW {v:Value} [hf:HFn c.P c.f c.fn] (hv:retv e c.fn.results.toList=some v) (hp:∃ H',PSub H' H∧c.post (.returned v) H'):S c [] H [] e:=by
 obtain ⟨H',hs,hp⟩:=hp
 exact S.sublist (T.done hv hp) hs
theorem T.diesW {dr:Bool} {chain:List PanicEntry} (hp:∃ H',PSub H' H∧c.post (.panicked chain) H'):D c dr [] H chain e:=by
 obtain ⟨H',hs,hp⟩:=hp
 exact fun w a hw ha hd=>T.dies hp w a (hw.psub hs) ha hd
theorem T.retC {rs:List ResultVar} {vs:List Value} {v:Value} [hf:HFn c.P c.f c.fn] (hrs:c.fn.results.toList=rs) (hv:RV c H e rs vs) (hpk:pack vs=v) (hp:∃ H',PSub H' H∧c.post (.returned v) H'):S c [] H (.code .ret::k) e:=by
 subst hpk
 have hr:c.fn.results=rs.toArray:=by rw [←hrs]
 obtain ⟨H',hs,hp⟩:=hp
 unfold S
 intro w a hw ha hd b cs hbf hbk
 have hres:=Z0K hr (hv.run hw ha)
 refine ⟨.returned (pack vs),w,{ b.at a (.code .ret::k) with mode:=.returning },⟨H',hp,hw.psub hs⟩,Steps.one step_ret,hbf,?_⟩
 exact ZcT (todo:=.code .ret::k) hf.h hbf hbk hd hres
def MeetsR (P:Program) (g:FuncId) (args:List Value) (u u':FrameMode) (F:World) (M:List Nat) (H:List Res) (post:Ending→List Res→Prop):Prop :=
 ∀ w,St F M w H→CallsD P g ⟨args⟩ u w fun e m w'=>m=u'∧∃ H',post e H'∧St F M w' H'
def SD (c:Ctx) (u u':FrameMode) (H:List Res) (todo:List Item) (e:Env):Prop :=
 ∀ w a,St c.F c.M w H→Ok c.fn.ntmps e a→a.defers=[]→∀ (b c₀:Frame) (cs:List Frame),b.fn=c.f→b.kind=.deferred→b.roundOf=none→c₀.mode=u →
  ∃ e w' fr,Fine c e w'∧Comes c.P (lone (b.at a todo) (c₀::cs) w) (lone fr ({ c₀ with mode:=u' }::cs) w') e∧fr.fn=c.f∧fr.kind=.deferred∧fr.going c.P w' e
theorem MeetsR.enter {P:Program} {g:FuncId} {fn:Func} {body:Code} {args:List Value} {u u':FrameMode} {F:World} {M:List Nat} {H:List Res} {post:Ending→List Res→Prop}
  (hf:P.funcs[g]?=some fn) (hb:fn.body=some body) (hn:Nat.ble args.length fn.ntmps=true) (h:SD ⟨P,g,fn,F,M,post,true⟩ u u' H [.code body] (Z7i 0 args)):MeetsR P g args u u' F M H post:=fun w hw c₀ cs hu=>by
 let b:Frame:={ (default:Frame) with fn:=g,kind:=.deferred }
 have henter:Frame.enter P g ⟨args⟩ .deferred=b.at { tmps:=⟨args⟩++Array.replicate (fn.ntmps - args.length) undef,defers:=[] } [.code body]:=by
  simp [Frame.enter,Frame.at,hf,hb,b]
 have hok:=Z8c (n:=fn.ntmps) (ds:=[]) args
 rw [Nat.max_eq_left (Nat.le_of_ble_eq_true hn)] at hok
 obtain ⟨e,w',fr,h1,h2,h3,h4,h5⟩:=h w _ hw hok rfl b c₀ cs rfl rfl rfl hu
 rw [←henter] at h2
 exact ⟨e,u',w',fr,⟨rfl,h1⟩,h2,h4,h5⟩
theorem SD.seq {u u':FrameMode} {x y:Code} (h:SD c u u' H (.code x::.code y::k) e):SD c u u' H (.code (.seq x y)::k) e:=fun w a hw ha hd b c₀ cs h1 h2 h3 h4=>by
 obtain ⟨e₁,w₁,fr,q1,q2,q3⟩:=h w a hw ha hd b c₀ cs h1 h2 h3 h4
 exact ⟨e₁,w₁,fr,q1,.of_steps (.one step_seq) q2,q3⟩
def found:FrameMode→Value × FrameMode
 | .panicking ({ v,recovered:=false,goexit:=false }::older)=>(v,.panicking ({ v,recovered:=true }::older))
 | m=>(.nilIface,m)
theorem SD.recoverA {u u':FrameMode} {d d' id:Nat} {x:Value} {ats:Array TypeId} {ty:TypeId} {pos:String} {aft aft':Array Edge} {ty':TypeId} {pos':String} (hl:c.late=true) (hu:found u=(x,u')) (hlt:Nat.blt d c.fn.ntmps=true) (hlt':Nat.blt d' c.fn.ntmps=true) (h:S c [] H k ((d',x)::(d,x)::e)) :
  SD c u u' H (.code (.region id #[⟨some d,.call ⟨.builtin .recover,#[],ats⟩,ty,pos,aft,none⟩,⟨some d',.assign (.tmp d),ty',pos',aft',none⟩] false)::k) e:=fun w a hw ha hd b c₀ cs h1 h2 h3 h4=>by
 subst h4
 have hrun:(execOp a.eval (⟨some d,.call ⟨.builtin .recover,#[],ats⟩,ty,pos,aft,none⟩:Oper)).run c.P w=.ok .recover w:=by
  simp [execOp,resolve,invoke,builtin]
 have key:∀ cs',recoverD (c₀::cs)=some (x,cs')∨(recoverD (c₀::cs)=none∧x=.nilIface∧cs'=c₀::cs) →
   step c.P (lone (b.at a (.inRegion #[⟨some d,.call ⟨.builtin .recover,#[],ats⟩,ty,pos,aft,none⟩,⟨some d',.assign (.tmp d),ty',pos',aft',none⟩] [0,1]::k)) (c₀::cs) w)=.next (lone (b.at (a.put (some d) x) (.inRegion #[⟨some d,.call ⟨.builtin .recover,#[],ats⟩,ty,pos,aft,none⟩,⟨some d',.assign (.tmp d),ty',pos',aft',none⟩] [1]::k)) cs' w):=by
  intro cs' hr
  have hg:=stepG_op (P:=c.P) (b:=b) (a:=a) (k:=k) (cs:=c₀::cs) (w:=w) (ops:=#[⟨some d,.call ⟨.builtin .recover,#[],ats⟩,ty,pos,aft,none⟩,⟨some d',.assign (.tmp d),ty',pos',aft',none⟩]) (i:=0) (rest:=[1]) (o:=⟨some d,.call ⟨.builtin .recover,#[],ats⟩,ty,pos,aft,none⟩) rfl (by simp [Region.wanted])
  have hfin:∀ v,(b.at a (.inRegion #[(⟨some d,.call ⟨.builtin .recover,#[],ats⟩,ty,pos,aft,none⟩:Oper),⟨some d',.assign (.tmp d),ty',pos',aft',none⟩] [0,1]::k)).finish v=b.at (a.put (some d) v) (.inRegion #[(⟨some d,.call ⟨.builtin .recover,#[],ats⟩,ty,pos,aft,none⟩:Oper),⟨some d',.assign (.tmp d),ty',pos',aft',none⟩] [1]::k):=by
   intro v;rw [Frame.finish_at];rfl
  have hk:(b.at a (.inRegion #[(⟨some d,.call ⟨.builtin .recover,#[],ats⟩,ty,pos,aft,none⟩:Oper),⟨some d',.assign (.tmp d),ty',pos',aft',none⟩] [0,1]::k)).kind=.deferred:=h2
  have htr:=tryRecover_deferred hk (c₀::cs)
  refine step_lone_go ?_
  rw [hg,←hfin]
  simp only [Frame.at] at htr ⊢
  rcases hr with hr|⟨hr,rfl,rfl⟩<;>simp [stepG.apply,hrun,htr,hr]
 have hrec:∃ cs',(recoverD (c₀::cs)=some (x,cs')∨(recoverD (c₀::cs)=none∧x=.nilIface∧cs'=c₀::cs))∧cs'={ c₀ with mode:=u' }::cs:=by
  unfold found at hu
  split at hu
  ·rename_i v older hm
   simp only [Prod.mk.injEq] at hu
   obtain ⟨rfl,rfl⟩:=hu
   exact ⟨_,.inl (by simp [recoverD,hm]),rfl⟩
  ·rename_i hm
   simp only [Prod.mk.injEq] at hu
   obtain ⟨rfl,rfl⟩:=hu
   refine ⟨_,.inr ⟨?_,rfl,rfl⟩,rfl⟩
   simp only [recoverD]
 obtain ⟨cs',hr,rfl⟩:=hrec
 have hs:=key _ hr
 have ha1:=ha.put (d:=some d) hlt x
 have hev:(a.put (some d) x).eval (.tmp d)=x:=ha1.ev (x:=.tmp d) (by simp [ev,setd,get?])
 have hs2:step c.P (lone (b.at (a.put (some d) x) (.inRegion #[⟨some d,.call ⟨.builtin .recover,#[],ats⟩,ty,pos,aft,none⟩,⟨some d',.assign (.tmp d),ty',pos',aft',none⟩] [1]::k)) ({ c₀ with mode:=u' }::cs) w)=.next (lone (b.at ((a.put (some d) x).put (some d') x) (.inRegion #[⟨some d,.call ⟨.builtin .recover,#[],ats⟩,ty,pos,aft,none⟩,⟨some d',.assign (.tmp d),ty',pos',aft',none⟩] []::k)) ({ c₀ with mode:=u' }::cs) w):=by
  have hg:=stepG_op (P:=c.P) (b:=b) (a:=a.put (some d) x) (k:=k) (cs:={ c₀ with mode:=u' }::cs) (w:=w) (ops:=#[⟨some d,.call ⟨.builtin .recover,#[],ats⟩,ty,pos,aft,none⟩,⟨some d',.assign (.tmp d),ty',pos',aft',none⟩]) (i:=1) (rest:=[]) (o:=⟨some d',.assign (.tmp d),ty',pos',aft',none⟩) rfl (by simp [Region.wanted])
  have hrun2:(execOp (a.put (some d) x).eval (⟨some d',.assign (.tmp d),ty',pos',aft',none⟩:Oper)).run c.P w=.ok (.value x) w:=by
   simp [execOp,hev]
  have hfin:∀ v,(b.at (a.put (some d) x) (.inRegion #[(⟨some d,.call ⟨.builtin .recover,#[],ats⟩,ty,pos,aft,none⟩:Oper),⟨some d',.assign (.tmp d),ty',pos',aft',none⟩] [1]::k)).finish v=b.at ((a.put (some d) x).put (some d') v) (.inRegion #[⟨some d,.call ⟨.builtin .recover,#[],ats⟩,ty,pos,aft,none⟩,⟨some d',.assign (.tmp d),ty',pos',aft',none⟩] []::k):=by
   intro v;rw [Frame.finish_at];rfl
  refine step_lone_go ?_
  rw [hg,←hfin]
  simp only [Frame.at] at ⊢
  simp [stepG.apply,hrun2]
 unfold S at h
 obtain ⟨e₁,w₁,fr,q1,q2,q3,q4⟩:=h w ((a.put (some d) x).put (some d') x) hw (ha1.put (d:=some d') hlt' x) ((Zt _ _ _).trans ((Zt _ _ _).trans hd)) b ({ c₀ with mode:=u' }::cs) h1 (by unfold Z2o;rw [hl];exact h2)
 unfold Out at q4
 rw [hl] at q4
 refine ⟨e₁,w₁,fr,q1,.of_steps (.head step_region (.head hs (.head hs2 (.one step_region_end)))) q2,q3,q4.1,q4.2⟩
theorem S.retD {rs:List ResultVar} {g:FuncId} {cap vs:List Value} {post':Ending→List Res→Prop} {d:Deferred} (hf:c.P.funcs[c.f]?=some c.fn) (hr:c.fn.results=rs.toArray) (hl:c.late=false) [HF c.P g]
  (ht:d=⟨.fn (.func g) ⟨cap⟩,⟨vs⟩⟩) (hm:MeetsR c.P g (vs++cap) .returning .returning c.F c.M H post')
  (hp:∀ en H',post' en H'→(∃ x,en=.returned x)∧∃ us,RV c H' e rs us∧∃ H₂,(∀ w,St c.F c.M w H'→St c.F c.M w H₂)∧c.post (.returned (pack us)) H₂) {ret:Bool}:S c [d] H (if ret then .code .ret::k else []) e:=by
 unfold S
 intro w a hw ha hd b cs hbf hbk
 subst ht
 obtain ⟨gn,hg,hb,hn⟩:=HF.h (P:=c.P) (g:=g)
 have hbk':b.kind=.normal:=by unfold Z2o at hbk;rw [hl] at hbk;exact hbk
 have hfr:c.P.funcs[b.fn]?=some c.fn:=by rw [hbf];exact hf
 have key:∀ todo,∃ e' w' fr',Fine c e' w'∧Comes c.P (lone { b.at a todo with mode:=.returning } cs w) (lone fr' cs w') e'∧fr'.fn=b.fn∧fr'.leaving c.P w' e':=by
  intro todo
  refine leaves_steps (P:=c.P) (fn:=c.fn) (tmps:=a.tmps) (R:=fun e' w'=>Fine c e' w') [⟨.fn (.func g) ⟨cap⟩,⟨vs⟩⟩] .returning w { b.at a todo with mode:=.returning } cs rfl hd rfl hfr hbk' ⟨by simp,_,_,g,⟨vs++cap⟩,rfl,?_,?_⟩
  ·simp only [invoke]
   rw [Z0U hg hb hn]
   simp
  ·intro c₀ cs' hu
   obtain ⟨en,u',w',fr,⟨hu',H',hpost,hst⟩,h2,h3,h4⟩:=hm w hw c₀ cs' hu
   refine ⟨en,u',w',fr,?_,h2,h3,h4⟩
   obtain ⟨⟨x,rfl⟩,us,hrv,H₂,hst2,hp'⟩:=hp en H' hpost
   subst hu'
   exact ⟨_,Z0K hr (hrv.run hst ha),_,hp',hst2 _ hst⟩
 cases ret with
 | true =>
  obtain ⟨e',w',fr',q1,q2,q3,q4⟩:=key (.code .ret::k)
  exact ⟨e',w',fr',q1,.of_steps (.one step_ret) q2,q3.trans hbf,by unfold Out;rw [hl];exact q4⟩
 | false =>
  obtain ⟨e',w',fr',q1,q2,q3,q4⟩:=key []
  exact ⟨e',w',fr',q1,.of_steps (.one step_end) q2,q3.trans hbf,by unfold Out;rw [hl];exact q4⟩
theorem T.retDr {rs:List ResultVar} {g:FuncId} {cap vs:List Value} {post':Ending→List Res→Prop} {d:Deferred} [hf:HFn c.P c.f c.fn] (hr:c.fn.results=rs.toArray) (hl:c.late=false) [HF c.P g]
  (ht:d=⟨.fn (.func g) ⟨cap⟩,⟨vs⟩⟩) (hm:MeetsR c.P g (vs++cap) .returning .returning c.F c.M H post')
  (hp:∀ en H',post' en H'→(∃ x,en=.returned x)∧∃ us,RV c H' e rs us∧∃ H₂,(∀ w,St c.F c.M w H'→St c.F c.M w H₂)∧c.post (.returned (pack us)) H₂):S c [d] H (.code .ret::k) e :=
 S.retD (ret:=true) hf.h hr hl ht hm hp
theorem D.recovered {rs:List ResultVar} {g:FuncId} {cap vs:List Value} {post':Ending→List Res→Prop} {d:Deferred} {v:Value} (hf:c.P.funcs[c.f]?=some c.fn) (hr:c.fn.results=rs.toArray) (hl:c.late=false) [HF c.P g]
  (ht:d=⟨.fn (.func g) ⟨cap⟩,⟨vs⟩⟩) (hm:MeetsR c.P g (vs++cap) (.panicking [⟨v,false,false⟩]) (.panicking [⟨v,true,false⟩]) c.F c.M H post')
  (hp:∀ en H',post' en H'→(∃ x,en=.returned x)∧∃ us,RV c H' e rs us∧∃ H₂,(∀ w,St c.F c.M w H'→St c.F c.M w H₂)∧c.post (.returned (pack us)) H₂):D c false [d] H [⟨v,false,false⟩] e:=by
 intro w a hw ha hd
 unfold PK
 intro b cs todo hbf hbk
 subst ht
 obtain ⟨gn,hg,hb,hn⟩:=HF.h (P:=c.P) (g:=g)
 have hbk':b.kind=.normal:=by unfold Z2o at hbk;rw [hl] at hbk;exact hbk
 have hfr:c.P.funcs[b.fn]?=some c.fn:=by rw [hbf];exact hf
 obtain ⟨e',w',fr',q1,q2,q3,q4⟩:=leaves_steps (P:=c.P) (fn:=c.fn) (tmps:=a.tmps) (R:=fun e' w'=>Fine c e' w') [⟨.fn (.func g) ⟨cap⟩,⟨vs⟩⟩] (.panicking [⟨v,false,false⟩]) w { b.at a todo with mode:=.panicking [⟨v,false,false⟩] } cs rfl hd rfl hfr hbk' ⟨by simp,_,_,g,⟨vs++cap⟩,rfl,by
   simp only [invoke]
   rw [Z0U hg hb hn]
   simp,by
   intro c₀ cs' hu
   obtain ⟨en,u',w',fr,⟨hu',H',hpost,hst⟩,h2,h3,h4⟩:=hm w hw c₀ cs' hu
   refine ⟨en,u',w',fr,?_,h2,h3,h4⟩
   obtain ⟨⟨x,rfl⟩,us,hrv,H₂,hst2,hp'⟩:=hp en H' hpost
   subst hu'
   exact ⟨_,Z0K hr (hrv.run hst ha),_,hp',hst2 _ hst⟩⟩
 exact ⟨e',w',fr',q1,q2,q3.trans hbf,by unfold Out;rw [hl];exact q4⟩
theorem S.deferM {id d:Nat} {capo:List Operand} {ats:Array TypeId} {ty ty':TypeId} {pos pos':String} {aft aft':Array Edge} {g:FuncId} {cs:List Value} (hc:evs e capo=some cs) (hlt:Nat.blt d c.fn.ntmps=true)
  (h:S c (⟨.fn (.func g) ⟨cs⟩,⟨[]⟩⟩::ds) H k ((d,.func (.func g) #[] ⟨cs⟩)::e)):S c ds H (.code (.region id #[⟨some d,.makeFunc (.func g) #[] capo.toArray,ty',pos',aft',none⟩,⟨none,.defer ⟨.value (.tmp d),#[],ats⟩,ty,pos,aft,none⟩] false)::k) e:=S.ofWp fun w a hw ha hds=>by
 refine wp_region_lit (l:=[⟨some d,.makeFunc (.func g) #[] capo.toArray,ty',pos',aft',none⟩,⟨none,.defer ⟨.value (.tmp d),#[],ats⟩,ty,pos,aft,none⟩]) (Z0m (Zs rfl _) ?_)
 have h2:=ha.evs hc
 have hrun:(execOp a.eval (⟨some d,.makeFunc (.func g) #[] capo.toArray,ty',pos',aft',none⟩:Oper)).run c.P w=.ok (.value (.func (.func g) #[] ⟨cs⟩)) w:=by
  simp [execOp,Instr.makeFunc,h2]
 simp only [Oper.wp,hrun,Oper.upon]
 refine Z0m (Zs rfl _) ?_
 have ha1:=ha.put (d:=some d) hlt (.func (.func g) #[] ⟨cs⟩)
 have h1:(a.put (some d) (.func (.func g) #[] ⟨cs⟩)).eval (.tmp d)=.func (.func g) #[] ⟨cs⟩:=ha1.ev (x:=.tmp d) (by simp [ev,setd,get?])
 simp only [Oper.wp,execOp,resolve,h1,Deferred.ofValue]
 simp only [Oper.upon,Act.put,pure_bind,Sem.run_pure]
 unfold S at h
 exact h w _ hw ⟨ha1.size,ha1.get⟩ (by simp [hds])
end
end Sg
