/- A judgement S for the rest of a call, over symbolic frames and symbolic memory, and its rules; proved over the kit's machine laws, for every program. -/
import Derived.WalkKit
import Derived.Orders
import Derived.Still
import Derived.Defers
import Derived.Recover
import Derived.KernelRfl
namespace Sg
open Go Go.RowKit

/- Frames: what is known of the slots; the first entry of a slot counts. -/
abbrev Env:=List (Nat × Value)
def get? : List (Nat × Value)→Nat→Option Value
 | [],_=>none
 | (k,v)::r,t=>match Nat.beq k t with
  | true=>some v
  | false=>get? r t
def ev (e:Env):Operand→Option Value
 | .tmp t=>get? e t
 | .const v=>some v
 | .global g=>some (.pointer (some ⟨g,0,none⟩))
 | .func f=>some (.func (.func f) #[] #[])
def evs (e:Env):List Operand→Option (List Value)
 | []=>some []
 | x::r=>match ev e x with
  | some v=>match evs e r with
   | some vs=>some (v::vs)
   | none=>none
  | none=>none
structure Ok (n:Nat) (e:Env) (a:Act):Prop where
 size:a.tmps.size=n
 get:∀ t v,get? e t=some v→a.tmps.getD t undef=v
theorem Ok.ev {n:Nat} {e:Env} {a:Act} (h:Ok n e a) {x:Operand} {v:Value} (hv:ev e x=some v):a.eval x=v:=by
 cases x<;>simp only [Sg.ev,Option.some.injEq] at hv
 ·exact h.get _ _ hv
 all_goals exact hv
theorem Ok.evs {n:Nat} {e:Env} {a:Act} (h:Ok n e a):∀ {l:List Operand} {vs:List Value},evs e l=some vs→l.map a.eval=vs
 | [],vs,hv=>by simp only [Sg.evs,Option.some.injEq] at hv;simp [←hv]
 | x::r,vs,hv=>by
  simp only [Sg.evs] at hv
  split at hv
  ·rename_i v h1
   split at hv
   ·rename_i us h2
    simp only [Option.some.injEq] at hv
    rw [←hv,List.map_cons,h.ev h1,Ok.evs h h2]
   ·cases hv
  ·cases hv
def setd (e:Env) (d:Option Nat) (v:Value):Env:=match d with
 | some k=>(k,v)::e
 | none=>e
def dlt (d:Option Nat) (n:Nat):Bool:=match d with
 | some k=>Nat.blt k n
 | none=>true
theorem Ok.put {n:Nat} {e:Env} {a:Act} (h:Ok n e a) {d:Option Nat} (hd:dlt d n=true) (v:Value):Ok n (setd e d v) (a.put d v):=by
 cases d with
 | none=>exact h
 | some k =>
  have hk:k < n:=by simpa [dlt,Nat.blt_eq] using hd
  refine ⟨by simp [Act.put,h.size],fun t u hu=>?_⟩
  simp only [setd,get?] at hu
  cases hkt:Nat.beq k t with
  | true =>
   have hkt':=Nat.eq_of_beq_eq_true hkt
   subst hkt'
   simp only [hkt,Option.some.injEq] at hu
   subst hu
   simp [Act.put,h.size,hk]
  | false =>
   have hne:k≠t:=fun e=>by subst e;simp at hkt
   simp only [hkt] at hu
   rw [←h.get t u hu]
   simp [Act.put,Array.getElem?_setIfInBounds_ne hne]
def sub:Env→Env→Prop
 | [],_=>True
 | (t,v)::r,e=>get? e t=some v∧sub r e
theorem ZcC {e' e:Env} (h:sub e' e) {t:Nat} {v:Value} (hv:get? e' t=some v):get? e t=some v:=by
 induction e' with
 | nil=>simp [get?] at hv
 | cons p r ih =>
  obtain ⟨k,u⟩:=p
  obtain ⟨h1,h2⟩:=h
  simp only [get?] at hv
  cases hkt:Nat.beq k t with
  | true =>
   have hkt':=Nat.eq_of_beq_eq_true hkt
   subst hkt'
   simp only [hkt,Option.some.injEq] at hv
   subst hv
   exact h1
  | false=>simp only [hkt] at hv;exact ih h2 hv
theorem Ok.sub {n:Nat} {e' e:Env} {a:Act} (h:Ok n e a) (hs:sub e' e):Ok n e' a:=⟨h.size,fun t v hv=>h.get t v (ZcC hs hv)⟩
def Z7i:Nat→List Value→Env
 | _,[]=>[]
 | k,v::r=>(k,v)::Z7i (k+1) r

/- Memory: what the call owns (a list of resources), and the world F when it began, of which all but the blocks in M is as it was. -/
inductive Res
 | blk (b:Nat) (vs:List Value) (E:TypeId)
 | row (a:Option Addr) (c:Nat) (E:TypeId) (sz n:Nat) (xs:List Value)
 | obj (b:Nat) (o:Obj)
 | ex (b:Nat) (Q:Obj→Prop)
 | ex2 (b r:Nat) (Q:Obj→Obj→Prop)
def Res.foot:Res→List Nat
 | .blk b _ _=>[b]
 | .row a _ _ _ _ _=>match a with
  | some ad=>[ad.block]
  | none=>[]
 | .obj b _=>[b]
 | .ex b _=>[b]
 | .ex2 b r _=>[b,r]
def Res.holds (w:World):Res→Prop
 | .blk b vs E=>w.heap[b]?=some (.cells ⟨vs⟩ E (0,0))
 | .row a c E sz n xs=>w.ownsRow 0 E sz (.slice a n c) n xs
 | .obj b o=>w.heap[b]?=some o
 | .ex b Q=>∃ o,w.heap[b]?=some o∧Q o
 | .ex2 b r Q=>∃ o o',w.heap[b]?=some o∧w.heap[r]?=some o'∧Q o o'
def feet (H:List Res):List Nat:=H.flatMap Res.foot
structure St (F:World) (M:List Nat) (w:World) (H:List Res):Prop where
 os:w.os=F.os
 tape:w.tape=F.tape
 output:w.output=F.output
 size:F.heap.size≤w.heap.size
 keep:∀ j,j < F.heap.size→j∉M→w.heap[j]?=F.heap[j]?
 own:∀ b∈feet H,F.heap.size≤b∨b∈M
 nd:(feet H).Nodup
 res:∀ r∈H,r.holds w
theorem Res.foot_lt {w:World} {r:Res} (h:r.holds w):∀ b∈r.foot,b < w.heap.size:=by
 intro b hb
 have some_lt:∀ {k:Nat} {o:Obj},w.heap[k]?=some o→k < w.heap.size:=fun hk=>by
  rcases Nat.lt_or_ge _ w.heap.size with h|h
  ·exact h
  ·rw [Array.getElem?_eq_none h] at hk;cases hk
 cases r with
 | blk k vs E=>simp only [Res.foot,List.mem_singleton] at hb;subst hb;exact some_lt h
 | obj k o=>simp only [Res.foot,List.mem_singleton] at hb;subst hb;exact some_lt h
 | ex k Q =>
  obtain ⟨o,h,_⟩:=h
  simp only [Res.foot,List.mem_singleton] at hb;subst hb;exact some_lt h
 | ex2 k r Q =>
  obtain ⟨o,o',h,h',_⟩:=h
  simp only [Res.foot,List.mem_cons,List.not_mem_nil,or_false] at hb
  rcases hb with rfl|rfl
  ·exact some_lt h
  ·exact some_lt h'
 | row a c E sz n xs =>
  cases a with
  | none=>simp [Res.foot] at hb
  | some ad =>
   simp only [Res.foot,List.mem_singleton] at hb
   subst hb
   exact (World.ownsRow.lt h ad.block rfl).2
theorem St.perm {F:World} {M:List Nat} {w:World} {H H':List Res} (h:St F M w H) (hp:H.Perm H'):St F M w H' :=
 have hf:(feet H).Perm (feet H'):=hp.flatMap_right _
 { h with own:=fun b hb=>h.own b (hf.mem_iff.2 hb),nd:=hf.nodup_iff.1 h.nd,res:=fun r hr=>h.res r (hp.mem_iff.2 hr) }
theorem St.tail {F:World} {M:List Nat} {w:World} {r:Res} {H:List Res} (h:St F M w (r::H)):St F M w H :=
 { h with
  own:=fun b hb=>h.own b (by simp only [feet,List.flatMap_cons,List.mem_append];exact .inr hb)
  nd:=by have:=h.nd;simp only [feet,List.flatMap_cons] at this;exact (List.nodup_append.1 this).2.1
  res:=fun r' hr=>h.res r' (List.mem_cons_of_mem _ hr) }
theorem St.refl (w:World):St w [] w []:=⟨rfl,rfl,rfl,Nat.le_refl _,fun _ _ _=>rfl,fun b hb=>by simp [feet] at hb,by simp [feet],fun r hr=>by cases hr⟩
theorem St.drew {F:World} {M:List Nat} {w:World} {H:List Res} (h:St F M w H):St F M { w with drawn:=w.drawn+1 } H :=
 ⟨h.os,h.tape,h.output,h.size,h.keep,h.own,h.nd,fun r hr=>by
  have:=h.res r hr
  cases r<;>exact this⟩
theorem St.nilrow {F:World} {M:List Nat} {w:World} {H:List Res} (h:St F M w H) (E:TypeId) (sz:Nat):St F M w (.row none 0 E sz 0 []::H) :=
 ⟨h.os,h.tape,h.output,h.size,h.keep,h.own,h.nd,fun r hr=>by
  cases hr with
  | head=>exact World.ownsRow_nil w 0 E sz
  | tail _ hr=>exact h.res r hr⟩
theorem Res.holds_of_heap {w w':World} {r:Res} (h:r.holds w) (hw:∀ b∈r.foot,w'.heap[b]?=w.heap[b]?):r.holds w':=by
 cases r with
 | blk k vs E=>exact (hw k (by simp [Res.foot])).trans h
 | obj k o=>exact (hw k (by simp [Res.foot])).trans h
 | ex k Q =>
  obtain ⟨o,h,hq⟩:=h
  exact ⟨o,(hw k (by simp [Res.foot])).trans h,hq⟩
 | ex2 k r Q =>
  obtain ⟨o,o',h,h',hq⟩:=h
  exact ⟨o,o',(hw k (by simp [Res.foot])).trans h,(hw r (by simp [Res.foot])).trans h',hq⟩
 | row a c E sz n xs =>
  obtain ⟨h1,h2⟩:=h
  refine ⟨h1,?_⟩
  rcases h2 with h2|⟨g,cap,cur,hv,hg,hh,hr⟩
  ·exact .inl h2
  ·refine .inr ⟨g,cap,cur,hv,hg,?_,hr⟩
   simp only [Value.slice.injEq] at hv
   rw [hw g (by simp [Res.foot,hv.1])]
   exact hh
theorem St.turn {F:World} {M:List Nat} {w w':World} {r r':Res} {H:List Res} (h:St F M w (r::H)) (os:w'.os=w.os) (tape:w'.tape=w.tape) (output:w'.output=w.output)
  (size:w.heap.size≤w'.heap.size) (keep:∀ j,j < w.heap.size→j∉r.foot→w'.heap[j]?=w.heap[j]?) (hr':r'.holds w')
  (foot:∀ b∈r'.foot,b∈r.foot∨w.heap.size≤b) (nd:r'.foot.Nodup):St F M w' (r'::H):=by
 have hnd:=h.nd
 simp only [feet,List.flatMap_cons,List.nodup_append] at hnd
 obtain ⟨_,n2,n3⟩:=hnd
 have hlt:∀ q∈H,∀ b∈q.foot,b < w.heap.size:=fun q hq=>Res.foot_lt (h.res q (List.mem_cons_of_mem _ hq))
 have hapart:∀ q∈H,∀ b∈q.foot,b∉r.foot:=fun q hq b hb hbr=>n3 b hbr b (List.mem_flatMap.2 ⟨q,hq,hb⟩) rfl
 refine ⟨os.trans h.os,tape.trans h.tape,output.trans h.output,Nat.le_trans h.size size,fun j hj hm=>?_,fun b hb=>?_,?_,fun q hq=>?_⟩
 ·have hjr:j∉r.foot:=fun hjr=>by
   rcases h.own j (by simp only [feet,List.flatMap_cons,List.mem_append];exact .inl hjr) with h' | h'
   ·omega
   ·exact hm h'
  rw [keep j (Nat.lt_of_lt_of_le hj h.size) hjr,h.keep j hj hm]
 ·simp only [feet,List.flatMap_cons,List.mem_append] at hb
  rcases hb with hb|hb
  ·rcases foot b hb with h' | h'
   ·exact h.own b (by simp only [feet,List.flatMap_cons,List.mem_append];exact .inl h')
   ·exact .inl (Nat.le_trans h.size h')
  ·exact h.own b (by simp only [feet,List.flatMap_cons,List.mem_append];exact .inr hb)
 ·simp only [feet,List.flatMap_cons,List.nodup_append]
  refine ⟨nd,n2,fun b hb c hc hbc=>?_⟩
  subst hbc
  obtain ⟨q,hq,hbq⟩:=List.mem_flatMap.1 hc
  rcases foot b hb with h' | h'
  ·exact n3 b h' b hc rfl
  ·have:=hlt q hq b hbq
   omega
 ·cases hq with
  | head=>exact hr'
  | tail _ hq =>
   exact Res.holds_of_heap (h.res q (List.mem_cons_of_mem _ hq)) fun b hb=>keep b (hlt q hq b hb) (hapart q hq b hb)
theorem St.fresh {F:World} {M:List Nat} {w w':World} {r':Res} {H:List Res} (h:St F M w H) (os:w'.os=w.os) (tape:w'.tape=w.tape) (output:w'.output=w.output)
  (size:w.heap.size≤w'.heap.size) (keep:∀ j,j < w.heap.size→w'.heap[j]?=w.heap[j]?) (hr':r'.holds w')
  (foot:∀ b∈r'.foot,w.heap.size≤b) (nd:r'.foot.Nodup):St F M w' (r'::H) :=
 St.turn (h.nilrow 0 0) os tape output size (fun j hj _=>keep j hj) hr' (fun b hb=>.inr (foot b hb)) nd
theorem St.alloc {F:World} {M:List Nat} {w:World} {H:List Res} (h:St F M w H) (vs:List Value) (E:TypeId) :
  St F M (w.alloc (.cells ⟨vs⟩ E)) (.blk w.heap.size vs E::H) :=
 h.fresh rfl rfl rfl (by simp) (fun j hj=>Below.heap_alloc _ _ _ hj) (show (w.heap.push _)[w.heap.size]?=_ by simp) (by simp [Res.foot]) (by simp [Res.foot])
theorem St.setCell {F:World} {M:List Nat} {w:World} {b:Nat} {vs:List Value} {E:TypeId} {H:List Res} (h:St F M w (.blk b vs E::H)) (i:Nat) (v:Value) :
  St F M (w.setCell ⟨b,i,none⟩ v) (.blk b (vs.set i v) E::H):=by
 have hb:w.heap[b]?=some (.cells ⟨vs⟩ E (0,0)):=h.res _ (List.mem_cons_self ..)
 refine h.turn rfl rfl rfl (by simp) (fun j _ hj=>Below.heap_setCell _ _ _ _ (by simpa [Res.foot] using hj)) ?_ (fun c hc=>.inl hc) (by simp [Res.foot])
 simp only [Res.holds,World.setCell,Array.getElem?_modify,if_pos,hb,Option.map_some]
 simp
theorem St.cell {F:World} {M:List Nat} {w:World} {b:Nat} {vs:List Value} {E:TypeId} {H:List Res} (h:St F M w H) (hm : .blk b vs E∈H) (i:Nat) :
  w.cell? ⟨b,i,none⟩=vs[i]?:=by
 have hb:w.heap[b]?=some (.cells ⟨vs⟩ E (0,0)):=h.res _ hm
 simp [World.cell?,hb]

/- The judgement. -/
structure Ctx where
 P:Program
 f:FuncId
 fn:Func
 F:World
 M:List Nat
 post:Ending→List Res→Prop
 late:Bool
def Fine (c:Ctx) (e:Ending) (w:World):Prop:=∃ H,c.post e H∧St c.F c.M w H
def Out (c:Ctx) (fr:Frame) (w:World) (e:Ending):Prop:=match c.late with
 | false=>fr.leaving c.P w e
 | true=>fr.kind=.deferred∧fr.going c.P w e
def Z2o (c:Ctx):CallKind:=match c.late with
 | false=>.normal
 | true=>.deferred
def Cont (c:Ctx) (todo:List Item) (a:Act) (w:World):Prop :=
 ∀ (b:Frame) (cs:List Frame),b.fn=c.f→b.kind=Z2o c→∃ e w' fr,Fine c e w'∧Comes c.P (lone (b.at a todo) cs w) (lone fr cs w') e∧fr.fn=c.f∧Out c fr w' e
def Dies (c:Ctx) (chain:List PanicEntry) (a:Act) (w:World):Prop :=
 ∀ (b:Frame) (cs:List Frame) (todo:List Item),b.fn=c.f→b.kind=Z2o c →
  ∃ e w' fr,Fine c e w'∧Comes c.P (lone { b.at a todo with mode:=.panicking chain } cs w) (lone fr cs w') e∧fr.fn=c.f∧Out c fr w' e
def Qk (c:Ctx) (k:List Item):Exit→Act→World→Prop
 | .normal,a,w=>Cont c k a w
 | .panic chain,a,w=>Dies c chain a w
 | _,_,_=>False
def S (c:Ctx) (ds:List Deferred) (H:List Res) (todo:List Item) (e:Env):Prop :=
 ∀ w a,St c.F c.M w H→Ok c.fn.ntmps e a→a.defers=ds→Cont c todo a w
def PK (c:Ctx) (dr:Bool) (ds:List Deferred) (chain:List PanicEntry) (a:Act) (w:World):Prop:=match ds with
 | []=>Fine c (.panicked chain) w
 | _::_=>match dr with
  | true=>False
  | false=>Dies c chain a w
def D (c:Ctx) (dr:Bool) (ds:List Deferred) (H:List Res) (chain:List PanicEntry) (e:Env):Prop :=
 ∀ w a,St c.F c.M w H→Ok c.fn.ntmps e a→a.defers=ds→PK c dr ds chain a w
theorem Cont.step {c:Ctx} {todo todo':List Item} {a a':Act} {w w':World} (h:Cont c todo' a' w')
  (hs:∀ (b:Frame) (cs:List Frame),b.fn=c.f→step c.P (lone (b.at a todo) cs w)=.next (lone (b.at a' todo') cs w')):Cont c todo a w:=fun b cs hf hk =>
 let ⟨e,w₁,fr,h1,h2,h3⟩:=h b cs hf hk
 ⟨e,w₁,fr,h1,.of_steps (.one (hs b cs hf)) h2,h3⟩

section
variable {c:Ctx} {ds:List Deferred} {H:List Res} {k:List Item} {e:Env}
theorem S.mono {e':Env} (h:S c ds H k e') (hs:sub e' e):S c ds H k e:=fun w a hw ha hd=>h w a hw (ha.sub hs) hd
theorem S.weaken {H':List Res} (h:S c ds H' k e) (hp:∀ w,St c.F c.M w H→St c.F c.M w H'):S c ds H k e:=fun w a hw ha hd=>h w a (hp w hw) ha hd
theorem S.perm {H':List Res} (h:S c ds H' k e) (hp:H.Perm H'):S c ds H k e:=fun w a hw ha hd=>h w a (hw.perm hp) ha hd
theorem S.nilrow (E:TypeId) (sz:Nat) (h:S c ds (.row none 0 E sz 0 []::H) k e):S c ds H k e:=fun w a hw ha hd=>h w a (hw.nilrow E sz) ha hd
theorem S.skip (h:S c ds H k e):S c ds H (.code .skip::k) e:=fun w a hw ha hd=>(h w a hw ha hd).step fun _ _ _=>step_skip
theorem S.inBlock {id:Nat} (h:S c ds H k e):S c ds H (.inBlock id::k) e:=fun w a hw ha hd=>(h w a hw ha hd).step fun _ _ _=>step_inBlock
theorem S.seq {x y:Code} (h:S c ds H (.code x::.code y::k) e):S c ds H (.code (.seq x y)::k) e:=fun w a hw ha hd=>(h w a hw ha hd).step fun _ _ _=>step_seq
theorem S.block {id:Nat} {x:Code} (h:S c ds H (.code x::.inBlock id::k) e):S c ds H (.code (.block id x)::k) e:=fun w a hw ha hd=>(h w a hw ha hd).step fun _ _ _=>step_block
theorem S.exit {id:Nat} {k':List Item} (hk:exitTo id k=some k') (h:S c ds H k' e):S c ds H (.code (.exit id)::k) e:=fun w a hw ha hd=>(h w a hw ha hd).step fun _ _ _=>step_exit hk
theorem S.cond {x:Operand} {thn els:Code} {t:Bool} (hx:ev e x=some (.bool t)) (ht:t=true→S c ds H (.code thn::k) e) (hf:t=false→S c ds H (.code els::k) e) :
  S c ds H (.code (.cond x thn els)::k) e:=fun w a hw ha hd=>by
 have he:=ha.ev hx
 cases t with
 | true=>exact (ht rfl w a hw ha hd).step fun _ _ _=>step_cond (t:=true) he
 | false=>exact (hf rfl w a hw ha hd).step fun _ _ _=>step_cond (t:=false) he
theorem S.condP {x:Operand} {thn els:Code} {p:Prop} [Decidable p] (hx:ev e x=some (.bool (decide p))) (ht:p→S c ds H (.code thn::k) e) (hf:¬p→S c ds H (.code els::k) e) :
  S c ds H (.code (.cond x thn els)::k) e:=S.cond hx (fun h=>ht (of_decide_eq_true h)) (fun h=>hf (of_decide_eq_false h))
theorem S.unroll {x:Code} (h:S c ds H (.code x::.inLoop x::k) e):S c ds H (.code (.loop x)::k) e:=fun w a hw ha hd=>(h w a hw ha hd).step fun _ _ _=>step_loop
theorem S.again {x:Code} (h:S c ds H (.code x::.inLoop x::k) e):S c ds H (.inLoop x::k) e:=fun w a hw ha hd=>(h w a hw ha hd).step fun _ _ _=>step_inLoop
theorem S.loop {x:Code} (I:Nat→List Res→Env→Prop)
  (round:∀ n H e,I n H e→(∀ m H' e' e'',I m H' e'→m < n→sub e' e''→S c ds H' (.inLoop x::k) e'')→S c ds H (.code x::.inLoop x::k) e)
  (n:Nat) (e':Env) (h:I n H e') (hs:sub e' e):S c ds H (.code (.loop x)::k) e:=by
 refine S.unroll ?_
 refine S.mono (e':=e') ?_ hs
 clear hs
 revert H e'
 induction n using Nat.strongRecOn with
 | _ n ih =>
  intro H e' h
  exact round n H e' h fun m H' e₁ e₂ hI hlt hsub=>S.again (S.mono (ih m hlt e₁ hI) hsub)
theorem S.ofWp {x:Code} (h:∀ w a,St c.F c.M w H→Ok c.fn.ntmps e a→a.defers=ds→x.wp c.P (Qk c k) a w):S c ds H (.code x::k) e:=fun w a hw ha hd b cs hf hk=>by
 obtain ⟨e',a',w',hq,harr⟩:=h w a hw ha hd b k cs
 cases e' with
 | normal =>
  obtain ⟨e₁,w₁,fr,h1,h2,h3⟩:=hq b cs hf hk
  exact ⟨e₁,w₁,fr,h1,.of_steps harr h2,h3⟩
 | panic chain =>
  obtain ⟨todo,hs⟩:=harr
  obtain ⟨e₁,w₁,fr,h1,h2,h3⟩:=hq b cs todo hf hk
  exact ⟨e₁,w₁,fr,h1,.of_steps hs h2,h3⟩
 | _=>exact hq.elim

/- Regions. -/
def Kq (c:Ctx) (dr:Bool) (ds:List Deferred) (κ:List Res→Env→Prop):Exit→Act→World→Prop
 | .normal,a,w=>∃ H e,St c.F c.M w H∧Ok c.fn.ntmps e a∧a.defers=ds∧κ H e
 | .panic chain,a,w=>a.defers=ds∧PK c dr ds chain a w
 | _,_,_=>False
def Sx (c:Ctx) (dr:Bool) (ds:List Deferred) (H:List Res) (ops:Array Oper) (l:List Oper) (κ:List Res→Env→Prop) (e:Env):Prop :=
 ∀ w a,St c.F c.M w H→Ok c.fn.ntmps e a→a.defers=ds→wpList c.P ops (Kq c dr ds κ) l a w
def Cx (c:Ctx) (ds:List Deferred) (H:List Res) (ops:Array Oper) (l:List Oper) (κ:List Res→Env→Prop) (e:Env):Prop :=
 ∀ w a,St c.F c.M w H→Ok c.fn.ntmps e a→a.defers=ds→wpStill c.P ops w (fun a'=>∃ e',Ok c.fn.ntmps e' a'∧a'.defers=ds∧κ H e') l a
inductive Mode
 | quiet
 | eff (dr:Bool)
 | uni
class NotUni (q:Mode):Prop where
 h:q≠.uni
instance:NotUni .quiet:=⟨by simp⟩
instance {dr:Bool}:NotUni (.eff dr):=⟨by simp⟩
def Ux (c:Ctx) (H:List Res) (κ:List Res→Env→Prop):List Oper→Env→Prop
 | [],e=>κ H e
 | o::l,e=>∃ v d,(∀ w a,St c.F c.M w H→Ok c.fn.ntmps e a→(execOp a.eval o).run c.P w=.ok (.value v) w)∧o.dst=some d∧Nat.blt d c.fn.ntmps=true∧o.guard=none∧Ux c H κ l ((d,v)::e)
def Sr (q:Mode) (c:Ctx) (ds:List Deferred) (H:List Res) (ops:Array Oper) (l:List Oper) (κ:List Res→Env→Prop) (e:Env):Prop:=match q with
 | .quiet=>Cx c ds H ops l κ e
 | .eff dr=>Sx c dr ds H ops l κ e
 | .uni=>Ux c H κ l e
end
section
variable {q:Mode} {dr:Bool} {c:Ctx} {ds:List Deferred} {H:List Res} {ops:Array Oper} {l:List Oper} {k:List Item} {κ:List Res→Env→Prop} {e:Env} {o:Oper} {v:Value}
theorem Z0m {P:Program} {Q:Exit→Act→World→Prop} {o:Oper} {a:Act} {w:World} (hw:Region.wanted o (yielded ops a.tmps)=true)
  (h:o.wp P a w (wpList P ops Q l) Q):wpList P ops Q (o::l) a w:=by
 unfold wpList
 rw [if_pos hw]
 exact .inl h
theorem Z3d {P:Program} {Q:Exit→Act→World→Prop} {o:Oper} {a:Act} {w:World} (hw:Region.wanted o (yielded ops a.tmps)=false)
  (h:wpList P ops Q l (a.put o.dst undef) w):wpList P ops Q (o::l) a w:=by
 unfold wpList
 rw [if_neg (by simp [hw])]
 exact h
theorem Zs {o:Oper} (h:o.guard=none) (y:Nat→Option Bool):Region.wanted o y=true:=by simp [Region.wanted,h]
theorem Zt (a:Act) (d:Option Tmp) (v:Value):(a.put d v).defers=a.defers:=by cases d<;>rfl
def glook (ops:Array Oper) (e:Env) (j:Nat):Option Bool:=match (ops[j]?).bind (·.dst) with
 | some t=>match get? e t with
  | some (.bool b)=>some b
  | _=>none
 | none=>none
theorem Z2b {n:Nat} {a:Act} (ha:Ok n e a) {j:Nat} {b:Bool} (h:glook ops e j=some b):yielded ops a.tmps j=some b:=by
 unfold glook at h
 split at h
 ·rename_i t ht
  split at h
  ·rename_i u hu
   have:=ha.get t _ hu
   simp only [Option.some.injEq] at h
   subst h
   have hg:a.tmps[t]?=some (.bool u):=by
    cases hq:a.tmps[t]? with
    | none=>simp [Array.getD_eq_getD_getElem?,hq,undef] at this
    | some v=>simp [Array.getD_eq_getD_getElem?,hq] at this;rw [this]
   simp [yielded,ht,hg]
  ·cases h
 ·cases h
def Pu (c:Ctx) (H:List Res) (e:Env) (o:Oper) (v:Value):Prop :=
 ∀ w a,St c.F c.M w H→Ok c.fn.ntmps e a→(execOp a.eval o).run c.P w=.ok (.value v) w
theorem Sx.p (h:Pu c H e o v) (hd:dlt o.dst c.fn.ntmps=true) (hg:o.guard=none) (hk:Sx c dr ds H ops l κ (setd e o.dst v)):Sx c dr ds H ops (o::l) κ e:=fun w a hw ha hds =>
 Z0m (Zs hg _) (by
  simp only [Oper.wp,h w a hw ha,Oper.upon]
  exact hk w _ hw (ha.put hd v) ((Zt _ _ _).trans hds))
theorem Sx.gf {j:Nat} {t t':Bool} (hd:dlt o.dst c.fn.ntmps=true) (hg:o.guard=some (j,t)) (hj:glook ops e j=some t') (hne:(t'==t)=false) (hk:Sx c dr ds H ops l κ (setd e o.dst undef)):Sx c dr ds H ops (o::l) κ e:=fun w a hw ha hds =>
 Z3d (by
  have:=Z2b ha hj
  simp only [Region.wanted,hg,this]
  cases t<;>cases t'<;>simp_all) (hk w _ hw (ha.put hd undef) ((Zt _ _ _).trans hds))
theorem Cx.p (h:Pu c H e o v) (hd:dlt o.dst c.fn.ntmps=true) (hg:o.guard=none) (hk:Cx c ds H ops l κ (setd e o.dst v)):Cx c ds H ops (o::l) κ e:=fun w a hw ha hds=>by
 unfold wpStill
 rw [if_pos (Zs hg _)]
 simp only [Oper.still,h w a hw ha,Oper.stillUpon]
 exact ⟨trivial,hk w _ hw (ha.put hd v) ((Zt _ _ _).trans hds)⟩
theorem Cx.gf {j:Nat} {t t':Bool} (hd:dlt o.dst c.fn.ntmps=true) (hg:o.guard=some (j,t)) (hj:glook ops e j=some t') (hne:(t'==t)=false) (hk:Cx c ds H ops l κ (setd e o.dst undef)):Cx c ds H ops (o::l) κ e:=fun w a hw ha hds=>by
 unfold wpStill
 rw [if_neg (by
  have:=Z2b ha hj
  simp only [Region.wanted,hg,this]
  cases t<;>cases t'<;>simp_all)]
 exact hk w _ hw (ha.put hd undef) ((Zt _ _ _).trans hds)
theorem Ok.again {n:Nat} {a:Act} {t:Nat} {u:Value} (ha:Ok n e a) (h:get? e t=some u):Ok n ((t,u)::e) a:=⟨ha.size,fun t' v' hv=>by
 simp only [get?] at hv
 cases htt:Nat.beq t t' with
 | true =>
  have:=Nat.eq_of_beq_eq_true htt
  subst this
  simp only [htt,Option.some.injEq] at hv
  subst hv
  exact ha.get _ _ h
 | false=>simp only [htt] at hv;exact ha.get _ _ hv⟩
class HM (P:Program):Prop where
 h:P.follows .mixedOrders=true
theorem Kq.ofS {a:Act} {w:World}:∀ {x:Exit},Kq c false ds (fun H e=>S c ds H k e) x a w→(c.P.funcs[c.f]?=some c.fn)→Qk c k x a w
 | .normal,⟨H,e,h1,h2,h3,h4⟩,_=>h4 w a h1 h2 h3
 | .panic chain,⟨hd,h⟩,hf=>by
  unfold PK at h
  intro b cs todo hbf hbk
  split at h
  ·obtain ⟨H',hp,hst⟩:=h
   refine ⟨.panicked chain,w,_,⟨H',hp,hst⟩,Steps.refl _ _,hbf,?_⟩
   unfold Out
   unfold Z2o at hbk
   cases hl:c.late with
   | false=>exact ⟨rfl,hd,c.fn,by rw [←hf,←hbf];rfl⟩
   | true=>exact ⟨by simpa [Frame.at,hl] using hbk,rfl,hd,c.fn,by rw [←hf,←hbf];rfl⟩
  ·exact h b cs todo hbf hbk
class HFn (P:Program) (f:FuncId) (fn:Func):Prop where
 h:P.funcs[f]?=some fn
theorem S.reg {id:Nat} [hf:HFn c.P c.f c.fn] (h:Sr (.eff false) c ds H l.toArray l (fun H e=>S c ds H k e) e):S c ds H (.code (.region id l.toArray false)::k) e :=
 S.ofWp fun w a hw ha hd=>wp_mono (wp_region_lit (h w a hw ha hd)) (fun _ _ _ hq=>Kq.ofS hq hf.h)
def Z9K:Op→Bool
 | .store _ _ _=>false
 | .alloc _=>false
 | .box _ _=>false
 | .buildSlice _ _ _=>false
 | .makeSlice _ _ _=>false
 | .makeMap _ _=>false
 | .mapUpdate _ _ _ _=>false
 | .panic _=>false
 | .call ⟨.value _,_,_⟩=>false
 | .call ⟨.invoke _ _,_,_⟩=>false
 | .call ⟨.builtin .append,_,_⟩=>false
 | .call ⟨.builtin .copy,_,_⟩=>false
 | _=>true
theorem S.quiet {id:Nat} [HM c.P] (_hr:l.all (fun o=>Z9K o.op)=true) (hB:Region.lexB .any l.toArray=true) (h:Sr .quiet c ds H l.toArray l (fun H e=>S c ds H k e) e):S c ds H (.code (.region id l.toArray true)::k) e :=
 S.ofWp fun w a hw ha hd=>by
  refine wp_region_still_lit HM.h hB ?_
  have h1:=h { w with drawn:=w.drawn+1 } a hw.drew ha hd
  have mono:∀ (l':List Oper) (a:Act) {Q Q':Act→Prop},(∀ a,Q a→Q' a)→wpStill c.P l.toArray { w with drawn:=w.drawn+1 } Q l' a→wpStill c.P l.toArray { w with drawn:=w.drawn+1 } Q' l' a:=by
   intro l'
   induction l' with
   | nil=>intro a Q Q' hq h;exact hq a h
   | cons o r ih =>
    intro a Q Q' hq h
    unfold wpStill at h ⊢
    split
    ·rename_i hw;rw [if_pos hw] at h;exact Oper.still_mono (fun a' h'=>ih a' hq h') h
    ·rename_i hw;rw [if_neg hw] at h;exact ih _ hq h
  exact mono _ _ (fun a' ⟨e',h2,h3,h4⟩=>h4 _ a' hw.drew h2 h3) h1
theorem Sr.nil (h:κ H e):Sr q c ds H ops [] κ e:=by
 cases q
 ·exact fun w a _ ha hd=>⟨e,ha,hd,h⟩
 ·exact fun w a hw ha hd=>⟨H,e,hw,ha,hd,h⟩
 ·exact h
theorem Sr.weaken {H':List Res} (h:Sr (.eff dr) c ds H' ops l κ e) (hp:∀ w,St c.F c.M w H→St c.F c.M w H'):Sr (.eff dr) c ds H ops l κ e:=fun w a hw ha hd=>h w a (hp w hw) ha hd
theorem Sr.perm {H':List Res} (h:Sr (.eff dr) c ds H' ops l κ e) (hp:H.Perm H'):Sr (.eff dr) c ds H ops l κ e:=fun w a hw ha hd=>h w a (hw.perm hp) ha hd
theorem Sr.drop {r:Res} (h:Sr (.eff dr) c ds H ops l κ e):Sr (.eff dr) c ds (r::H) ops l κ e:=fun w a hw ha hd=>h w a hw.tail ha hd
theorem Sr.nilrow (E:TypeId) (sz:Nat) (h:Sr (.eff dr) c ds (.row none 0 E sz 0 []::H) ops l κ e):Sr (.eff dr) c ds H ops l κ e:=fun w a hw ha hd=>h w a (hw.nilrow E sz) ha hd
theorem Sr.p {d:Nat} (h:Pu c H e o v) (hd:o.dst=some d) (hlt:Nat.blt d c.fn.ntmps=true) (hg:o.guard=none) (hk:Sr q c ds H ops l κ ((d,v)::e)):Sr q c ds H ops (o::l) κ e:=by
 by_cases hq:q=.uni
 ·subst hq
  exact ⟨v,d,h,hd,hlt,hg,hk⟩
 have h1:dlt o.dst c.fn.ntmps=true:=by rw [hd];exact hlt
 have h2:setd e o.dst v=(d,v)::e:=by rw [hd];rfl
 rw [←h2] at hk
 cases q;exact Cx.p h h1 hg hk;exact Sx.p h h1 hg hk;exact absurd rfl hq
theorem Sr.gf [hq:NotUni q] {j d:Nat} {t t':Bool} (hd:o.dst=some d) (hlt:Nat.blt d c.fn.ntmps=true) (hg:o.guard=some (j,t)) (hj:glook ops e j=some t') (hne:(t'==t)=false) (hk:Sr q c ds H ops l κ ((d,undef)::e)):Sr q c ds H ops (o::l) κ e:=by
 have h1:dlt o.dst c.fn.ntmps=true:=by rw [hd];exact hlt
 have h2:setd e o.dst undef=(d,undef)::e:=by rw [hd];rfl
 rw [←h2] at hk
 cases q;exact Cx.gf h1 hg hj hne hk;exact Sx.gf h1 hg hj hne hk;exact absurd rfl hq.h
theorem Sr.ung [hq:NotUni q] {op:Op} {d:Option Tmp} {ty:TypeId} {pos:String} {aft:Array Edge} {j:Nat} {b:Bool} (h:glook ops e j=some b) (hk:Sr q c ds H ops (⟨d,op,ty,pos,aft,none⟩::l) κ e):Sr q c ds H ops (⟨d,op,ty,pos,aft,some (j,b)⟩::l) κ e:=by
 cases q
 ·intro w a hw ha hds
  have h1:=hk w a hw ha hds
  have hy:=Z2b ha h
  unfold wpStill at h1 ⊢
  rw [if_pos (by simp [Region.wanted])] at h1
  rw [if_pos (by simp [Region.wanted,hy])]
  exact h1
 ·intro w a hw ha hds
  have h1:=hk w a hw ha hds
  have hy:=Z2b ha h
  unfold wpList at h1 ⊢
  rw [if_pos (by simp [Region.wanted])] at h1
  rw [if_pos (by simp [Region.wanted,hy])]
  exact h1
 ·exact absurd rfl hq.h
theorem Sr.case [hq:NotUni q] (t:Nat) {p:Prop} [Decidable p] (h:get? e t=some (.bool (decide p))) (ht:p→Sr q c ds H ops l κ ((t,.bool true)::e)) (hf:¬p→Sr q c ds H ops l κ ((t,.bool false)::e)):Sr q c ds H ops l κ e:=by
 cases q
 ·intro w a hw ha hds
  by_cases hp:p
  ·exact ht hp w a hw (ha.again (by rw [h];simp [hp])) hds
  ·exact hf hp w a hw (ha.again (by rw [h];simp [hp])) hds
 ·intro w a hw ha hds
  by_cases hp:p
  ·exact ht hp w a hw (ha.again (by rw [h];simp [hp])) hds
  ·exact hf hp w a hw (ha.again (by rw [h];simp [hp])) hds
 ·exact absurd rfl hq.h
def Ef (c:Ctx) (H:List Res) (e:Env) (o:Oper) (K:Value→List Res→Prop):Prop :=
 ∀ w a,St c.F c.M w H→Ok c.fn.ntmps e a→∃ v w' H',((execOp a.eval o).run c.P w=.ok (.value v) w'∨(execOp a.eval o).run c.P w=.ok .skip w'∧v=undef)∧St c.F c.M w' H'∧K v H'
theorem Sr.eff {K:Value→List Res→Prop} (h:Ef c H e o K) (hd:dlt o.dst c.fn.ntmps=true) (hg:o.guard=none) (hk:∀ v H',K v H'→Sr (.eff dr) c ds H' ops l κ (setd e o.dst v)):Sr (.eff dr) c ds H ops (o::l) κ e:=fun w a hw ha hds=>by
 obtain ⟨v,w',H',hr,hst,hK⟩:=h w a hw ha
 refine Z0m (Zs hg _) ?_
 have hds':(a.put o.dst v).defers=ds:=(Zt _ _ _).trans hds
 rcases hr with hr|⟨hr,rfl⟩
 ·simp only [Oper.wp,hr,Oper.upon]
  exact hk v H' hK w' _ hst (ha.put hd v) hds'
 ·simp only [Oper.wp,hr,Oper.upon]
  exact hk undef H' hK w' _ hst (ha.put hd undef) hds'
theorem Sr.halt (h:∀ w a,St c.F c.M w H→Ok c.fn.ntmps e a→a.defers=ds→o.wp c.P a w (wpList c.P ops (Kq c dr ds κ) l) (Kq c dr ds κ)) (hg:o.guard=none:=by rfl):Sr (.eff dr) c ds H ops (o::l) κ e:=fun w a hw ha hds=>Z0m (Zs hg _) (h w a hw ha hds)

/- Calls. -/
def Meets (P:Program) (g:FuncId) (args:List Value) (F:World) (M:List Nat) (H:List Res) (post:Ending→List Res→Prop):Prop :=
 ∀ w,St F M w H→Calls P g ⟨args⟩ w fun e w'=>∃ H',post e H'∧St F M w' H'
theorem Meets.mono {P:Program} {g:FuncId} {args:List Value} {F:World} {M:List Nat} {H:List Res} {post post':Ending→List Res→Prop} (h:Meets P g args F M H post)
  (hp:∀ e H',post e H'→post' e H'):Meets P g args F M H post':=fun w hw=>(h w hw).mono fun e _ ⟨H',h1,h2⟩=>⟨H',hp e H' h1,h2⟩
theorem Z8c {n:Nat} {ds:List Deferred} (args:List Value):Ok (max n args.length) (Z7i 0 args) { tmps:=⟨args⟩++Array.replicate (n - args.length) undef,defers:=ds }:=by
 have key:∀ (l:List Value) (j t:Nat) (v:Value),get? (Z7i j l) t=some v→j≤t∧l[t - j]?=some v:=by
  intro l
  induction l with
  | nil=>intro j t v h;simp [Z7i,get?] at h
  | cons x r ih =>
   intro j t v h
   simp only [Z7i,get?] at h
   cases hjt:Nat.beq j t with
   | true =>
    have:=Nat.eq_of_beq_eq_true hjt
    subst this
    simp only [hjt,Option.some.injEq] at h
    subst h
    simp
   | false =>
    have hne:j≠t:=fun e=>by subst e;simp at hjt
    simp only [hjt] at h
    obtain ⟨h1,h2⟩:=ih (j+1) t v h
    refine ⟨by omega,?_⟩
    rw [show t - j=(t - (j+1))+1 by omega,List.getElem?_cons_succ]
    exact h2
 refine ⟨?_,fun t v hv=>?_⟩
 ·simp only [Array.size_append,List.size_toArray,Array.size_replicate]
  omega
 ·obtain ⟨-,h2⟩:=key args 0 t v hv
  have hlt:t < args.length:=(List.getElem?_eq_some_iff.1 h2).1
  simp only [Nat.sub_zero] at h2
  simp only [Array.getD_eq_getD_getElem?,Array.getElem?_append,List.size_toArray,hlt,if_true,List.getElem?_toArray,h2]
  rfl
theorem Meets.enter {P:Program} {g:FuncId} {fn:Func} {body:Code} {args:List Value} {F:World} {M:List Nat} {H:List Res} {post:Ending→List Res→Prop}
  (hf:P.funcs[g]?=some fn) (hb:fn.body=some body) (hn:Nat.ble args.length fn.ntmps=true) (h:S ⟨P,g,fn,F,M,post,false⟩ [] H [.code body] (Z7i 0 args)):Meets P g args F M H post:=fun w hw cs=>by
 let b:Frame:={ (default:Frame) with fn:=g,kind:=.normal }
 have henter:Frame.enter P g ⟨args⟩ .normal=b.at { tmps:=⟨args⟩++Array.replicate (fn.ntmps - args.length) undef,defers:=[] } [.code body]:=by
  simp [Frame.enter,Frame.at,hf,hb,b]
 have hok:=Z8c (n:=fn.ntmps) (ds:=[]) args
 rw [Nat.max_eq_left (Nat.le_of_ble_eq_true hn)] at hok
 obtain ⟨e,w',fr,h1,h2,h3,h4⟩:=h w _ hw hok rfl b cs rfl rfl
 rw [←henter] at h2
 exact ⟨e,w',fr,h1,h2,h3,h4⟩
def After (c:Ctx) (dr:Bool) (ds:List Deferred) (H:List Res) (ops:Array Oper) (l:List Oper) (κ:List Res→Env→Prop) (e:Env) (d:Tmp):Ending→Prop
 | .returned v=>Sr (.eff dr) c ds H ops l κ ((d,v)::e)
 | .panicked chain=>D c dr ds H chain e
 | .outgrown=>False
theorem Z0U {P : Program} {g : FuncId} {gn : Func} (hg : P.funcs[g]? = some gn) (hb : gn.body.isSome = true) (hn : (gn.name == "runtime.NumGoroutine") = false) (args : Array Value) (w : World) :
  (callFunc g args).run P w=.ok (.enter g args) w:=by
 have hb':gn.body≠none:=by cases h:gn.body<;>simp_all
 have hn' : gn.name ≠ "runtime.NumGoroutine" := by simpa using hn
 simp [callFunc,program,Sem.run,hg,hn',hb']
class HF (P:Program) (g:FuncId):Prop where
 h : ∃ gn, P.funcs[g]? = some gn ∧ gn.body.isSome = true ∧ (gn.name == "runtime.NumGoroutine") = false
theorem Sr.callv {d:Tmp} {f:Operand} {args:List Operand} {ats:Array TypeId} {ty:TypeId} {pos:String} {aft:Array Edge} {g:FuncId} {first cap vs:List Value} {post:Ending→List Res→Prop}
  (hfn:ev e f=some (.func (.func g) ⟨first⟩ ⟨cap⟩)) (hargs:evs e args=some vs) [HF c.P g] (hd:Nat.blt d c.fn.ntmps=true) (hsp:Meets c.P g (first++vs++cap) c.F c.M H post)
  (hk:∀ en H',post en H'→After c dr ds H' ops l κ e d en) :
  Sr (.eff dr) c ds H ops (⟨some d,.call ⟨.value f,args.toArray,ats⟩,ty,pos,aft,none⟩::l) κ e:=fun w a hw ha hds=>by
 refine Z0m (Zs rfl _) ?_
 obtain ⟨gn,hg,hb,hn⟩:=HF.h (P:=c.P) (g:=g)
 have h1:=ha.ev hfn
 have h2:=ha.evs hargs
 have hrun:(execOp a.eval (⟨some d,.call ⟨.value f,args.toArray,ats⟩,ty,pos,aft,none⟩:Oper)).run c.P w=.ok (.enter g ⟨first++vs++cap⟩) w:=by
  have hm:Array.map a.eval args.toArray=⟨vs⟩:=by rw [←h2];simp
  simp only [execOp,resolve,h1,hm,Deferred.ofValue,pure_bind,invoke]
  rw [Z0U hg hb hn]
  simp
 simp only [Oper.wp,hrun,Oper.upon]
 refine (hsp w hw).mono fun en w' ⟨H',hp,hst⟩=>?_
 have hx:=hk en H' hp
 cases en with
 | returned v=>exact hx w' _ hst (ha.put (d:=some d) hd v) (by simp [Act.put,hds])
 | panicked chain=>exact ⟨hds,hx w' a hst ha hds⟩
 | outgrown=>exact hx.elim
theorem Sr.call {d:Tmp} {args:List Operand} {ats:Array TypeId} {ty:TypeId} {pos:String} {aft:Array Edge} {g:FuncId} {vs:List Value} {post:Ending→List Res→Prop}
  (hargs:evs e args=some vs) [HF c.P g] (hd:Nat.blt d c.fn.ntmps=true) (hsp:Meets c.P g vs c.F c.M H post)
  (hk:∀ en H',post en H'→After c dr ds H' ops l κ e d en) :
  Sr (.eff dr) c ds H ops (⟨some d,.call ⟨.value (.func g),args.toArray,ats⟩,ty,pos,aft,none⟩::l) κ e :=
 Sr.callv (first:=[]) (cap:=[]) (vs:=vs) rfl hargs hd (by simpa using hsp) hk

/- The end of a call. -/
inductive RV (c:Ctx) (H:List Res) (e:Env):List ResultVar→List Value→Prop
 | nil:RV c H e [] []
 | tmp {t:Tmp} {v:Value} {rs:List ResultVar} {vs:List Value}:get? e t=some v→RV c H e rs vs→RV c H e (.tmp t::rs) (v::vs)
 | cell {t:Tmp} {T:TypeId} {ad:Addr} {v:Value} {rs:List ResultVar} {vs:List Value}:get? e t=some (.pointer (some ad))→(∀ w,St c.F c.M w H→(loadVar T ad).run c.P w=.ok v w) →
   RV c H e rs vs→RV c H e (.cell t T::rs) (v::vs)
def pack:List Value→Value
 | [v]=>v
 | vs=>.tuple ⟨vs⟩
def rvF (tmps:Array Value):ResultVar→Sem Value
 | .tmp t=>pure (tmps.getD t undef)
 | .cell b t=>do loadVar t (←asAddr (tmps.getD b undef))
theorem Z8y (fn:Func) (tmps:Array Value):results fn tmps=(fn.results.mapM (rvF tmps) >>= fun vs=>pure (if h:vs.size=1 then vs[0] else .tuple vs)):=by
 unfold results
 rfl
theorem RV.run {rs:List ResultVar} {vs:List Value} (h:RV c H e rs vs) {w:World} {a:Act} (hw:St c.F c.M w H) (ha:Ok c.fn.ntmps e a) :
  (rs.mapM (rvF a.tmps)).run c.P w=.ok vs w:=by
 induction h with
 | nil=>simp
 | tmp h1 _ ih =>
  have h2:=ha.get _ _ h1
  simp only [List.mapM_cons,Sem.run_bind,rvF,h2,Sem.run_pure,Result.andThen_ok,ih]
 | cell h1 h3 _ ih =>
  have h2:=ha.get _ _ h1
  simp only [List.mapM_cons,Sem.run_bind,rvF,h2,asAddr,Sem.run_pure,Result.andThen_ok,h3 w hw,ih]
theorem Z0K {fn:Func} {rs:List ResultVar} {tmps:Array Value} {P:Program} {w:World} {vs:List Value} (hr:fn.results=rs.toArray)
  (h:(rs.mapM (rvF tmps)).run P w=.ok vs w):(results fn tmps).run P w=.ok (pack vs) w:=by
 have hm:((rs.toArray.mapM (rvF tmps)):Sem (Array Value)).run P w=.ok ⟨vs⟩ w:=by
  rw [List.mapM_toArray]
  simp [h]
 rw [Z8y,hr,Sem.run_bind,hm]
 simp only [Result.andThen_ok]
 cases vs with
 | nil=>simp [pack]
 | cons x r=>cases r<;>simp [pack]
theorem S.ret {rs:List ResultVar} {vs:List Value} (hf:c.P.funcs[c.f]?=some c.fn) (hr:c.fn.results=rs.toArray) (hv:RV c H e rs vs) (hp:c.post (.returned (pack vs)) H):S c [] H (.code .ret::k) e:=fun w a hw ha hd b cs hbf hbk=>by
 have hres:=Z0K hr (hv.run hw ha)
 refine ⟨.returned (pack vs),w,{ b.at a (.code .ret::k) with mode:=.returning },⟨H,hp,hw⟩,Steps.one step_ret,hbf,?_⟩
 unfold Out
 unfold Z2o at hbk
 cases hl:c.late with
 | false=>exact ⟨rfl,hd,by simpa [Frame.at,hl] using hbk,c.fn,by rw [←hf,←hbf];rfl,hres⟩
 | true=>exact ⟨by simpa [Frame.at,hl] using hbk,rfl,hd,c.fn,by rw [←hf,←hbf];rfl,hres⟩
theorem S.done {rs:List ResultVar} {vs:List Value} (hf:c.P.funcs[c.f]?=some c.fn) (hr:c.fn.results=rs.toArray) (hv:RV c H e rs vs) (hp:c.post (.returned (pack vs)) H):S c [] H [] e:=fun w a hw ha hd b cs hbf hbk=>by
 have hres:=Z0K hr (hv.run hw ha)
 refine ⟨.returned (pack vs),w,{ b.at a [] with mode:=.returning },⟨H,hp,hw⟩,Steps.one step_end,hbf,?_⟩
 unfold Out
 unfold Z2o at hbk
 cases hl:c.late with
 | false=>exact ⟨rfl,hd,by simpa [Frame.at,hl] using hbk,c.fn,by rw [←hf,←hbf];rfl,hres⟩
 | true=>exact ⟨by simpa [Frame.at,hl] using hbk,rfl,hd,c.fn,by rw [←hf,←hbf];rfl,hres⟩
theorem D.end {chain:List PanicEntry} (hp:c.post (.panicked chain) H):D c dr [] H chain e:=fun _w _a hw _ _=>⟨H,hp,hw⟩
end
attribute [irreducible] S Sr
end Sg
