/- Regions with effects whose order is drawn: one walk, pure operations as early as wanted, effects in the one order that the edges leave. -/
import Derived.Test.YtophlopiigpbgaaGreatDoorSteps
namespace Sg
open Go Go.RowKit

section
variable {P:Program} {ops:Array Oper} {Q:Exit→Act→World→Prop} {Ws:Nat→World→Prop} {eff:Nat→Bool}
def AW (P:Program) (ops:Array Oper) (Q:Exit→Act→World→Prop) (Ws:Nat→World→Prop) (eff:Nat→Bool):Nat→Array Bool→Act→World→Prop
 | 0,listed,a,w=>Region.ready .any ops listed=[]∧Q .normal a w
 | fuel+1,listed,a,w=>(Region.ready .any ops listed=[]→Q .normal a w) ∧
  ∀ i∈Region.ready .any ops listed,wpOp P ops Q i (fun a' w'=>(w'=w∨eff i=true∧Ws i w')∧AW P ops Q Ws eff fuel (listed.setIfInBounds i true) a' w') a w
theorem AW.any:∀ (fuel:Nat) (listed:Array Bool) (a:Act) (w:World),AW P ops Q Ws eff fuel listed a w→wpAny P .any ops Q fuel listed a w
 | 0,_,_,_,h=>h
 | fuel+1,_,_,_,h=>⟨h.1,fun i hi=>wpOp_mono (fun a' w' h'=>AW.any fuel _ a' w' h'.2) (h.2 i hi)⟩
def dep (ops:Array Oper) (i:Nat):Nat→Nat→Bool
 | 0,_=>false
 | n+1,j=>match ops[j]? with
  | some o=>o.after.toList.any fun e=>Region.binds .any e&&(e.on==i || dep ops i n e.on)
  | none=>false
def Closed (ops:Array Oper) (listed:Array Bool):Prop:=∀ j o,ops[j]?=some o→listed.getD j false=true→∀ e∈o.after,Region.binds .any e=true→listed.getD e.on false=true
theorem Z57 {listed:Array Bool} (hc:Closed ops listed) {i:Nat}:∀ (n j:Nat),dep ops i n j=true→(∀ o,ops[j]?=some o→∀ e∈o.after,Region.binds .any e=true→listed.getD e.on false=true)→listed.getD i false=true
 | 0,_,h,_=>by simp [dep] at h
 | n+1,j,h,hj=>by
  unfold dep at h
  split at h
  ·rename_i o ho
   obtain ⟨e,he,h2⟩:=List.any_eq_true.1 h
   have he:=Array.mem_toList_iff.1 he
   simp only [Bool.and_eq_true,Bool.or_eq_true,beq_iff_eq] at h2
   have h3:=hj o ho e he h2.1
   rcases h2.2 with h4|h4
   ·rw [←h4];exact h3
   ·exact Z57 hc n e.on h4 fun o' ho' e' he' hb'=>hc e.on o' ho' h3 e' he' hb'
  ·cases h
theorem Closed.set {listed:Array Bool} (hc:Closed ops listed) {i:Nat} (hr:i∈Region.ready .any ops listed):Closed ops (listed.setIfInBounds i true):=by
 intro j o ho hj e he hb
 obtain ⟨_,oi,hoi,hall⟩:=mem_ready.1 hr
 by_cases hji:j=i
 ·subst hji
  rw [hoi] at ho
  simp only [Option.some.injEq] at ho
  subst ho
  exact getD_set_true (hall e he hb)
 ·rw [getD_set_ne false (Ne.symm hji)] at hj
  exact getD_set_true (hc j o ho hj e he hb)
def Yw (P:Program) (ops:Array Oper) (o:Oper) (v:Value) (a:Act) (w:World):Prop :=
 (Region.wanted o (yielded ops a.tmps)=true∧((execOp a.eval o).run P w=.ok (.value v) w∨∃ f args,(execOp a.eval o).run P w=.ok (.enter f args) w∧Calls P f args w fun en w'=>en=.returned v∧w'=w))∨(Region.wanted o (yielded ops a.tmps)=false∧v=undef)
theorem Yw.wpOp {i:Nat} {o:Oper} {v:Value} {a:Act} {w:World} (hi:ops[i]?=some o) (hy:Yw P ops o v a w) {K:Act→World→Prop} (h:K (a.put o.dst v) w):wpOp P ops Q i K a w:=by
 unfold Go.wpOp
 simp only [hi]
 rcases hy with ⟨hw,hv⟩|⟨hw,rfl⟩
 ·rcases hv with hv|⟨f,args,hv,hc⟩
  ·simp only [hw,if_true,Oper.wp,hv,Oper.upon];exact .inl h
  ·simp only [hw,if_true,Oper.wp,hv,Oper.upon]
   refine .inl (hc.mono fun en w' he=>?_)
   obtain ⟨rfl,rfl⟩:=he
   exact h
 ·simp only [hw,Bool.false_eq_true,if_false];exact h
theorem Yw.move {o:Oper} {v:Value} {a a':Act} {w:World} (hy:Yw P ops o v a w) (he:execOp a'.eval o=execOp a.eval o) (hw:Region.wanted o (yielded ops a'.tmps)=Region.wanted o (yielded ops a.tmps)):Yw P ops o v a' w:=by
 unfold Yw at *
 rw [he,hw]
 exact hy
theorem Z9c {j:Nat} {oi oj:Oper} {v:Value} (hj:ops[j]?=some oj) (hap:oi.apart ops oj=true) (hsi:∀ cs b,oi.op≠.select cs b) (hsj:∀ cs b,oj.op≠.select cs b)
  (hQ:∀ c a w,Q (.panic c) (a.put oi.dst v) w→Q (.panic c) a w) {K:Act→World→Prop} {a:Act} {w:World} (h:wpOp P ops Q j K (a.put oi.dst v) w) :
  wpOp P ops Q j (fun a' w'=>(execOp a'.eval oi=execOp a.eval oi∧Region.wanted oi (yielded ops a'.tmps)=Region.wanted oi (yielded ops a.tmps))∧K (a'.put oi.dst v) w') a w:=by
 obtain ⟨h1,h2,h3⟩:=Oper.apart_spec hap
 have keep:∀ (a₁:Act) (u:Value),execOp a₁.eval oi=execOp a.eval oi→Region.wanted oi (yielded ops a₁.tmps)=Region.wanted oi (yielded ops a.tmps) →
   execOp (a₁.put oj.dst u).eval oi=execOp a.eval oi∧Region.wanted oi (yielded ops (a₁.put oj.dst u).tmps)=Region.wanted oi (yielded ops a.tmps):=fun a₁ u e1 e2 =>
  ⟨(execOp_put oi hsi a₁ oj.dst u h3).trans e1,(wanted_put oi a₁ oj.dst u h3).trans e2⟩
 unfold wpOp at h ⊢
 simp only [hj] at h ⊢
 rw [wanted_put oj a oi.dst v h1] at h
 by_cases hw:Region.wanted oj (yielded ops a.tmps)=true
 ·rw [if_pos hw] at h ⊢
  rcases h with h|⟨hasks,hlets⟩
  ·left
   unfold Oper.wp at h ⊢
   rw [execOp_put oj hsj a oi.dst v h1] at h
   generalize (execOp a.eval oj).run P w=r at h ⊢
   cases r with
   | ok n w' =>
    cases n<;>simp only [Oper.upon] at h ⊢
    case value u=>exact ⟨keep a u rfl rfl,by rw [←Act.put_comm a v u h2];exact h⟩
    case skip=>exact ⟨keep a _ rfl rfl,by rw [←Act.put_comm a v undef h2];exact h⟩
    case defer d =>
     refine ⟨keep _ _ rfl rfl,?_⟩
     rw [←Act.put_comm _ v undef h2,←Act.put_defers]
     exact h
    case enter f args =>
     refine h.mono fun en w'' he=>?_
     cases en with
     | returned u=>exact ⟨keep a u rfl rfl,by rw [←Act.put_comm a v u h2];exact he⟩
     | panicked ch=>exact hQ _ _ _ he
     | outgrown=>exact he
    case row row args=>exact h.mono fun u w'' he=>⟨keep a u rfl rfl,by rw [←Act.put_comm a v u h2];exact he⟩
   | halt x w' =>
    cases x<;>simp only [Oper.upon] at h ⊢
    case panic u=>exact hQ _ _ _ h
  ·right
   refine ⟨?_,hlets⟩
   unfold Oper.asks at hasks ⊢
   rw [execOp_put oj hsj a oi.dst v h1] at hasks
   exact hasks
 ·rw [if_neg hw] at h ⊢
  exact ⟨keep a _ rfl rfl,by rw [←Act.put_comm a v undef h2];exact h⟩
def Stable (P:Program) (ops:Array Oper) (Ws:Nat→World→Prop) (eff:Nat→Bool) (listed:Array Bool) (i:Nat) (o:Oper) (v:Value) (a:Act):Prop :=
 ∀ j,eff j=true→listed.getD j true=false→dep ops i 6 j=true∨∀ w,Ws j w→Yw P ops o v a w
theorem AW.first {i:Nat} {oi:Oper} {v:Value} (hi:ops[i]?=some oi) (hsel:∀ (j:Nat) (o:Oper) cs b,ops[j]?=some o→o.op≠.select cs b)
  (hQ:∀ c a w,Q (.panic c) (a.put oi.dst v) w→Q (.panic c) a w):∀ (fuel:Nat) (listed:Array Bool) (a:Act) (w:World),Closed ops listed →
   (∀ j oj,ops[j]?=some oj→j≠i→listed.getD j true=false→(∀ e∈oj.after,Region.binds .any e=true→e.on≠i)→oi.apart ops oj=true) →
   i∈Region.ready .any ops listed→Yw P ops oi v a w→Stable P ops Ws eff listed i oi v a →
   AW P ops Q Ws eff fuel (listed.setIfInBounds i true) (a.put oi.dst v) w→AW P ops Q Ws eff (fuel+1) listed a w:=by
 intro fuel
 induction fuel with
 | zero =>
  intro listed a w _ _ hr hy _ H
  refine ⟨fun h=>(by rw [h] at hr;cases hr),fun j hj=>?_⟩
  by_cases hji:j=i
  ·subst hji;exact hy.wpOp hi ⟨.inl rfl,H⟩
  ·have:=ready_mono hj hji
   rw [H.1] at this
   cases this
 | succ fuel ih =>
  intro listed a w hc hfree hr hy hst H
  refine ⟨fun h=>(by rw [h] at hr;cases hr),fun j hj=>?_⟩
  by_cases hji:j=i
  ·subst hji;exact hy.wpOp hi ⟨.inl rfl,H⟩
  ·have h1:=H.2 j (ready_mono hj hji)
   obtain ⟨hjun,oj,hoj,hall⟩:=mem_ready.1 hj
   have hiun:listed.getD i false=false:=by
    have h0:=(mem_ready.1 hr).1
    rcases Nat.lt_or_ge i listed.size with h' | h'
    ·simpa [h'] using h0
    ·simp [Array.getElem?_eq_none h'] at h0
   have hnot:∀ e∈oj.after,Region.binds .any e=true→e.on≠i:=fun e he hb heq=>by
    have h1:=hall e he hb
    rw [heq,hiun] at h1
    cases h1
   have h2:=Z9c hoj (hfree j oj hoj hji hjun hnot) (fun cs b=>hsel i oi cs b hi) (fun cs b=>hsel j oj cs b hoj) hQ h1
   have hfree':∀ k ok,ops[k]?=some ok→k≠i→(listed.setIfInBounds j true).getD k true=false →
     (∀ e∈ok.after,Region.binds .any e=true→e.on≠i)→oi.apart ops ok=true:=fun k ok hk hki hun hno=>by
    refine hfree k ok hk hki ?_ hno
    by_cases hjk:j=k
    ·subst hjk;exact hjun
    ·rw [getD_set_ne true hjk] at hun;exact hun
   refine wpOp_mono (fun a' w' h3=>⟨h3.2.1,ih (listed.setIfInBounds j true) a' w' (hc.set hj) hfree' (ready_mono hr (Ne.symm hji)) ?_ ?_ ?_⟩) h2
   ·rcases h3.2.1 with rfl|⟨hej,hws⟩
    ·exact hy.move h3.1.1 h3.1.2
    ·rcases hst j hej hjun with hst|hst
     ·have:=Z57 hc 6 j hst (fun o ho e he hb=>by
       rw [hoj] at ho
       simp only [Option.some.injEq] at ho
       subst ho
       exact hall e he hb)
      rw [hiun] at this
      cases this
     ·exact (hst w' hws).move h3.1.1 h3.1.2
   ·intro j' hj' hun'
    have hun:listed.getD j' true=false:=by
     by_cases hjj:j=j'
     ·subst hjj;exact hjun
     ·rw [getD_set_ne true hjj] at hun';exact hun'
    rcases hst j' hj' hun with hst|hst
    ·exact .inl hst
    ·exact .inr fun w'' hw''=>(hst w'' hw'').move h3.1.1 h3.1.2
   ·rw [Array.setIfInBounds_comm _ _ hji]
    exact h3.2.2
end

theorem St.bare {F:World} {M:List Nat} {w:World} {H:List Res} (h:St F M w H):St F M w []:=⟨h.os,h.tape,h.output,h.size,h.keep,fun b hb=>by simp [feet] at hb,by simp [feet],fun r hr=>by cases hr⟩
/- The judgement for such a region: what is listed, and what is known. -/
def Kind (c:Ctx) (Hs:List Res) (lt:List Nat) (j:Nat) (w:World):Prop:=(lt.contains j=true∧St c.F c.M w [])∨St c.F c.M w Hs
def SA (c:Ctx) (ds:List Deferred) (Hs:List Res) (es lt:List Nat) (H:List Res) (ops:Array Oper) (fuel:Nat) (listed:Array Bool) (κ:List Res→Env→Prop) (e:Env):Prop :=
 Closed ops listed→∀ w a,St c.F c.M w H→Ok c.fn.ntmps e a→a.defers=ds→AW c.P ops (Kq c true ds κ) (Kind c Hs lt) (es.contains ·) fuel listed a w
def SK (c:Ctx) (ds:List Deferred) (Hs:List Res) (es lt:List Nat) (i:Nat) (H:List Res) (ops:Array Oper) (fuel:Nat) (listed:Array Bool) (κ:List Res→Env→Prop) (e:Env):Prop :=
 (∀ w,St c.F c.M w H→Kind c Hs lt i w)∧SA c ds Hs es lt H ops fuel listed κ e
def nthO:List Oper→Nat→Option Oper
 | [],_=>none
 | o::_,0=>some o
 | _::r,n+1=>nthO r n
theorem Z0A:∀ (l:List Oper) (i:Nat),nthO l i=l[i]?
 | [],_=>by simp [nthO]
 | _::_,0=>by simp [nthO]
 | _::r,n+1=>by simp [nthO,Z0A r n]
def rdy (listed:Array Bool) (o:Oper):Bool:=o.after.toList.all fun e=>!Region.binds .any e || listed.getD e.on false
def Z5n (listed:Array Bool) (es:List Nat) (b:Bool):Nat→Nat→Option Nat
 | 0,_=>none
 | n+1,k=>match !listed.getD k true&&(es.contains k==b) with
  | true=>some k
  | false=>Z5n listed es b n (k+1)
section
variable {c:Ctx} {ds:List Deferred} {Hs H:List Res} {es lt:List Nat} {ops:Array Oper} {l:List Oper} {k:List Item} {κ:List Res→Env→Prop} {e:Env} {o:Oper} {v:Value} {fuel:Nat} {listed:Array Bool}
theorem Kq.back {a:Act} {w:World} {ch:List PanicEntry} {d:Option Tmp} (h:Kq c true ds κ (.panic ch) (a.put d v) w):Kq c true ds κ (.panic ch) a w:=by
 obtain ⟨h1,h2⟩:=h
 rw [Zt] at h1
 refine ⟨h1,?_⟩
 unfold PK at h2 ⊢
 cases ds with
 | nil=>exact h2
 | cons d r=>exact h2
theorem S.drawL {id:Nat} [HM c.P] [hf:HFn c.P c.f c.fn] (Hs:List Res) (es lt:List Nat) (n:Nat) (hn:l.length=n) (h:SA c ds Hs es lt H l.toArray n (Array.replicate n false) (fun H e=>S c ds H k e) e):S c ds H (.code (.region id l.toArray true)::k) e:=by
 subst hn
 exact S.ofWp fun w a hw ha hd=>by
  have hc:Closed l.toArray (Array.replicate l.length false):=fun j o ho hj=>by
   have hlt:j < l.length:=by
    have:=(Array.getElem?_eq_some_iff.1 ho).1
    simpa using this
   simp [hlt] at hj
  have h1:=AW.any _ _ _ _ (h hc { w with drawn:=w.drawn+1 } a hw.drew ha hd)
  have h2:=wp_region_any (P:=c.P) (id:=id) (ops:=l.toArray) (Q:=Kq c true ds (fun H e=>S c ds H k e)) (a:=a) (w:=w) HM.h (by simpa using h1)
  refine wp_mono h2 fun x a' w' hq=>?_
  have hq':Kq c false ds (fun H e=>S c ds H k e) x a' w':=by
   cases x with
   | normal=>exact hq
   | panic ch =>
    obtain ⟨q1,q2⟩:=hq
    refine ⟨q1,?_⟩
    unfold PK at q2 ⊢
    cases ds with
    | nil=>exact q2
    | cons d r=>exact q2.elim
   | _=>exact hq
  exact Kq.ofS hq' hf.h
theorem S.draw {id:Nat} [HM c.P] [hf:HFn c.P c.f c.fn] (Hs:List Res) (es:List Nat) (n:Nat) (hn:l.length=n) (h:SA c ds Hs es [] H l.toArray n (Array.replicate n false) (fun H e=>S c ds H k e) e):S c ds H (.code (.region id l.toArray true)::k) e:=S.drawL Hs es [] n hn h
theorem SA.p (i:Nat) {d:Nat} (ho:ops[i]?=some o) (hB:(Region.noSelect ops&&Region.free .any ops listed i&&(Region.ready .any ops listed).contains i)=true) (h:Pu c H e o v) (hs:es.all (fun j=>listed.getD j true || dep ops i 6 j)=true∨lt.all (fun j=>listed.getD j true || dep ops i 6 j)=true∧Pu c Hs e o v)
  (hd:o.dst=some d) (hlt:Nat.blt d c.fn.ntmps=true) (hg:o.guard=none) (hk:SA c ds Hs es lt H ops fuel (listed.setIfInBounds i true) κ ((d,v)::e)):SA c ds Hs es lt H ops (fuel+1) listed κ e:=fun hc w a hw ha hds=>by
 simp only [Bool.and_eq_true] at hB
 have hr:i∈Region.ready .any ops listed:=by simpa using hB.2
 have h2:Ok c.fn.ntmps ((d,v)::e) (a.put o.dst v):=by
  have:=ha.put (d:=o.dst) (by rw [hd];exact hlt) v
  rw [hd] at this ⊢
  exact this
 refine AW.first (v:=v) ho (Region.noSelect_spec hB.1.1) (fun _ _ _=>Kq.back) fuel listed a w hc (Region.free_spec ho hB.1.2) hr (.inl ⟨Zs hg _,.inl (h w a hw ha)⟩) ?_ (hk (hc.set hr) w _ hw h2 ((Zt _ _ _).trans hds))
 intro j hj hun
 have hdep:(listed.getD j true || dep ops i 6 j)=true→dep ops i 6 j=true:=fun h=>by rw [hun,Bool.false_or] at h;exact h
 rcases hs with hs|⟨hs0,hs⟩
 ·exact .inl (hdep (List.all_eq_true.1 hs j (by simpa using hj)))
 ·by_cases hlj:lt.contains j=true
  ·exact .inl (hdep (List.all_eq_true.1 hs0 j (by simpa using hlj)))
  ·exact .inr fun w' hw'=>.inl ⟨Zs hg _,.inl (hs w' a (hw'.resolve_left fun h=>hlj h.1) ha)⟩
theorem SA.q (i:Nat) (ho:ops[i]?=some o) (hB:(Region.noSelect ops&&Region.free .any ops listed i&&(Region.ready .any ops listed).contains i&&es.all (fun j=>listed.getD j true || dep ops i 6 j))=true)
  (h:Sr .uni c ds H ops [o] (fun _ e'=>SA c ds Hs es lt H ops fuel (listed.setIfInBounds i true) κ e') e):SA c ds Hs es lt H ops (fuel+1) listed κ e:=by
 unfold Sr at h
 obtain ⟨v,d,h1,h2,h3,h4,h5⟩:=h
 simp only [Bool.and_eq_true] at hB
 exact SA.p i ho (by simp only [Bool.and_eq_true];exact hB.1) h1 (.inl hB.2) h2 h3 h4 h5
theorem SA.qs (i:Nat) (ho:ops[i]?=some o) (hB:(Region.noSelect ops&&Region.free .any ops listed i&&(Region.ready .any ops listed).contains i&&lt.all (fun j=>listed.getD j true || dep ops i 6 j))=true) (hsub:∀ w,St c.F c.M w H→St c.F c.M w Hs)
  (h:Sr .uni c ds Hs ops [o] (fun _ e'=>SA c ds Hs es lt H ops fuel (listed.setIfInBounds i true) κ e') e):SA c ds Hs es lt H ops (fuel+1) listed κ e:=by
 unfold Sr at h
 obtain ⟨v,d,h1,h2,h3,h4,h5⟩:=h
 simp only [Bool.and_eq_true] at hB
 exact SA.p i ho (by simp only [Bool.and_eq_true];exact hB.1) (fun w a hw ha=>h1 w a (hsub w hw) ha) (.inr ⟨hB.2,h1⟩) h2 h3 h4 h5
theorem SA.effs (r:List Nat) (hne:r≠[]) (hB:(Region.ready .any ops listed==r&&r.all (es.contains ·))=true) (h:∀ i∈r,∃ o,ops[i]?=some o∧Sr (.eff true) c ds H ops [o] (fun H' e'=>SK c ds Hs es lt i H' ops fuel (listed.setIfInBounds i true) κ e') e) :
  SA c ds Hs es lt H ops (fuel+1) listed κ e:=fun hc w a hw ha hds=>by
 simp only [Bool.and_eq_true,beq_iff_eq] at hB
 refine ⟨fun h0=>absurd (hB.1.symm.trans h0) hne,fun j hj=>?_⟩
 have hr:=hj
 rw [hB.1] at hj
 have hBj:es.contains j=true:=List.all_eq_true.1 hB.2 j hj
 obtain ⟨o,ho,h⟩:=h j hj
 unfold Sr at h
 have h1:=h w a hw ha hds
 unfold wpList at h1
 unfold wpOp
 simp only [ho]
 have conv:∀ (a':Act) (w':World),wpList c.P ops (Kq c true ds fun H' e'=>SK c ds Hs es lt j H' ops fuel (listed.setIfInBounds j true) κ e') [] a' w' →
   (w'=w∨es.contains j=true∧Kind c Hs lt j w')∧AW c.P ops (Kq c true ds κ) (Kind c Hs lt) (es.contains ·) fuel (listed.setIfInBounds j true) a' w':=by
  intro a' w' h2
  obtain ⟨H',e',q1,q2,q3,q4,q5⟩:=h2
  exact ⟨.inr ⟨hBj,q4 w' q1⟩,q5 (hc.set hr) w' a' q1 q2 q3⟩
 have pan:∀ ch (a':Act) (w':World),Kq c true ds (fun H' e'=>(∀ w,St c.F c.M w H'→Kind c Hs lt j w)∧SA c ds Hs es lt H' ops fuel (listed.setIfInBounds j true) κ e') (.panic ch) a' w'→Kq c true ds κ (.panic ch) a' w':=fun _ _ _ h=>h
 split
 ·rename_i hw'
  rw [if_pos hw'] at h1
  rcases h1 with h1|⟨_,a₀,w₀,h1⟩
  ·left
   unfold Oper.wp at h1 ⊢
   generalize (execOp a.eval o).run c.P w=r at h1 ⊢
   cases r with
   | ok n w' =>
    cases n<;>simp only [Oper.upon] at h1 ⊢
    case enter f args =>
     refine h1.mono fun en w'' he=>?_
     cases en with
     | returned u=>exact conv _ _ he
     | panicked ch=>exact pan _ _ _ he
     | outgrown=>exact he.elim fun _ h=>h.elim fun _ h=>h.elim
    case row row args=>exact h1.mono fun u w'' he=>conv _ _ he
    all_goals exact conv _ _ h1
   | halt x w' =>
    cases x<;>simp only [Oper.upon] at h1 ⊢
    case panic u=>exact pan _ _ _ h1
  ·exact h1.elim
 ·rename_i hw'
  rw [if_neg hw'] at h1
  exact ⟨.inl trivial,(conv _ _ h1).2⟩
theorem SA.eff (i:Nat) (ho:ops[i]?=some o) (hB:(Region.ready .any ops listed==[i]&&es.contains i)=true) (h:Sr (.eff true) c ds H ops [o] (fun H' e'=>SK c ds Hs es lt i H' ops fuel (listed.setIfInBounds i true) κ e') e) :
  SA c ds Hs es lt H ops (fuel+1) listed κ e:=SA.effs [i] (by simp) (by simpa using hB) (fun j hj=>by
 rw [List.mem_singleton] at hj
 subst hj
 exact ⟨o,ho,h⟩)
theorem SA.done (_hl:listed.toList.all (fun b=>b)=true) (hB:Region.ready .any ops listed=[]) (h:κ H e):SA c ds Hs es lt H ops fuel listed κ e:=fun _ w a hw ha hds=>by
 have hq:Kq c true ds κ .normal a w:=⟨H,e,hw,ha,hds,h⟩
 cases fuel with
 | zero=>exact ⟨hB,hq⟩
 | succ n=>exact ⟨fun _=>hq,fun i hi=>(by rw [hB] at hi;cases hi)⟩
theorem SA.qn {i:Nat} (_hi:Z5n listed es false ops.size 0=some i) (ho':nthO ops.toList i=some o) (_hr:rdy listed o=true) (hd:es.all (fun j=>listed.getD j true || dep ops i 6 j)=true) (hB:(Region.noSelect ops&&Region.free .any ops listed i&&(Region.ready .any ops listed).contains i)=true)
  (h:Sr .uni c ds H ops [o] (fun _ e'=>SA c ds Hs es lt H ops fuel (listed.setIfInBounds i true) κ e') e):SA c ds Hs es lt H ops (fuel+1) listed κ e:=have ho:ops[i]?=some o:=by rw [←ho',Z0A];simp
 SA.q i ho (by rw [hB,hd];rfl) h
theorem SA.qsn {i:Nat} (_hi:Z5n listed es false ops.size 0=some i) (ho':nthO ops.toList i=some o) (_hr:rdy listed o=true) (hB:(Region.noSelect ops&&Region.free .any ops listed i&&(Region.ready .any ops listed).contains i&&lt.all (fun j=>listed.getD j true || dep ops i 6 j))=true) (hsub:∀ w,St c.F c.M w H→St c.F c.M w Hs)
  (h:Sr .uni c ds Hs ops [o] (fun _ e'=>SA c ds Hs es lt H ops fuel (listed.setIfInBounds i true) κ e') e):SA c ds Hs es lt H ops (fuel+1) listed κ e:=have ho:ops[i]?=some o:=by rw [←ho',Z0A];simp
 SA.qs i ho hB hsub h
def Zcg:Op→Bool
 | .move _=>true
 | .assign _=>true
 | .nilCheck _=>true
 | .fieldAddr _ _ _=>true
 | .extract _ _=>true
 | .binOp _ _ _ _ _=>true
 | .unOp _ _ _=>true
 | .pick _ _ _=>true
 | _=>false
theorem SA.qz {i:Nat} (_hi:Z5n listed es false ops.size 0=some i) (ho':nthO ops.toList i=some o) (_hr:rdy listed o=true) (_hp:Zcg o.op=true) (hB:(Region.noSelect ops&&Region.free .any ops listed i&&(Region.ready .any ops listed).contains i)=true)
  (h:Sr .uni c ds [] ops [o] (fun _ e'=>SA c ds Hs es lt H ops fuel (listed.setIfInBounds i true) κ e') e):SA c ds Hs es lt H ops (fuel+1) listed κ e:=by
 have ho:ops[i]?=some o:=by rw [←ho',Z0A];simp
 unfold Sr at h
 obtain ⟨v,d,h1,h2,h3,h4,h5⟩:=h
 intro hc w a hw ha hds
 simp only [Bool.and_eq_true] at hB
 have hr:i∈Region.ready .any ops listed:=by simpa using hB.2
 have h6:Ok c.fn.ntmps ((d,v)::e) (a.put o.dst v):=by
  have:=ha.put (d:=o.dst) (by rw [h2];exact h3) v
  rw [h2] at this ⊢
  exact this
 refine AW.first (v:=v) ho (Region.noSelect_spec hB.1.1) (fun _ _ _=>Kq.back) fuel listed a w hc (Region.free_spec ho hB.1.2) hr (.inl ⟨Zs h4 _,.inl (h1 w a hw.bare ha)⟩) ?_ (h5 (hc.set hr) w _ hw h6 ((Zt _ _ _).trans hds))
 intro j hj hun
 exact .inr fun w' hw'=>.inl ⟨Zs h4 _,.inl (h1 w' a (hw'.elim (fun h=>h.2) (fun h=>h.bare)) ha)⟩
def rdyE (ops:Array Oper) (listed:Array Bool):List Nat→List Nat
 | []=>[]
 | i::r=>match !listed.getD i true&&(match nthO ops.toList i with
   | some o=>rdy listed o
   | none=>false) with
  | true=>i::rdyE ops listed r
  | false=>rdyE ops listed r
theorem SA.en {i:Nat} (_hi:rdyE ops listed es=[i]) (ho':nthO ops.toList i=some o) (hB:(Region.ready .any ops listed==[i]&&es.contains i)=true) (h:Sr (.eff true) c ds H ops [o] (fun H' e'=>SK c ds Hs es lt i H' ops fuel (listed.setIfInBounds i true) κ e') e) :
  SA c ds Hs es lt H ops (fuel+1) listed κ e:=have ho:ops[i]?=some o:=by rw [←ho',Z0A];simp
 SA.eff i ho hB h
theorem SA.e2 {i j:Nat} {o':Oper} (_hr:rdyE ops listed es=[i,j]) (hi:nthO ops.toList i=some o) (hj:nthO ops.toList j=some o') (hB:(Region.ready .any ops listed==[i,j]&&[i,j].all (es.contains ·))=true) (h1:Sr (.eff true) c ds H ops [o] (fun H' e'=>SK c ds Hs es lt i H' ops fuel (listed.setIfInBounds i true) κ e') e)
  (h2:Sr (.eff true) c ds H ops [o'] (fun H' e'=>SK c ds Hs es lt j H' ops fuel (listed.setIfInBounds j true) κ e') e):SA c ds Hs es lt H ops (fuel+1) listed κ e:=SA.effs [i,j] (by simp) hB (fun x hx=>by
 simp only [List.mem_cons,List.not_mem_nil,or_false] at hx
 rcases hx with rfl|rfl
 ·exact ⟨o,by rw [←hi,Z0A];simp,h1⟩
 ·exact ⟨o',by rw [←hj,Z0A];simp,h2⟩)
def PCall (P:Program) (g:FuncId) (vs:List Value) (v:Value):Prop:=∀ w,Calls P g ⟨vs⟩ w fun en w'=>en=.returned v∧w'=w
theorem SA.qcall {i:Nat} {d:Tmp} {args:List Operand} {ats:Array TypeId} {ty:TypeId} {pos:String} {aft:Array Edge} {g:FuncId} {vs:List Value} (_hi:Z5n listed es false ops.size 0=some i)
  (ho':nthO ops.toList i=some ⟨some d,.call ⟨.value (.func g),args.toArray,ats⟩,ty,pos,aft,none⟩) (_hr:rdy listed ⟨some d,.call ⟨.value (.func g),args.toArray,ats⟩,ty,pos,aft,none⟩=true)
  (hB:(Region.noSelect ops&&Region.free .any ops listed i&&(Region.ready .any ops listed).contains i)=true) (hargs:evs e args=some vs) (hhf:HF c.P g) (hlt:Nat.blt d c.fn.ntmps=true) (hsp:PCall c.P g vs v)
  (hk:SA c ds Hs es lt H ops fuel (listed.setIfInBounds i true) κ ((d,v)::e)):SA c ds Hs es lt H ops (fuel+1) listed κ e:=fun hc w a hw ha hds=>by
 have ho:ops[i]?=some ⟨some d,.call ⟨.value (.func g),args.toArray,ats⟩,ty,pos,aft,none⟩:=by rw [←ho',Z0A];simp
 simp only [Bool.and_eq_true] at hB
 have hr:i∈Region.ready .any ops listed:=by simpa using hB.2
 have h2:Ok c.fn.ntmps ((d,v)::e) (a.put (some d) v):=ha.put (d:=some d) hlt v
 obtain ⟨gn,hg,hb,hn⟩:=HF.h (P:=c.P) (g:=g)
 have h3:=ha.evs hargs
 have hrun:∀ w,(execOp a.eval (⟨some d,.call ⟨.value (.func g),args.toArray,ats⟩,ty,pos,aft,none⟩:Oper)).run c.P w=.ok (.enter g ⟨vs⟩) w:=fun w=>by
  have hm:Array.map a.eval args.toArray=⟨vs⟩:=by rw [←h3];simp
  simp only [execOp,resolve,Act.eval,hm,Deferred.ofValue,pure_bind,invoke]
  rw [Z0U hg hb hn]
  simp
 exact AW.first (v:=v) ho (Region.noSelect_spec hB.1.1) (fun _ _ _=>Kq.back) fuel listed a w hc (Region.free_spec ho hB.1.2) hr (.inl ⟨Zs rfl _,.inr ⟨_,_,hrun w,hsp w⟩⟩) (fun j _ _=>.inr fun w' _=>.inl ⟨Zs rfl _,.inr ⟨_,_,hrun w',hsp w'⟩⟩) (hk (hc.set hr) w _ hw h2 ((Zt _ _ _).trans hds))
theorem PCall.of {P:Program} {g:FuncId} {vs:List Value} {v:Value} (h:PCall P g vs v) {F:World} {M:List Nat} {H:List Res}:Meets P g vs F M H fun en H'=>en=.returned v∧H'=H:=fun w hw=>(h w).mono fun en w' ⟨h1,h2⟩=>⟨H,⟨h1,rfl⟩,by rw [h2];exact hw⟩
theorem SK.intro {i:Nat} (h1:∀ w,St c.F c.M w H→St c.F c.M w Hs) (h2:SA c ds Hs es lt H ops fuel listed κ e):SK c ds Hs es lt i H ops fuel listed κ e:=⟨fun w hw=>.inr (h1 w hw),h2⟩
theorem SK.late {i:Nat} (h1:lt.contains i=true) (h2:SA c ds Hs es lt H ops fuel listed κ e):SK c ds Hs es lt i H ops fuel listed κ e:=⟨fun _ hw=>.inl ⟨h1,hw.bare⟩,h2⟩
end
attribute [irreducible] SA SK
end Sg
