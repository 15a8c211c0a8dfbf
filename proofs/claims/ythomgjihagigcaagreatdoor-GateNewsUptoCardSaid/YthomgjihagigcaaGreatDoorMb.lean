/- Texts put together by a program: JsnM JsnQ JsnA GtM DrawG GtN DecP. -/
import Derived.Test.YthomgjihagigcaaGreatDoorMa
import Derived.Test.YthomgjihagigcaaGreatDoorFacts
/- JSON, in plain Lean: the machine with a stack says what going down says. -/
namespace Sg
structure Cf where
 p:Nat
 s:Nat
 out:List Nd
 stk:List (Nat × Option (List (List UInt8)))
 key:List UInt8
inductive Nx
 | go (c:Cf)
 | stop (code:Int) (at_:Nat)
def bump (out:List Nd):List (Nat × Option (List (List UInt8)))→List Nd
 | []=>out
 | (i,_)::_=>out.modify i Nd.more
def Cf.lay (c:Cf) (n:Nd):Cf:={ c with key:=[],out:=bump c.out c.stk++[n.named c.key] }
def behS:List (Nat × Option (List (List UInt8)))→Nat
 | []=>6
 | _::_=>5
def Cf.behind (c:Cf):Cf:={ c with s:=behS c.stk }
def endC (c:Cf):Cf:=Cf.behind { c with p:=c.p+1,stk:=c.stk.tail }
def begC (c:Cf) (ch:UInt8):Nx :=
 if c.stk.length=32 then .stop 11 c.p else
 .go { p:=c.p+1,s:=if ch=123 then 3 else 1,out:=bump c.out c.stk++[(nd (if ch=123 then 7 else 6)).named c.key],stk:=((bump c.out c.stk).length,if ch=123 then some [] else none)::c.stk,key:=[] }
def valC (wh:List UInt8→Int × Bool) (t:List UInt8) (c:Cf) (ch:UInt8):Nx:=if ch=91∨ch=123 then begC c ch else
 match ZT wh t c.p ch with
 | .bad e a=>.stop e a
 | .ok a l=>.go (Cf.behind (Cf.lay { c with p:=a } (l.headD (nd 0))))
def namC (t:List UInt8) (c:Cf) (ch:UInt8):Nx:=if ch=34 then
  match Zo t (c.p+1) with
  | .bad e a=>.stop e a
  | .ok a s=>match c.stk with
   | (i,some ns)::r=>if s∈ns then .stop 34 c.p else .go { c with p:=a,s:=4,key:=s,stk:=(i,some (s::ns))::r }
   | _=>.stop 0 0
 else .stop 31 c.p
def Z0x:List (Nat × Option (List (List UInt8)))→Bool
 | (_,some _)::_=>true
 | _=>false
def morC (c:Cf) (ch:UInt8):Nx :=
 if ch=44 then .go { c with p:=c.p+1,s:=if Z0x c.stk then 2 else 0 } else
 if ch=(if Z0x c.stk then 125 else 93) then .go (endC c) else .stop 31 c.p
def Z15 (wh:List UInt8→Int × Bool) (t:List UInt8) (c:Cf) (ch:UInt8):Nx:=match c.s with
 | 0=>valC wh t c ch
 | 1=>if ch=93 then .go (endC c) else valC wh t c ch
 | 2=>namC t c ch
 | 3=>if ch=125 then .go (endC c) else namC t c ch
 | 4=>if ch=58 then .go { c with p:=c.p+1,s:=0 } else .stop 31 c.p
 | 5=>morC c ch
 | _=>.stop 31 c.p
def mach (wh:List UInt8→Int × Bool) (t:List UInt8):Nat→Cf→Gt (List Nd)
 | 0,_=>.bad 0 0
 | f+1,c=>match t[Z2 t c.p]? with
  | some ch=>match Z15 wh t { c with p:=Z2 t c.p } ch with
   | .go c'=>mach wh t f c'
   | .stop e a=>.bad e a
  | none=>if c.s=6 then .ok (Z2 t c.p) c.out else .bad 31 t.length
/- Ends. -/
theorem Z0Y {f:UInt8→Bool}:∀ l:List UInt8,(l.drop (l.takeWhile f).length).takeWhile f=[]
 | []=>rfl
 | a::r=>by
  by_cases h:f a=true
  ·rw [List.takeWhile_cons_of_pos h]
   exact Z0Y r
  ·rw [List.takeWhile_cons_of_neg h]
   exact List.takeWhile_cons_of_neg h
theorem Zd (t:List UInt8) (p:Nat):p≤Z2 t p:=Nat.le_add_right _ _
theorem Z0B {f:UInt8→Bool} (l:List UInt8):(l.takeWhile f).length≤l.length:=(List.takeWhile_prefix f).length_le
theorem Zb {t:List UInt8} {p:Nat} (h:p≤t.length):Z2 t p≤t.length:=by
 have:=Z0B (f:=Z12) (t.drop p)
 rw [List.length_drop] at this
 unfold Z2
 omega
theorem Ze (t:List UInt8) (p:Nat):Z2 t (Z2 t p)=Z2 t p:=by
 have:=Z0Y (f:=Z12) (t.drop p)
 rw [List.drop_drop] at this
 unfold Z2
 rw [this]
 rfl
theorem Z3q (t:List UInt8) (p:Nat):p≤Z3 t p:=Nat.le_add_right _ _
theorem Z6U {t:List UInt8} {p:Nat} (h:p≤t.length):Z3 t p≤t.length:=by
 have:=Z0B (f:=Za) (t.drop p)
 rw [List.length_drop] at this
 unfold Z3
 omega
theorem Zz {t:List UInt8} {p:Nat} {c:UInt8} (h:atB t p c=true):p < t.length:=by
 unfold atB at h
 rcases Nat.lt_or_ge p t.length with h1|h1
 ·exact h1
 ·rw [List.getElem?_eq_none h1] at h;simp at h
theorem Z0N {t:List UInt8} {p:Nat} {c ch:UInt8} (h:t[p]?=some ch):atB t p c=true↔ch=c:=by
 unfold atB
 rw [h]
 simp
theorem Z1R {t:List UInt8} {p:Nat} {c:UInt8} (h:t[p]?=none):atB t p c=false:=by
 unfold atB
 rw [h]
 rfl
def Gt.fits {α:Type} (g:Gt α) (lo hi:Nat):Prop:=∀ a v,g=.ok a v→lo≤a∧a≤hi
theorem Gt.fits_bad {α:Type} {c:Int} {p lo hi:Nat}:(Gt.bad c p:Gt α).fits lo hi:=fun _ _ h=>by cases h
theorem Gt.fits_ok {α:Type} {p lo hi:Nat} {v:α} (h:lo≤p∧p≤hi):(Gt.ok p v).fits lo hi:=fun _ _ e=>by cases e;exact h
theorem Gt.fits_bind {α β:Type} {g:Gt α} {f:Nat→α→Gt β} {lo hi lo':Nat} (h:g.fits lo hi) (hf:∀ a v,lo≤a→a≤hi→(f a v).fits lo' hi):(g.bind f).fits lo' hi:=fun a v e=>by
 cases g with
 | bad c p=>cases e
 | ok b u=>exact hf b u (h b u rfl).1 (h b u rfl).2 a v e
theorem Zt {t:List UInt8} {p:Nat} (h:p≤t.length):(ZF t p).fits (p+1) t.length:=by
 unfold ZF
 split
 ·exact Gt.fits_bad
 ·have:=Z3q t p
  exact Gt.fits_ok ⟨by omega,Z6U h⟩
theorem Z1o {t:List UInt8} {p:Nat} (h:p≤t.length):(numX t p).fits (p+1) t.length:=by
 have mono:∀ {α:Type} {g:Gt α} {lo lo' hi:Nat},g.fits lo hi→lo'≤lo→g.fits lo' hi:=fun h hl a v e=>⟨Nat.le_trans hl (h a v e).1,(h a v e).2⟩
 unfold numX
 have h1:(Z0y t (if atB t p 45 then p+1 else p)).fits (p+1) t.length:=by
  unfold Z0y
  by_cases hm:atB t p 45=true
  ·have:=Zz hm
   rw [if_pos hm]
   split
   ·rename_i h0
    have:=Zz h0
    exact Gt.fits_ok ⟨by omega,by omega⟩
   ·exact mono (Zt (by omega)) (by omega)
  ·rw [if_neg hm]
   split
   ·rename_i h0
    have:=Zz h0
    exact Gt.fits_ok ⟨by omega,by omega⟩
   ·exact Zt h
 refine Gt.fits_bind h1 fun a _ ha1 ha2=>?_
 have h2:(ZU t a).fits (p+1) t.length:=by
  unfold ZU
  split
  ·rename_i h0
   have:=Zz h0
   exact mono (Zt (by omega)) (by omega)
  ·exact Gt.fits_ok ⟨ha1,ha2⟩
 refine Gt.fits_bind h2 fun b _ hb1 hb2=>?_
 unfold Z0z
 split
 ·rename_i h0
  have hlt:b < t.length:=by
   rw [Bool.or_eq_true] at h0
   rcases h0 with h0|h0<;>exact Zz h0
  have hs:b+1≤Z0t t (b+1)∧Z0t t (b+1)≤t.length:=by
   unfold Z0t
   split
   ·rename_i h3
    rw [Bool.or_eq_true] at h3
    have h4:b+1 < t.length:=by rcases h3 with h3|h3<;>exact Zz h3
    omega
   ·omega
  exact mono (Zt hs.2) (by omega)
 ·exact Gt.fits_ok ⟨hb1,hb2⟩
theorem Z0f {t:List UInt8}:∀ {ws:List UInt8} {p:Nat},p≤t.length→(ZL t p ws).fits (p+ws.length) t.length
 | [],p,h=>by unfold ZL;exact Gt.fits_ok ⟨Nat.le_refl _,h⟩
 | w::ws,p,h=>by
  unfold ZL
  split
  ·rename_i h0
   have:=Zz h0
   have h1:=Z0f (t:=t) (ws:=ws) (p:=p+1) (by omega)
   intro a v e
   have:=h1 a v e
   simp only [List.length_cons]
   omega
  ·exact Gt.fits_bad
theorem Z0l {t:List UInt8} {low:Bool} {fr:Nat}:∀ {k p u:Nat},p≤t.length→(Zr t low fr k p u).fits (p+k) t.length
 | 0,p,u,h=>by unfold Zr;exact Gt.fits_ok ⟨Nat.le_refl _,h⟩
 | k+1,p,u,h=>by
  unfold Zr
  split
  ·exact Gt.fits_bad
  ·rename_i c hc
   have hlt:=(List.getElem?_eq_some_iff.1 hc).1
   split
   ·exact Gt.fits_bad
   ·split
    ·exact Gt.fits_bad
    ·intro a v e
     have:=Z0l (t:=t) (low:=low) (fr:=fr) (k:=k) (p:=p+1) (by omega) a v e
     omega
theorem Z2z {t:List UInt8} {fr p:Nat} {c:UInt8}:(Z0q t fr p c).fits (p+1) t.length:=by
 unfold Z0q
 split
 ·exact Gt.fits_bad
 ·rename_i d hd
  have hlt:=(List.getElem?_eq_some_iff.1 hd).1
  split
  ·exact Gt.fits_ok ⟨Nat.le_refl _,by omega⟩
  ·exact Gt.fits_bad
theorem Z0n {t:List UInt8} {fr:Nat}:(escX t fr).fits (fr+2) t.length:=by
 have mono:∀ {α:Type} {g:Gt α} {lo lo' hi:Nat},g.fits lo hi→lo'≤lo→g.fits lo' hi:=fun h hl a v e=>⟨Nat.le_trans hl (h a v e).1,(h a v e).2⟩
 unfold escX
 split
 ·exact Gt.fits_bad
 ·rename_i c hc
  have hlt:=(List.getElem?_eq_some_iff.1 hc).1
  split
  ·unfold Z0G
   refine Gt.fits_bind (Z0l (by omega)) fun a hi ha1 ha2=>?_
   split
   ·exact Gt.fits_ok ⟨by omega,ha2⟩
   ·refine Gt.fits_bind Z2z fun b _ hb1 hb2=>?_
    refine Gt.fits_bind Z2z fun d _ hd1 hd2=>?_
    refine Gt.fits_bind (Z0l hd2) fun e lo he1 he2=>?_
    exact Gt.fits_ok ⟨by omega,he2⟩
  ·split
   ·exact Gt.fits_ok ⟨Nat.le_refl _,by omega⟩
   ·exact Gt.fits_bad
theorem Z3y {t:List UInt8} {fr:Nat}:∀ {k p lo hi:Nat},p≤t.length→(seqX t fr k p lo hi).fits (p+k) t.length
 | 0,p,_,_,h=>by unfold seqX;exact Gt.fits_ok ⟨Nat.le_refl _,h⟩
 | k+1,p,lo,hi,h=>by
  unfold seqX
  split
  ·exact Gt.fits_bad
  ·rename_i c hc
   have hlt:=(List.getElem?_eq_some_iff.1 hc).1
   split
   ·exact Gt.fits_bad
   ·intro a v e
    have:=Z3y (t:=t) (fr:=fr) (k:=k) (p:=p+1) (by omega) a v e
    omega
theorem ZY {t:List UInt8} {p:Nat} {c:UInt8} (h:p < t.length):(Z0g t p c).fits (p+1) t.length:=by
 unfold Z0g
 split
 ·exact Gt.fits_bad
 ·rename_i n lo hi _
  intro a v e
  have:=Z3y (t:=t) (fr:=p) (k:=n) (p:=p+1) (lo:=lo) (hi:=hi) (by omega) a v e
  omega
theorem Z0Q {t:List UInt8}:∀ {f p:Nat} {acc:List UInt8},p≤t.length→(ZI t f p acc).fits (p+1) t.length
 | 0,p,acc,_=>by unfold ZI;exact Gt.fits_bad
 | f+1,p,acc,h=>by
  have mono:∀ {α:Type} {g:Gt α} {lo lo' hi:Nat},g.fits lo hi→lo'≤lo→g.fits lo' hi:=fun h hl a v e=>⟨Nat.le_trans hl (h a v e).1,(h a v e).2⟩
  unfold ZI
  split
  ·exact Gt.fits_bad
  ·rename_i c hc
   have hlt:=(List.getElem?_eq_some_iff.1 hc).1
   split
   ·exact Gt.fits_bad
   ·split
    ·exact Gt.fits_ok ⟨Nat.le_refl _,by omega⟩
    ·split
     ·exact Gt.fits_bind Z0n fun a u ha1 ha2=>mono (Z0Q ha2) (by omega)
     ·split
      ·exact mono (Z0Q (by omega)) (by omega)
      ·exact Gt.fits_bind (ZY hlt) fun a u ha1 ha2=>mono (Z0Q ha2) (by omega)
theorem Zn {t:List UInt8} {p:Nat} (h:p≤t.length):(Zo t p).fits (p+1) t.length:=Z0Q h
theorem Z0m {wh:List UInt8→Int × Bool} {t:List UInt8} {p:Nat} {c:UInt8} (h:p < t.length):(ZT wh t p c).fits (p+1) t.length:=by
 have mono:∀ {α:Type} {g:Gt α} {lo lo' hi:Nat},g.fits lo hi→lo'≤lo→g.fits lo' hi:=fun h hl a v e=>⟨Nat.le_trans hl (h a v e).1,(h a v e).2⟩
 unfold ZT
 split
 ·exact Gt.fits_bind (Zn (by omega)) fun a _ h1 h2=>Gt.fits_ok ⟨by omega,h2⟩
 ·split
  ·exact Gt.fits_bind (Z1o (by omega)) fun a _ h1 h2=>Gt.fits_ok ⟨by omega,h2⟩
  ·split
   ·exact Gt.fits_bind (Z0f (by omega)) fun a _ h1 h2=>Gt.fits_ok ⟨by simp at h1;omega,h2⟩
   ·split
    ·exact Gt.fits_bind (Z0f (by omega)) fun a _ h1 h2=>Gt.fits_ok ⟨by simp at h1;omega,h2⟩
    ·split
     ·exact Gt.fits_bind (Z0f (by omega)) fun a _ h1 h2=>Gt.fits_ok ⟨by simp at h1;omega,h2⟩
     ·exact Gt.fits_bad
theorem Z41 {wh:List UInt8→Int × Bool} {t:List UInt8} {p a:Nat} {c:UInt8} {l:List Nd} (h:ZT wh t p c=.ok a l):∃ n:Nd,l=[n]∧n.key=[]:=by
 have key:∀ {α:Type} {g:Gt α} {f:Nat→α→Nd} {a:Nat} {l:List Nd},(g.bind fun a v=>.ok a [f a v])=.ok a l→∃ b v,l=[f b v]:=fun {α g f a l} h=>by
  cases g with
  | bad c p=>cases h
  | ok b v=>cases h;exact ⟨_,_,rfl⟩
 unfold ZT at h
 split at h
 ·obtain ⟨b,v,rfl⟩:=key h;exact ⟨_,rfl,rfl⟩
 ·split at h
  ·obtain ⟨b,v,rfl⟩:=key h;exact ⟨_,rfl,rfl⟩
  ·split at h
   ·obtain ⟨b,v,rfl⟩:=key h;exact ⟨_,rfl,rfl⟩
   ·split at h
    ·obtain ⟨b,v,rfl⟩:=key h;exact ⟨_,rfl,rfl⟩
    ·split at h
     ·obtain ⟨b,v,rfl⟩:=key h;exact ⟨_,rfl,rfl⟩
     ·cases h
/- Where the machine is led. -/
def Leads (wh:List UInt8→Int × Bool) (t:List UInt8) (c:Cf) (R:Gt Cf):Prop:=∀ f,t.length < c.p+f→match R with
 | .bad e a=>mach wh t f c=.bad e a
 | .ok _ c'=>∃ f',t.length < c'.p+f'∧mach wh t f c=mach wh t f' c'
section
variable {wh:List UInt8→Int × Bool} {t:List UInt8} {c c':Cf} {R:Gt Cf}
theorem Leads.refl {a:Nat}:Leads wh t c (.ok a c):=fun f hf=>⟨f,hf,rfl⟩
theorem Leads.trans {a:Nat} (h1:Leads wh t c (.ok a c')) (h2:Leads wh t c' R):Leads wh t c R:=fun f hf=>by
 obtain ⟨f',hf',e⟩:=h1 f hf
 have:=h2 f' hf'
 cases R with
 | bad e' a'=>exact e.trans this
 | ok a' c'' =>
  obtain ⟨f'',h3,h4⟩:=this
  exact ⟨f'',h3,e.trans h4⟩
theorem Leads.skip (h:Leads wh t { c with p:=Z2 t c.p } R):Leads wh t c R:=fun f hf=>by
 have hg:=Zd t c.p
 have h1:=h f (show t.length < Z2 t c.p+f by omega)
 have e:mach wh t f { c with p:=Z2 t c.p }=mach wh t f c:=by
  cases f with
  | zero=>rfl
  | succ f=>simp only [mach,Ze]
 cases R with
 | bad e' a'=>rw [←e];exact h1
 | ok a' c''=>rw [←e];exact h1
theorem Leads.step {ch:UInt8} (hp:c.p≤t.length) (hs:Z2 t c.p=c.p) (hc:t[c.p]?=some ch) (hst:Z15 wh t c ch=.go c') (hlt:c.p < c'.p) (h:Leads wh t c' R):Leads wh t c R:=fun f hf=>by
 have h1:=h (f - 1) (by omega)
 obtain ⟨g,rfl⟩:∃ g,f=g+1:=⟨f - 1,by omega⟩
 have e:mach wh t (g+1) c=mach wh t g c':=by
  simp only [mach,hs,hc,hst]
 cases R with
 | bad e' a'=>rw [e];exact h1
 | ok a' c''=>rw [e];exact h1
theorem Leads.stop {ch:UInt8} {e:Int} {a:Nat} (hp:c.p≤t.length) (hs:Z2 t c.p=c.p) (hc:t[c.p]?=some ch) (hst:Z15 wh t c ch=.stop e a):Leads wh t c (.bad e a):=fun f hf=>by
 obtain ⟨g,rfl⟩:∃ g,f=g+1:=⟨f - 1,by omega⟩
 simp only [mach,hs,hc,hst]
theorem Leads.none (hp:c.p≤t.length) (hs:Z2 t c.p=c.p) (hc:t[c.p]?=none) (h6:c.s≠6):Leads wh t c (.bad 31 c.p):=fun f hf=>by
 obtain ⟨g,rfl⟩:∃ g,f=g+1:=⟨f - 1,by omega⟩
 have:c.p=t.length:=by
  have:=List.getElem?_eq_none_iff.1 hc
  omega
 simp only [mach,hs,hc,if_neg h6]
 rw [this]
end
def upd (c:Cf):Gt (List Nd)→Gt Cf
 | .bad e a=>.bad e a
 | .ok a l=>.ok a { p:=a,s:=behS c.stk,out:=bump c.out c.stk++Z02 l c.key,stk:=c.stk,key:=[] }
def Z8v (wh:List UInt8→Int × Bool) (t:List UInt8) (d:Nat):Prop:=∀ c:Cf,c.stk.length+d=32→c.p≤t.length→Z2 t c.p=c.p→(c.s=0∨c.s=1∧t[c.p]?≠some 93) →
 Leads wh t c (upd c (valX wh t d c.p))∧∀ a l,valX wh t d c.p=.ok a l→c.p < a∧a≤t.length∧Z02 l []=l
theorem Z5s (o:List Nd) (hd:Nd) (items:List Nd) (nm:Option (List (List UInt8))) (stk:List (Nat × Option (List (List UInt8)))):bump (o++hd::items) ((o.length,nm)::stk)=o++hd.more::items:=by
 show (o++hd::items).modify o.length Nd.more=_
 induction o with
 | nil=>rfl
 | cons x o ih =>
  show x::(o++hd::items).modify o.length Nd.more=_
  rw [ih]
  rfl
def rowC (o:List Nd) (hd:Nd) (items:List Nd) (nm:Option (List (List UInt8))) (stk:List (Nat × Option (List (List UInt8)))) (p s:Nat) (key:List UInt8):Cf:={ p:=p,s:=s,out:=o++hd::items,stk:=(o.length,nm)::stk,key:=key }
def updR (o:List Nd) (stk:List (Nat × Option (List (List UInt8)))):Gt (List Nd)→Gt Cf
 | .bad e a=>.bad e a
 | .ok a l=>.ok a { p:=a,s:=behS stk,out:=o++l,stk:=stk,key:=[] }
theorem Z2J {wh:List UInt8→Int × Bool} {t:List UInt8} {o:List Nd} {stk:List (Nat × Option (List (List UInt8)))} {obj:Bool} {nm:Option (List (List UInt8))} {hd:Nd} {items:List Nd} {a:Nat} {again:Nat→Gt (List Nd)} (hnm:nm.isSome=obj) (ha:a≤t.length)
  (h:Z2 t a < t.length→Leads wh t (rowC o hd items nm stk (Z2 t (Z2 t a+1)) (if obj then 2 else 0) []) (updR o stk (again (Z2 t (Z2 t a+1))))) :
  Leads wh t (rowC o hd items nm stk a 5 []) (updR o stk (rowE t obj again a (hd::items))):=by
 have hq:=Zb ha
 have hqq:=Ze t a
 have htop:Z0x (((o.length,nm)::stk))=obj:=by
  cases nm with
  | none=>exact hnm
  | some x=>exact hnm
 refine Leads.skip ?_
 unfold rowE
 cases hc:t[Z2 t a]? with
 | none =>
  rw [Z1R hc,Z1R hc]
  simp only [Bool.false_eq_true,if_false,updR]
  exact Leads.none (c:=rowC o hd items nm stk (Z2 t a) 5 []) hq hqq hc (show (5:Nat)≠6 by decide)
 | some ch =>
  have h44:ZG obj≠44:=by cases obj<;>decide
  by_cases h1:ch=ZG obj
  ·rw [if_pos ((Z0N hc).2 h1)]
   refine Leads.step (c:=rowC o hd items nm stk (Z2 t a) 5 []) (c':={ p:=Z2 t a+1,s:=behS stk,out:=o++hd::items,stk:=stk,key:=[] }) hq hqq hc ?_ (Nat.lt_succ_self _) Leads.refl
   show morC (rowC o hd items nm stk (Z2 t a) 5 []) ch=_
   unfold morC
   rw [if_neg (by rw [h1];exact h44)]
   have:Z0x (rowC o hd items nm stk (Z2 t a) 5 []).stk=obj:=htop
   rw [this,if_pos (by rw [h1];rfl)]
   rfl
  ·rw [if_neg (fun hh=>h1 ((Z0N hc).1 hh))]
   by_cases h2:ch=44
   ·rw [if_pos ((Z0N hc).2 h2)]
    refine Leads.step (c:=rowC o hd items nm stk (Z2 t a) 5 []) (c':=rowC o hd items nm stk (Z2 t a+1) (if obj then 2 else 0) []) hq hqq hc ?_ (Nat.lt_succ_self _) (Leads.skip (h (List.getElem?_eq_some_iff.1 hc).1))
    show morC (rowC o hd items nm stk (Z2 t a) 5 []) ch=_
    unfold morC
    rw [if_pos h2]
    have:Z0x (rowC o hd items nm stk (Z2 t a) 5 []).stk=obj:=htop
    rw [this]
    rfl
   ·rw [if_neg (fun hh=>h2 ((Z0N hc).1 hh))]
    refine Leads.stop (c:=rowC o hd items nm stk (Z2 t a) 5 []) hq hqq hc ?_
    show morC (rowC o hd items nm stk (Z2 t a) 5 []) ch=_
    unfold morC
    rw [if_neg h2]
    have:Z0x (rowC o hd items nm stk (Z2 t a) 5 []).stk=obj:=htop
    have h1':¬ch=(if obj=true then 125 else 93):=h1
    rw [this,if_neg h1']
    rfl
theorem Z2I (val:Nat→Gt (List Nd)) (t:List UInt8) (obj:Bool) (k:List UInt8):∀ (f p:Nat) (names:List (List UInt8)) (hd:Nd) (items:List Nd),
  rowX val t obj f p names (hd.named k) items=(rowX val t obj f p names hd items).bind fun a l=>.ok a (Z02 l k)
 | 0,p,names,hd,items=>rfl
 | f+1,p,names,hd,items=>by
  unfold rowX
  cases hi:Z0u val t obj p names with
  | bad e a=>rfl
  | ok a g =>
   rw [show ∀ F:Nat→(List Nd × List UInt8)→Gt (List Nd),(Gt.ok a g).bind F=F a g from fun _=>rfl,show ∀ F:Nat→(List Nd × List UInt8)→Gt (List Nd),(Gt.ok a g).bind F=F a g from fun _=>rfl]
   unfold rowE
   split
   ·rfl
   ·split
    ·exact Z2I val t obj k f _ _ hd.more _
    ·rfl
theorem Z0h {wh:List UInt8→Int × Bool} {t:List UInt8} {d:Nat} (hv:Z8v wh t d) {o:List Nd} {stk:List (Nat × Option (List (List UInt8)))} (hl:stk.length+1+d=32) (obj:Bool):∀ (f p:Nat) (names ns:List (List UInt8)) (hd:Nd) (items:List Nd) (s:Nat),(∀ x,x∈ns↔x∈names)→t.length < p+f→p≤t.length→Z2 t p=p →
  (obj=true∧(s=2∨s=3∧t[p]?≠some 125)∨obj=false∧(s=0∨s=1∧t[p]?≠some 93)) →
  Leads wh t (rowC o hd items (if obj then some ns else none) stk p s []) (updR o stk (rowX (valX wh t d) t obj f p names hd items))∧∀ a l,rowX (valX wh t d) t obj f p names hd items=.ok a l→p < a∧a≤t.length∧(hd.key=[]→Z02 l []=l)
 | 0,p,names,ns,hd,items,s,_,hf,hp,_,_=>by omega
 | f+1,p,names,ns,hd,items,s,hns,hf,hp,hsk,hs=>by
  have hend:∀ (a:Nat) (g:List Nd) (nn:List UInt8),p < a→a≤t.length→∀ a' l',rowE t obj (fun p'=>rowX (valX wh t d) t obj f p' (names++[nn]) hd.more (items++g)) a (hd.more::(items++g))=.ok a' l'→p < a'∧a'≤t.length∧(hd.key=[]→Z02 l' []=l'):=by
   intro a g nn h1 h2 a' l' h3
   have hg:=Zd t a
   have hq:=Zb h2
   unfold rowE at h3
   split at h3
   ·rename_i h4
    have:=Zz h4
    cases h3
    refine ⟨by omega,by omega,fun hkey=>?_⟩
    show ({ hd.more with key:=[] }:Nd)::(items++g)=_
    congr 1
    cases hd
    simp only at hkey
    subst hkey
    rfl
   ·split at h3
    ·rename_i h4
     have:=Zz h4
     have hg2:=Zd t (Z2 t a+1)
     by_cases ho:obj=true
     ·subst ho
      have:=(Z0h hv (o:=o) hl true f (Z2 t (Z2 t a+1)) (names++[nn]) (nn::ns) hd.more (items++g) 2 (fun x=>by rw [List.mem_cons,List.mem_append,List.mem_singleton,hns];exact or_comm) (by omega) (Zb (by omega)) (Ze _ _) (.inl ⟨rfl,.inl rfl⟩)).2 a' l' h3
      exact ⟨by omega,this.2⟩
     ·have ho':obj=false:=by simpa using ho
      subst ho'
      have:=(Z0h hv (o:=o) hl false f (Z2 t (Z2 t a+1)) (names++[nn]) (nn::ns) hd.more (items++g) 0 (fun x=>by rw [List.mem_cons,List.mem_append,List.mem_singleton,hns];exact or_comm) (by omega) (Zb (by omega)) (Ze _ _) (.inr ⟨rfl,.inl rfl⟩)).2 a' l' h3
      exact ⟨by omega,this.2⟩
    ·cases h3
  rcases hs with ⟨rfl,hs⟩|⟨rfl,hs⟩
  ·unfold rowX Z0u
   simp only [if_true]
   cases hc:t[p]? with
   | none =>
    rw [Z1R hc]
    simp only [Bool.false_eq_true,if_false]
    exact ⟨Leads.none (c:=rowC o hd items (some ns) stk p s []) hp hsk hc (show s≠6 by rcases hs with rfl|⟨rfl,_⟩<;>decide),fun a l h=>by cases h⟩
   | some ch =>
    have hst:Z15 wh t (rowC o hd items (some ns) stk p s []) ch=namC t (rowC o hd items (some ns) stk p s []) ch:=by
     rcases hs with rfl|⟨rfl,h3⟩
     ·rfl
     ·show (if ch=125 then _ else namC t _ ch)=_
      rw [if_neg (fun h=>h3 (by rw [hc,h]))]
    by_cases h34:ch=34
    ·rw [if_pos ((Z0N hc).2 h34)]
     have hfit:=Zn (t:=t) (p:=p+1) (by have:=(List.getElem?_eq_some_iff.1 hc).1;omega)
     cases hqx:Zo t (p+1) with
     | bad e a =>
      refine ⟨Leads.stop (c:=rowC o hd items (some ns) stk p s []) hp hsk hc ?_,fun a l h=>by cases h⟩
      rw [hst]
      show namC t _ ch=_
      unfold namC
      rw [if_pos h34]
      show (match Zo t (p+1) with | .bad e a=>_ | .ok a s=>_)=_
      rw [hqx]
     | ok a nn =>
      obtain ⟨ha1,ha2⟩:=hfit a nn hqx
      show Leads wh t _ (updR o stk (Gt.bind (if nn∈names then _ else _) _))∧∀ a' l',Gt.bind (if nn∈names then _ else _) _=.ok a' l'→_
      have hnam:namC t (rowC o hd items (some ns) stk p s []) ch=if nn∈ns then .stop 34 p else .go (rowC o hd items (some (nn::ns)) stk a 4 nn):=by
       unfold namC
       rw [if_pos h34]
       show (match Zo t (p+1) with | .bad e a=>_ | .ok a s=>_)=_
       rw [hqx]
       rfl
      by_cases hm:nn∈names
      ·rw [if_pos hm]
       refine ⟨Leads.stop (c:=rowC o hd items (some ns) stk p s []) hp hsk hc ?_,fun a l h=>by cases h⟩
       rw [hst,hnam,if_pos ((hns nn).2 hm)]
      ·rw [if_neg hm]
       have hgo:Z15 wh t (rowC o hd items (some ns) stk p s []) ch=.go (rowC o hd items (some (nn::ns)) stk a 4 nn):=by rw [hst,hnam,if_neg (fun h=>hm ((hns nn).1 h))]
       have hq:=Zb ha2
       have hqg:=Zd t a
       cases hcc:t[Z2 t a]? with
       | none =>
        rw [Z1R hcc]
        simp only [Bool.false_eq_true,if_false]
        exact ⟨Leads.step (c:=rowC o hd items (some ns) stk p s []) hp hsk hc hgo (show p < a by omega) (Leads.skip (Leads.none (c:=rowC o hd items (some (nn::ns)) stk (Z2 t a) 4 nn) hq (Ze _ _) hcc (show (4:Nat)≠6 by decide))),fun a l h=>by cases h⟩
       | some c2 =>
        by_cases h58:c2=58
        ·rw [if_pos ((Z0N hcc).2 h58)]
         have hlt2:=(List.getElem?_eq_some_iff.1 hcc).1
         have hq2:=Zb (t:=t) (p:=Z2 t a+1) (by omega)
         have hq2g:=Zd t (Z2 t a+1)
         obtain ⟨hv1,hv2⟩:=hv (rowC o hd items (some (nn::ns)) stk (Z2 t (Z2 t a+1)) 0 nn) hl hq2 (Ze _ _) (.inl rfl)
         have hto:Leads wh t (rowC o hd items (some ns) stk p s []) (upd (rowC o hd items (some (nn::ns)) stk (Z2 t (Z2 t a+1)) 0 nn) (valX wh t d (Z2 t (Z2 t a+1)))) :=
          Leads.step (c:=rowC o hd items (some ns) stk p s []) hp hsk hc hgo (show p < a by omega) (Leads.skip (Leads.step (c:=rowC o hd items (some (nn::ns)) stk (Z2 t a) 4 nn) (c':=rowC o hd items (some (nn::ns)) stk (Z2 t a+1) 0 nn) hq (Ze _ _) hcc (by
           show (if c2=58 then Nx.go _ else _)=_
           rw [if_pos h58]
           rfl) (Nat.lt_succ_self _) (Leads.skip hv1)))
         have hv2':∀ a' l,valX wh t d (Z2 t (Z2 t a+1))=.ok a' l→Z2 t (Z2 t a+1) < a'∧a'≤t.length∧Z02 l []=l:=hv2
         cases hvx:valX wh t d (Z2 t (Z2 t a+1)) with
         | bad e a' =>
          rw [hvx] at hto
          exact ⟨hto,fun a l h=>by cases h⟩
         | ok b l =>
          rw [hvx] at hto
          obtain ⟨hb1,hb2,hb3⟩:=hv2' b l hvx
          refine ⟨Leads.trans hto ?_,hend b (Z02 l nn) nn (by omega) hb2⟩
          have hbm:({ p:=b,s:=behS (rowC o hd items (some (nn::ns)) stk (Z2 t (Z2 t a+1)) 0 nn).stk,out:=bump (rowC o hd items (some (nn::ns)) stk (Z2 t (Z2 t a+1)) 0 nn).out (rowC o hd items (some (nn::ns)) stk (Z2 t (Z2 t a+1)) 0 nn).stk++Z02 l nn,stk:=(rowC o hd items (some (nn::ns)) stk (Z2 t (Z2 t a+1)) 0 nn).stk,key:=[] }:Cf)=rowC o hd.more (items++Z02 l nn) (some (nn::ns)) stk b 5 []:=by
           show ({ p:=b,s:=5,out:=bump (o++hd::items) ((o.length,some (nn::ns))::stk)++Z02 l nn,stk:=_,key:=[] }:Cf)=_
           rw [Z5s,List.append_assoc]
           rfl
          have hres:=Z2J (wh:=wh) (t:=t) (o:=o) (stk:=stk) (obj:=true) (nm:=some (nn::ns)) (hd:=hd.more) (items:=items++Z02 l nn) (a:=b) (again:=fun p'=>rowX (valX wh t d) t true f p' (names++[nn]) hd.more (items++Z02 l nn)) rfl hb2
           (fun hbl=>by
            have hg3:=Zd t b
            have hg4:=Zd t (Z2 t b+1)
            exact (Z0h hv hl true f (Z2 t (Z2 t b+1)) (names++[nn]) (nn::ns) hd.more (items++Z02 l nn) 2 (fun x=>by rw [List.mem_cons,List.mem_append,List.mem_singleton,hns];exact or_comm) (by omega) (Zb (by omega)) (Ze _ _) (.inl ⟨rfl,.inl rfl⟩)).1)
          rw [←hbm] at hres
          exact hres
        ·rw [if_neg (fun hh=>h58 ((Z0N hcc).1 hh))]
         refine ⟨Leads.step (c:=rowC o hd items (some ns) stk p s []) hp hsk hc hgo (show p < a by omega) (Leads.skip (Leads.stop (c:=rowC o hd items (some (nn::ns)) stk (Z2 t a) 4 nn) hq (Ze _ _) hcc ?_)),fun a l h=>by cases h⟩
         show (if c2=58 then Nx.go _ else Nx.stop 31 (Z2 t a))=_
         rw [if_neg h58]
    ·rw [if_neg (fun hh=>h34 ((Z0N hc).1 hh))]
     refine ⟨Leads.stop (c:=rowC o hd items (some ns) stk p s []) hp hsk hc ?_,fun a l h=>by cases h⟩
     rw [hst]
     unfold namC
     rw [if_neg h34]
     rfl
  ·unfold rowX Z0u
   simp only [Bool.false_eq_true,if_false]
   obtain ⟨hv1,hv2⟩:=hv (rowC o hd items none stk p s []) hl hp hsk hs
   have hv2':∀ a' l,valX wh t d p=.ok a' l→p < a'∧a'≤t.length∧Z02 l []=l:=hv2
   have hv1':Leads wh t (rowC o hd items none stk p s []) (upd (rowC o hd items none stk p s []) (valX wh t d p)):=hv1
   cases hvx:valX wh t d p with
   | bad e a' =>
    rw [hvx] at hv1'
    exact ⟨hv1',fun a l h=>by cases h⟩
   | ok b l =>
    rw [hvx] at hv1'
    obtain ⟨hb1,hb2,hb3⟩:=hv2' b l hvx
    refine ⟨Leads.trans hv1' ?_,hend b l [] (by omega) hb2⟩
    have hbm:({ p:=b,s:=behS (rowC o hd items none stk p s []).stk,out:=bump (rowC o hd items none stk p s []).out (rowC o hd items none stk p s []).stk++Z02 l (rowC o hd items none stk p s []).key,stk:=(rowC o hd items none stk p s []).stk,key:=[] }:Cf)=rowC o hd.more (items++l) none stk b 5 []:=by
     show ({ p:=b,s:=5,out:=bump (o++hd::items) ((o.length,none)::stk)++Z02 l [],stk:=_,key:=[] }:Cf)=_
     rw [Z5s,List.append_assoc,hb3]
     rfl
    have hres:=Z2J (wh:=wh) (t:=t) (o:=o) (stk:=stk) (obj:=false) (nm:=none) (hd:=hd.more) (items:=items++l) (a:=b) (again:=fun p'=>rowX (valX wh t d) t false f p' (names++[[]]) hd.more (items++l)) rfl hb2
     (fun hbl=>by
      have hg3:=Zd t b
      have hg4:=Zd t (Z2 t b+1)
      exact (Z0h hv hl false f (Z2 t (Z2 t b+1)) (names++[[]]) ([]::ns) hd.more (items++l) 0 (fun x=>by rw [List.mem_cons,List.mem_append,List.mem_singleton,hns];exact or_comm) (by omega) (Zb (by omega)) (Ze _ _) (.inr ⟨rfl,.inl rfl⟩)).1)
    rw [←hbm] at hres
    exact hres
theorem Z4U {wh:List UInt8→Int × Bool} {t:List UInt8} {c:Cf} {ch:UInt8} (hp:c.p≤t.length) (hs:Z2 t c.p=c.p) (hc:t[c.p]?=some ch) (hst:Z15 wh t c ch=valC wh t c ch) (hb:¬(ch=91∨ch=123)) :
  Leads wh t c (upd c (ZT wh t c.p ch))∧∀ a l,ZT wh t c.p ch=.ok a l→c.p < a∧a≤t.length∧Z02 l []=l:=by
 have hlt:=(List.getElem?_eq_some_iff.1 hc).1
 have hfit:=Z0m (wh:=wh) (c:=ch) hlt
 have hv:valC wh t c ch=(match ZT wh t c.p ch with
  | .bad e a=>.stop e a
  | .ok a l=>.go (Cf.behind (Cf.lay { c with p:=a } (l.headD (nd 0))))):=by
  unfold valC
  rw [if_neg hb]
 cases hx:ZT wh t c.p ch with
 | bad e a =>
  refine ⟨Leads.stop hp hs hc ?_,fun a l h=>by cases h⟩
  rw [hst,hv,hx]
 | ok a l =>
  obtain ⟨h1,h2⟩:=hfit a l hx
  obtain ⟨n,rfl,hk⟩:=Z41 hx
  refine ⟨Leads.step hp hs hc (c':=Cf.behind (Cf.lay { c with p:=a } n)) ?_ (show c.p < a by omega) Leads.refl,fun a' l' h=>?_⟩
  ·rw [hst,hv,hx]
   rfl
  ·cases h
   refine ⟨by omega,h2,?_⟩
   show [({ n with key:=[] }:Nd)]=[n]
   cases n
   simp only at hk
   subst hk
   rfl
theorem Z7D (wh:List UInt8→Int × Bool) (t:List UInt8):∀ d,Z8v wh t d:=by
 intro d
 induction d with
 | zero =>
  intro c hl hp hs hst
  have hs6:c.s≠6:=by rcases hst with h|⟨h,_⟩<;>omega
  rw [valX]
  cases hc:t[c.p]? with
  | none=>exact ⟨Leads.none hp hs hc hs6,fun a l h=>by cases h⟩
  | some ch =>
   have hstep:Z15 wh t c ch=valC wh t c ch:=by
    obtain ⟨p,s,out,stk,key⟩:=c
    rcases hst with h|⟨h,h3⟩
    ·simp only at h
     subst h
     rfl
    ·simp only at h
     subst h
     show (if ch=93 then _ else valC wh t _ ch)=_
     rw [if_neg (fun e=>h3 (by rw [←e];exact hc))]
   by_cases hb:ch=91∨ch=123
   ·simp only [hb,if_true]
    refine ⟨Leads.stop hp hs hc ?_,fun a l h=>by cases h⟩
    rw [hstep,valC,if_pos hb,begC,if_pos (by omega)]
   ·simp only [hb,if_false]
    exact Z4U hp hs hc hstep hb
 | succ d ih =>
  intro c hl hp hs hst
  have hs6:c.s≠6:=by rcases hst with h|⟨h,_⟩<;>omega
  rw [valX]
  cases hc:t[c.p]? with
  | none=>exact ⟨Leads.none hp hs hc hs6,fun a l h=>by cases h⟩
  | some ch =>
   have hlt:=(List.getElem?_eq_some_iff.1 hc).1
   have hstep:Z15 wh t c ch=valC wh t c ch:=by
    obtain ⟨p,s,out,stk,key⟩:=c
    rcases hst with h|⟨h,h3⟩
    ·simp only at h
     subst h
     rfl
    ·simp only at h
     subst h
     show (if ch=93 then _ else valC wh t _ ch)=_
     rw [if_neg (fun e=>h3 (by rw [←e];exact hc))]
   by_cases hb:ch=91∨ch=123
   ·simp only [hb,if_true]
    have hq:=Zb (t:=t) (p:=c.p+1) (by omega)
    have hqg:=Zd t (c.p+1)
    have key:∀ (obj:Bool) (k:Int) (s1:Nat),Z15 wh t c ch=.go (rowC (bump c.out c.stk) ((nd k).named c.key) [] (if obj then some [] else none) c.stk (c.p+1) s1 [])→(s1=if obj then 3 else 1) →
      Leads wh t c (upd c (if atB t (Z2 t (c.p+1)) (ZG obj) then .ok (Z2 t (c.p+1)+1) [nd k] else rowX (valX wh t d) t obj (t.length+1) (Z2 t (c.p+1)) [] (nd k) [])) ∧
      ∀ a l,(if atB t (Z2 t (c.p+1)) (ZG obj) then .ok (Z2 t (c.p+1)+1) [nd k] else rowX (valX wh t d) t obj (t.length+1) (Z2 t (c.p+1)) [] (nd k) [])=.ok a l→c.p < a∧a≤t.length∧Z02 l []=l:=by
     intro obj k s1 hgo hs1
     by_cases hcl:atB t (Z2 t (c.p+1)) (ZG obj)=true
     ·rw [if_pos hcl]
      have hlt2:=Zz hcl
      refine ⟨Leads.step hp hs hc hgo (Nat.lt_succ_self _) (Leads.skip (Leads.step (c:=rowC (bump c.out c.stk) ((nd k).named c.key) [] (if obj then some [] else none) c.stk (Z2 t (c.p+1)) s1 []) (ch:=ZG obj) (c':={ p:=Z2 t (c.p+1)+1,s:=behS c.stk,out:=bump c.out c.stk++[(nd k).named c.key],stk:=c.stk,key:=[] }) hq (Ze _ _) ?_ ?_ (Nat.lt_succ_self _) Leads.refl)),fun a l h=>?_⟩
      ·unfold atB at hcl
       exact eq_of_beq hcl
      ·subst hs1
       cases obj<;>rfl
      ·cases h
       exact ⟨by omega,by omega,rfl⟩
     ·rw [if_neg hcl]
      have hcl':t[Z2 t (c.p+1)]?≠some (ZG obj):=fun h=>hcl (by unfold atB;rw [h];simp)
      have hcond:(obj=true∧(s1=2∨s1=3∧t[Z2 t (c.p+1)]?≠some 125)∨obj=false∧(s1=0∨s1=1∧t[Z2 t (c.p+1)]?≠some 93)):=by
       cases obj
       ·exact .inr ⟨rfl,.inr ⟨hs1,hcl'⟩⟩
       ·exact .inl ⟨rfl,.inr ⟨hs1,hcl'⟩⟩
      have h1:=(Z0h ih (o:=bump c.out c.stk) (stk:=c.stk) (by omega) obj (t.length+1) (Z2 t (c.p+1)) [] [] ((nd k).named c.key) [] s1 (fun _=>Iff.rfl) (by omega) hq (Ze _ _) hcond).1
      have h2:=(Z0h ih (o:=bump c.out c.stk) (stk:=c.stk) (by omega) obj (t.length+1) (Z2 t (c.p+1)) [] [] (nd k) [] s1 (fun _=>Iff.rfl) (by omega) hq (Ze _ _) hcond).2
      rw [Z2I] at h1
      generalize rowX (valX wh t d) t obj (t.length+1) (Z2 t (c.p+1)) [] (nd k) []=R at h1 h2 ⊢
      have h3:=Leads.step hp hs hc hgo (Nat.lt_succ_self _) (Leads.skip h1)
      refine ⟨?_,fun a l h=>?_⟩
      ·cases R<;>exact h3
      ·obtain ⟨h4,h5,h6⟩:=h2 a l h
       exact ⟨by omega,h5,h6 rfl⟩
    by_cases h123:ch=123
    ·have:=key true 7 3 (by
      rw [hstep,valC,if_pos hb,begC,if_neg (by omega)]
      simp only [h123,if_true]
      rfl) rfl
     simpa only [h123,if_true,decide_true] using this
    ·have:=key false 6 1 (by
      rw [hstep,valC,if_pos hb,begC,if_neg (by omega)]
      simp only [h123,if_false]
      rfl) rfl
     simpa only [h123,if_false,decide_false] using this
   ·simp only [hb,if_false]
    exact Z4U hp hs hc hstep hb
theorem Z5O {wh:List UInt8→Int × Bool} {t:List UInt8} (h:t.length≤262144):mach wh t (t.length+1) { p:=0,s:=0,out:=[],stk:=[],key:=[] }=ZM wh t:=by
 have h1:=Leads.skip (c:={ p:=0,s:=0,out:=[],stk:=[],key:=[] }) (Z7D wh t 32 { p:=Z2 t 0,s:=0,out:=[],stk:=[],key:=[] } rfl (Zb (Nat.zero_le _)) (Ze _ _) (.inl rfl)).1
 have h2:=(Z7D wh t 32 { p:=Z2 t 0,s:=0,out:=[],stk:=[],key:=[] } rfl (Zb (Nat.zero_le _)) (Ze _ _) (.inl rfl)).2
 have h3:=h1 (t.length+1) (show t.length < 0+(t.length+1) by omega)
 simp only at h2 h3
 unfold ZM
 rw [if_neg (by omega)]
 cases hv:valX wh t 32 (Z2 t 0) with
 | bad e a =>
  rw [hv] at h3
  exact h3
 | ok a l =>
  rw [hv] at h3
  obtain ⟨_,h5,h6⟩:=h2 a l hv
  obtain ⟨f',h7,h8⟩:=h3
  rw [h8]
  have h7':t.length < a+f':=h7
  obtain ⟨g,rfl⟩:∃ g,f'=g+1:=⟨f' - 1,by omega⟩
  have hq:=Zb h5
  show mach wh t (g+1) { p:=a,s:=6,out:=[]++Z02 l [],stk:=[],key:=[] }=_
  rw [h6,List.nil_append]
  simp only [mach,Gt.bind]
  by_cases hlt:Z2 t a < t.length
  ·rw [if_pos hlt,List.getElem?_eq_getElem hlt]
   rfl
  ·rw [if_neg hlt,List.getElem?_eq_none (by omega)]
   rfl
end Sg
/- JSON's plain words, step by step. -/
namespace Sg
theorem Z7E {f:UInt8→Bool} {t:List UInt8} {p:Nat} {c:UInt8} (hc:t[p]?=some c) (h:f c=true):p+((t.drop p).takeWhile f).length=p+1+((t.drop (p+1)).takeWhile f).length:=by
 obtain ⟨hp,rfl⟩:=List.getElem?_eq_some_iff.1 hc
 rw [List.drop_eq_getElem_cons hp,List.takeWhile_cons_of_pos h,List.length_cons]
 omega
theorem Z8j {f:UInt8→Bool} {t:List UInt8} {p:Nat} (h:∀ c,t[p]?=some c→f c=false):p+((t.drop p).takeWhile f).length=p:=by
 rcases Nat.lt_or_ge p t.length with hp|hp
 ·have:=h _ (List.getElem?_eq_getElem hp)
  rw [List.drop_eq_getElem_cons hp,List.takeWhile_cons_of_neg (by rw [this];simp)]
  rfl
 ·rw [List.drop_eq_nil_of_le hp]
  rfl
theorem Z13 {t:List UInt8} {p:Nat} {c:UInt8} (hc:t[p]?=some c):bAt t p=c.toNat:=(Z1Q hc).1
theorem Z7 {t:List UInt8} {p:Nat} (h:bAt t p≠0):p < t.length:=by
 rcases Nat.lt_or_ge p t.length with hp|hp
 ·exact hp
 ·exact absurd (by simp [bAt,List.getD,List.getElem?_eq_none hp]) h
theorem Z2p {t:List UInt8} {p:Nat} (h:p < t.length):∃ c,t[p]?=some c∧c.toNat=bAt t p:=⟨t[p],List.getElem?_eq_getElem h,(Z13 (List.getElem?_eq_getElem h)).symm⟩
theorem Z0e {t:List UInt8} {p:Nat} (h:t.length≤p):bAt t p=0:=by simp [bAt,List.getD,List.getElem?_eq_none h]
theorem Zs {t:List UInt8} {p:Nat} {c:UInt8} (h:c≠0):atB t p c=decide (bAt t p=c.toNat):=by
 have hc:c.toNat≠0:=fun e=>h (UInt8.toNat_inj.1 e)
 rcases Nat.lt_or_ge p t.length with hp|hp
 ·obtain ⟨d,h1,h2⟩:=Z2p hp
  unfold atB
  rw [h1,←h2]
  by_cases e:d=c
  ·subst e;simp
  ·have:d.toNat≠c.toNat:=fun e'=>e (UInt8.toNat_inj.1 e')
   simp [e,this]
 ·rw [Z0e hp,decide_eq_false (fun e=>hc e.symm)]
  unfold atB
  rw [List.getElem?_eq_none hp]
  rfl
theorem digitB_iff {c:UInt8}:Za c=true↔48≤c.toNat∧c.toNat≤57:=by
 unfold Za
 rw [Bool.and_eq_true,decide_eq_true_eq,decide_eq_true_eq,UInt8.le_iff_toNat_le,UInt8.le_iff_toNat_le]
 exact Iff.rfl
theorem Z0K {t:List UInt8} {p:Nat} (h:48≤bAt t p∧bAt t p≤57):Z3 t p=Z3 t (p+1):=by
 obtain ⟨c,h1,h2⟩:=Z2p (Z7 (t:=t) (p:=p) (by omega))
 exact Z7E h1 (digitB_iff.2 (by omega))
theorem Z0W {t:List UInt8} {p:Nat} (h:¬(48≤bAt t p∧bAt t p≤57)):Z3 t p=p:=Z8j fun c hc=>by
 rw [←Bool.not_eq_true,digitB_iff,←Z13 hc]
 exact h
theorem blankB_iff {c:UInt8}:Z12 c=true↔c.toNat=32∨c.toNat=9∨c.toNat=10∨c.toNat=13:=by
 unfold Z12
 simp only [Bool.or_eq_true,beq_iff_eq,←UInt8.toNat_inj]
 have e1:(32:UInt8).toNat=32:=rfl
 have e2:(9:UInt8).toNat=9:=rfl
 have e3:(10:UInt8).toNat=10:=rfl
 have e4:(13:UInt8).toNat=13:=rfl
 rw [e1,e2,e3,e4]
 omega
theorem Z37 {t:List UInt8} {p:Nat} (h:bAt t p=32∨bAt t p=9∨bAt t p=10∨bAt t p=13):Z2 t p=Z2 t (p+1):=by
 obtain ⟨c,h1,h2⟩:=Z2p (Z7 (t:=t) (p:=p) (by omega))
 exact Z7E h1 (blankB_iff.2 (by omega))
theorem Z1X {t:List UInt8} {p:Nat} (h:¬(bAt t p=32∨bAt t p=9∨bAt t p=10∨bAt t p=13)):Z2 t p=p:=Z8j fun c hc=>by
 rw [←Bool.not_eq_true,blankB_iff,←Z13 hc]
 exact h
theorem Z7A {t:List UInt8} {p:Nat} (h:48≤bAt t p∧bAt t p≤57):ZF t p=.ok (Z3 t p) ():=by
 unfold ZF
 rw [if_neg]
 have:=Z3q t (p+1)
 rw [Z0K h]
 omega
theorem Z6V {t:List UInt8} {p:Nat} (h:¬(48≤bAt t p∧bAt t p≤57)):ZF t p=.bad 31 p:=by
 unfold ZF
 rw [if_pos (Z0W h)]
end Sg
/- The walks of the program's reader of JSON: bytes, blanks, digits, faults. -/
namespace Go.Proofs.YthomgjihagigcaaGreatDoor
open Sg Go.IntWalk
set_option maxRecDepth 100000
set_option maxHeartbeats 1000000
abbrev jrV (t:List UInt8) (o n m:Value) (a s:Nat) (k:List UInt8) (c b:Int):List Value:=[sV t,.int .i64 a,.int .i64 s,o,n,m,sV k,.int .i64 c,.int .i64 b]
section
variable {F:World} {M:List Nat} {H:List Res} {p:Nat} {t:List UInt8} {o n m:Value} {a s:Nat} {k:List UInt8} {c b:Int}
theorem Zx {c' b':Int}:Meets Tryz.prog 124 [.pointer (some ⟨p,0,none⟩),.int .i64 c',.int .i64 b'] F M (.blk p (jrV t o n m a s k c b) 136::H) (fun e H'=>e=.returned (.bool false)∧H'=.blk p (jrV t o n m a s k c' b') 136::H):=by
 refine Meets.enter Tryz.func124 rfl rfl ?_
 repeat' (first|((first|apply T.mv|apply T.asn|apply T.nilCheck|apply T.fieldAddrZ);apply rfl;apply rfl)|(apply T.store;apply rfl;apply rfl;infer_instance;(first|decide|(simp;omega)|simp);apply rfl)|(with_reducible first|refine Sr.nil ?_|refine S.seq ?_|refine S.reg ?_)|(apply T.retW;apply rfl)|fail)
 exact ⟨_,PSub.refl _,rfl,rfl⟩
theorem Zp:Meets Tryz.prog 104 [.pointer (some ⟨p,0,none⟩)] F M (.blk p (jrV t o n m a s k c b) 136::H) (fun e H'=>e=.returned (.bool false)∧H'=.blk p (jrV t o n m a s k 31 a) 136::H):=by
 refine Meets.enter Tryz.func104 rfl rfl ?_
 repeat' (first|((first|apply T.mv|apply T.asn|apply T.nilCheck|apply T.fieldAddrZ);apply rfl;apply rfl)|(apply T.load;apply rfl;apply rfl;infer_instance;apply rfl;apply rfl)|(with_reducible first|refine Sr.nil ?_|refine S.seq ?_|refine S.reg ?_)|fail)
 refine T.call rfl rfl Zx ?_
 rintro _ _ ⟨rfl,rfl⟩
 repeat' (first|(apply T.asn;apply rfl;apply rfl)|with_reducible refine Sr.nil ?_|(apply T.retW;apply rfl)|(with_reducible apply T.ofRet)|fail)
 exact ⟨_,PSub.refl _,rfl,rfl⟩
theorem Zw:Meets Tryz.prog 101 [.pointer (some ⟨p,0,none⟩)] F M (.blk p (jrV t o n m a s k c b) 136::H) (fun e H'=>e=.returned (.int .u8 (bAt t a:Nat))∧H'=.blk p (jrV t o n m a s k c b) 136::H):=by
 refine Meets.enter Tryz.func101 rfl rfl ?_
 by_cases h:a < t.length
 ·repeat' (first|((first|apply T.slen|apply T.mv|apply T.asn|apply T.nilCheck|apply T.fieldAddrZ);apply rfl;apply rfl)|(apply T.sidx;apply rfl;apply rfl;omega;apply rfl)|(apply T.load;apply rfl;apply rfl;infer_instance;apply rfl;apply rfl)|(apply T.lss;(iterate 3 apply rfl))|(with_reducible first|refine Sr.nil ?_|refine S.seq ?_|refine S.reg ?_)|(apply S.quiet;apply rfl;kernel_rfl)|(apply S.condQ;apply rfl;all_goals (intro _;try (exfalso;first|omega|with_reducible contradiction)))|(apply T.retW;apply rfl)|fail)
  exact ⟨_,PSub.refl _,rfl,rfl⟩
 ·repeat' (first|((first|apply T.slen|apply T.mv|apply T.asn|apply T.nilCheck|apply T.fieldAddrZ);apply rfl;apply rfl)|(apply T.load;apply rfl;apply rfl;infer_instance;apply rfl;apply rfl)|(apply T.lss;(iterate 3 apply rfl))|(with_reducible first|refine Sr.nil ?_|refine S.seq ?_|refine S.reg ?_|refine S.skip ?_)|(apply S.quiet;apply rfl;kernel_rfl)|(apply S.condQ;apply rfl;all_goals (intro _;try (exfalso;first|omega|with_reducible contradiction)))|(apply T.retW;apply rfl)|fail)
  rw [Z0e (by omega)]
  exact ⟨_,PSub.refl _,rfl,rfl⟩
theorem Z2o (ha:a≤t.length) (hl:t.length≤1000000000):Meets Tryz.prog 91 [.pointer (some ⟨p,0,none⟩)] F M (.blk p (jrV t o n m a s k c b) 136::H) (fun e H'=>e=.returned (.tuple ⟨[]⟩)∧H'=.blk p (jrV t o n m (Z2 t a) s k c b) 136::H):=by
 refine Meets.enter Tryz.func91 rfl rfl ?_
 repeat' (first|with_reducible refine S.block ?_|fail)
 refine S.loopE 1 [0] (fun R b' μ H' e=>∃ q:Nat,H'=.blk p (jrV t o n m q s k c b) 136::R∧e=b'∧(q≤t.length∧Z2 t a=Z2 t q)∧μ=t.length - q) rfl rfl ?_ _ _ ⟨a,rfl,rfl,⟨ha,rfl⟩,rfl⟩ (by repeat' first|exact trivial|refine And.intro rfl ?_)
 rintro _ _ _ ⟨q,rfl,rfl,⟨h1,h2⟩,rfl⟩ ih
 have hb:bAt t q=(t.getD q 0).toNat:=rfl
 by_cases h3:q < t.length
 ·repeat' (first|((first|apply T.slen|apply T.mv|apply T.nilCheck|apply T.fieldAddrZ);apply rfl;apply rfl)|(apply T.sidx;apply rfl;apply rfl;omega;apply rfl)|(apply T.load;apply rfl;apply rfl;infer_instance;apply rfl;apply rfl)|((first|apply T.lss|apply T.eql);(iterate 3 apply rfl))|(apply T.addI;apply rfl;apply rfl;omega;apply rfl)|(apply T.pickT;(iterate 3 apply rfl))|(apply T.pickF;(iterate 3 apply rfl))|(apply T.store;apply rfl;apply rfl;infer_instance;(first|decide|(simp;omega)|simp);apply rfl)|(with_reducible first|refine Sr.nil ?_|refine S.seq ?_|refine S.block ?_|refine S.reg ?_|refine S.skip ?_|refine S.inBlock ?_)|(apply S.exit;apply rfl)|(apply S.quiet;apply rfl;kernel_rfl)|(apply T.ungV;apply rfl;(first|with_reducible rfl|decide))|(apply T.skip;apply rfl;(first|with_reducible rfl|decide);apply rfl)|(apply S.condTV;apply rfl;(first|with_reducible rfl|decide))|(apply S.condQ;apply rfl;all_goals (intro _;try (exfalso;first|omega|with_reducible contradiction)))|(apply T.gcase;apply rfl;apply rfl;all_goals (intro _;try (exfalso;first|omega|with_reducible contradiction)))|(apply T.doneW;apply rfl)|fail)
  rotate_left 4
  ·rw [h2,Z1X (t:=t) (p:=q) (by omega)];exact ⟨_,PSub.refl _,rfl,rfl⟩
  all_goals (have h5:=Z37 (t:=t) (p:=q) (by omega);exact ih _ _ _ _ ⟨q+1,rfl,rfl,⟨by omega,h2.trans h5⟩,rfl⟩ (by omega) (by repeat' first|exact trivial|refine And.intro rfl ?_))
 ·have h4:=Z0e (t:=t) (p:=q) (by omega)
  repeat' (first|((first|apply T.slen|apply T.mv|apply T.nilCheck|apply T.fieldAddrZ);apply rfl;apply rfl)|(apply T.load;apply rfl;apply rfl;infer_instance;apply rfl;apply rfl)|(apply T.lss;(iterate 3 apply rfl))|(apply T.pickF;(iterate 3 apply rfl))|(with_reducible first|refine Sr.nil ?_|refine S.seq ?_)|(apply S.exit;apply rfl)|(apply S.quiet;apply rfl;kernel_rfl)|(apply T.skip;apply rfl;(first|with_reducible rfl|decide);apply rfl)|(apply T.skipU;apply rfl;apply rfl)|(apply S.condFV;apply rfl;(first|with_reducible rfl|decide))|(apply T.gcase;apply rfl;apply rfl;all_goals (intro _;try (exfalso;first|omega|with_reducible contradiction)))|(apply T.doneW;apply rfl)|fail)
  rw [h2,Z1X (t:=t) (p:=q) (by omega)]
  exact ⟨_,PSub.refl _,rfl,rfl⟩
def JrB (p:Nat) (t:List UInt8) (o n m:Value) (s:Nat) (k:List UInt8) (c b:Int) (H:List Res):Gt Unit→Ending→List Res→Prop
 | .ok a' _=>fun e H'=>e=.returned (.bool true)∧H'=.blk p (jrV t o n m a' s k c b) 136::H
 | .bad c' b'=>fun e H'=>∃ a',e=.returned (.bool false)∧H'=.blk p (jrV t o n m a' s k c' b') 136::H
theorem Z0v (ha:a≤t.length) (hl:t.length≤1000000000):Meets Tryz.prog 139 [.pointer (some ⟨p,0,none⟩)] F M (.blk p (jrV t o n m a s k c b) 136::H) (JrB p t o n m s k c b H (ZF t a)):=by
 refine Meets.enter Tryz.func139 rfl rfl ?_
 have hu:=Z14 t a
 repeat' (first|((first|apply T.mv|apply T.asn);apply rfl;apply rfl)|(with_reducible first|refine Sr.nil ?_|refine S.seq ?_|refine S.reg ?_)|fail)
 refine T.call rfl rfl Zw ?_
 rintro _ _ ⟨rfl,rfl⟩
 by_cases h:48≤bAt t a∧bAt t a≤57
 ·rw [Z7A h]
  obtain ⟨h1,h2⟩:=h
  repeat' (first|((first|apply T.mv|apply T.asn);apply rfl;apply rfl)|((first|apply T.lss|apply T.gtr);(iterate 3 apply rfl))|(apply T.pickF;(iterate 3 apply rfl))|(with_reducible first|refine Sr.nil ?_|refine S.seq ?_|refine S.reg ?_|refine S.skip ?_)|(apply T.ungV;apply rfl;(first|with_reducible rfl|decide))|(apply S.condQ;apply rfl;all_goals (intro _;try (exfalso;first|omega|with_reducible contradiction)))|(apply T.gcase;apply rfl;apply rfl;all_goals (intro _;try (exfalso;first|omega|with_reducible contradiction)))|(with_reducible apply T.ofRet)|fail)
  refine T.call rfl rfl Zw ?_
  rintro _ _ ⟨rfl,rfl⟩
  repeat' (first|(apply T.asn;apply rfl;apply rfl)|(with_reducible first|refine Sr.nil ?_|refine S.block ?_)|(with_reducible apply T.ofRet)|fail)
  refine S.loopE 1 [0] (fun R b' μ H' e=>∃ q:Nat,H'=.blk p (jrV t o n m q s k c b) 136::R∧e=(4,.int .u8 (bAt t q:Nat))::b'∧(q≤t.length∧Z3 t a=Z3 t q)∧μ=t.length - q) rfl rfl ?_ _ _ ⟨a,rfl,rfl,⟨ha,rfl⟩,rfl⟩ (by repeat' first|exact trivial|refine And.intro rfl ?_)
  rintro _ _ _ ⟨q,rfl,rfl,⟨h3,h4⟩,rfl⟩ ih
  by_cases h5:48≤bAt t q∧bAt t q≤57
  ·have h6:=Z7 (t:=t) (p:=q) (by omega)
   rw [Z0K h5] at h4
   obtain ⟨h5,h7⟩:=h5
   repeat' (first|((first|apply T.mv|apply T.nilCheck|apply T.fieldAddrZ);apply rfl;apply rfl)|(apply T.load;apply rfl;apply rfl;infer_instance;apply rfl;apply rfl)|((first|apply T.leq|apply T.geq);(iterate 3 apply rfl))|(apply T.addI;apply rfl;apply rfl;omega;apply rfl)|(apply T.pickT;(iterate 3 apply rfl))|(apply T.store;apply rfl;apply rfl;infer_instance;(first|decide|(simp;omega)|simp);apply rfl)|(with_reducible first|refine Sr.nil ?_|refine S.seq ?_|refine S.block ?_|refine S.reg ?_|refine S.skip ?_|refine S.inBlock ?_)|(apply T.ungV;apply rfl;(first|with_reducible rfl|decide))|(apply S.condQ;apply rfl;all_goals (intro _;try (exfalso;first|omega|with_reducible contradiction)))|(apply T.gcase;apply rfl;apply rfl;all_goals (intro _;try (exfalso;first|omega|with_reducible contradiction)))|fail)
   refine T.call rfl rfl Zw ?_
   rintro _ _ ⟨rfl,rfl⟩
   repeat' (first|(apply T.asn;apply rfl;apply rfl)|with_reducible refine Sr.nil ?_|(with_reducible apply T.ofRet)|fail)
   exact ih _ _ _ _ ⟨q+1,rfl,rfl,⟨by omega,h4⟩,rfl⟩ (by omega) (by repeat' first|exact trivial|refine And.intro rfl ?_)
  ·rw [Z0W h5] at h4
   rw [h4]
   repeat' (first|((first|apply T.mv|apply T.asn);apply rfl;apply rfl)|((first|apply T.leq|apply T.geq);(iterate 3 apply rfl))|(apply T.pickT;(iterate 3 apply rfl))|(apply T.pickF;(iterate 3 apply rfl))|(with_reducible first|refine Sr.nil ?_|refine S.seq ?_|refine S.reg ?_)|(apply S.exit;apply rfl)|(apply T.ungV;apply rfl;(first|with_reducible rfl|decide))|(apply T.skip;apply rfl;(first|with_reducible rfl|decide);apply rfl)|(apply S.condFV;apply rfl;(first|with_reducible rfl|decide))|(apply S.condQ;apply rfl;all_goals (intro _;try (exfalso;first|omega|with_reducible contradiction)))|(apply T.gcase;apply rfl;apply rfl;all_goals (intro _;try (exfalso;first|omega|with_reducible contradiction)))|(apply T.retW;apply rfl)|fail)
   all_goals exact ⟨_,PSub.refl _,rfl,rfl⟩
 ·rw [Z6V h]
  repeat' (first|((first|apply T.mv|apply T.asn);apply rfl;apply rfl)|((first|apply T.lss|apply T.gtr);(iterate 3 apply rfl))|(apply T.pickT;(iterate 3 apply rfl))|(apply T.pickF;(iterate 3 apply rfl))|(with_reducible first|refine Sr.nil ?_|refine S.seq ?_|refine S.reg ?_)|(apply T.ungV;apply rfl;(first|with_reducible rfl|decide))|(apply T.skip;apply rfl;(first|with_reducible rfl|decide);apply rfl)|(apply S.condTV;apply rfl;(first|with_reducible rfl|decide))|(apply S.condQ;apply rfl;all_goals (intro _;try (exfalso;first|omega|with_reducible contradiction)))|(apply T.gcase;apply rfl;apply rfl;all_goals (intro _;try (exfalso;first|omega|with_reducible contradiction)))|(with_reducible apply T.ofRet)|fail)
  all_goals
   refine T.call rfl rfl Zp ?_
   rintro _ _ ⟨rfl,rfl⟩
   repeat' (first|(apply T.asn;apply rfl;apply rfl)|with_reducible refine Sr.nil ?_|(apply T.retW;apply rfl)|(with_reducible apply T.ofRet)|fail)
   exact ⟨_,PSub.refl _,a,rfl,rfl⟩
end
end Go.Proofs.YthomgjihagigcaaGreatDoor
/- The walks of the statement's own functions: lists of texts with room. -/
namespace Sg
open Go
def ZH:List UInt8:=[114,111,111,109]
def Z0X:List UInt8:=[103,111,110,101]
theorem Z6Q {α:Type} (xs:List α) (d z:α) (i m:Nat) (h:i < xs.length):(xs.take i++List.replicate (m+1) z).set i (xs.getD i d)=xs.take (i+1)++List.replicate m z:=by
 have h1:(xs.take i).length=i:=by rw [List.length_take];omega
 rw [List.set_append_right _ _ (by omega),h1,Nat.sub_self,List.replicate_succ,List.set_cons_zero,List.take_succ_eq_append_getElem h,List.append_assoc]
 simp [List.getD,h]
theorem Z6P {α:Type} (xs:List α) (r z:α) (j m:Nat):(xs++(List.replicate j r++List.replicate (m+1) z)).set (xs.length+j) r=xs++(List.replicate (j+1) r++List.replicate m z):=by
 rw [List.set_append_right _ _ (by omega),Nat.add_sub_cancel_left,List.set_append_right _ _ (by simp),List.length_replicate,Nat.sub_self,List.replicate_succ,List.set_cons_zero,List.replicate_succ' (n:=j),List.append_assoc]
 rfl
end Sg
namespace Go.Proofs.YthomgjihagigcaaGreatDoor
open Sg Go.IntWalk
set_option maxRecDepth 100000
set_option maxHeartbeats 4000000
section
variable {F:World} {M:List Nat} {H:List Res} {xs ys:List (List UInt8)} {a b:Option Addr} {n g ca cb:Nat}
abbrev roR (g n:Nat) (ys:List (List UInt8)):Res:=.row (some ⟨g,0,none⟩) (n+70) 9 1 (n+70) (ys.map sV)
theorem Z2K (ha:Rd F M H a (xs.map sV)) (hx:xs.length=n) (hn:n≤1000000000) :
  Meets Tryz.prog 13 [.slice a n ca] F M H (fun e H'=>∃ g,e=.returned (.slice (some ⟨g,0,none⟩) n (n+70))∧H'=roR g n (xs++List.replicate 70 ZH)::H):=by
 subst hx
 refine Meets.enter Tryz.func13 rfl rfl ?_
 repeat' (first|(apply Sr.same;refine T.makeRoom (n:=xs.length+70) rfl rfl rfl (by constructor<;>omega) rfl ?_;intro g)|((first|apply T.mv|apply T.asn|apply T.len);apply rfl;apply rfl)|(apply T.addI;apply rfl;apply rfl;omega;apply rfl)|(with_reducible first|refine Sr.nil ?_|refine S.seq ?_|refine S.block ?_|refine S.reg ?_)|fail)
 have hz:List.replicate (xs.length+70) (Value.string ByteArray.empty)=(xs.take 0++List.replicate (xs.length+70 - 0) ([]:List UInt8)).map sV:=by
  rw [List.take_zero,List.nil_append,List.map_replicate]
  rfl
 rw [hz]
 refine S.loopE 1 [0] (fun R b' μ H' e=>∃ i:Nat,H'=roR g xs.length (xs.take i++List.replicate (xs.length+70 - i) [])::R∧e=(4,.int .i64 i)::(3,.slice (some ⟨g,0,none⟩) i (xs.length+70))::b'∧i≤xs.length∧μ=xs.length - i) rfl rfl ?_ _ _ ⟨0,rfl,rfl,Nat.zero_le _,rfl⟩ (by repeat' first|exact trivial|refine And.intro rfl ?_)
 rintro _ _ _ ⟨i,rfl,rfl,hi,rfl⟩ ih
 by_cases h1:i < xs.length
 ·have hl:((xs.take i++List.replicate (xs.length+70 - i) ([]:List UInt8)).map sV).length=xs.length+70:=by
   rw [List.length_map,List.length_append,List.length_take,List.length_replicate]
   omega
  have hst:((xs.take i++List.replicate (xs.length+70 - i) ([]:List UInt8)).map sV).set i (sV (xs.getD i []))=(xs.take (i+1)++List.replicate (xs.length+70 - (i+1)) []).map sV:=by
   rw [←List.map_set,show xs.length+70 - i=(xs.length+70 - (i+1))+1 by omega,Z6Q xs [] [] i _ h1]
  repeat' (first|(apply Sr.same;refine T.appendRoom rfl rfl rfl (by omega) (by omega) rfl ?_)|(apply T.loadS;apply rfl;infer_instance;(first|omega|(simp only [List.length_map];omega));apply rfl)|((first|apply T.mv|apply T.asn|apply T.len);apply rfl;apply rfl)|(apply T.lss;(iterate 3 apply rfl))|(apply T.addI;apply rfl;apply rfl;omega;apply rfl)|(apply T.ixN;apply rfl;apply rfl;infer_instance;omega;(first|omega|(simp only [List.length_map];omega)|(simp;omega));apply rfl)|(apply T.bs;(iterate 6 apply rfl);intro nb)|(with_reducible first|refine Sr.nil ?_|refine S.seq ?_|refine S.block ?_|refine S.reg ?_|refine S.skip ?_|refine S.inBlock ?_)|(apply S.condQ;apply rfl;all_goals (intro _;try (exfalso;first|omega|with_reducible contradiction)))|fail)
  rw [hst]
  exact ih _ _ _ _ ⟨i+1,rfl,rfl,h1,rfl⟩ (by omega) (by repeat' first|exact trivial|refine And.intro rfl ?_)
 ·obtain rfl:i=xs.length:=by omega
  clear ih
  have hz2:xs.take xs.length++List.replicate (xs.length+70 - xs.length) ([]:List UInt8)=xs++(List.replicate 0 ZH++List.replicate (70 - 0) []):=by
   rw [List.take_length,List.replicate_zero,List.nil_append,show xs.length+70 - xs.length=70 - 0 by omega]
  rw [hz2]
  repeat' (first|((first|apply T.mv|apply T.asn|apply T.len);apply rfl;apply rfl)|(apply T.lss;(iterate 3 apply rfl))|(with_reducible first|refine Sr.nil ?_|refine S.seq ?_|refine S.block ?_|refine S.reg ?_)|(apply S.exit;apply rfl)|(apply S.condQ;apply rfl;all_goals (intro _;try (exfalso;first|omega|with_reducible contradiction)))|fail)
  refine S.loopE 1 [3] (fun R b' μ H' e=>∃ j:Nat,H'=roR g xs.length (xs++(List.replicate j ZH++List.replicate (70 - j) []))::R∧e=(6,.int .i64 j)::(5,.slice (some ⟨g,0,none⟩) (xs.length+j) (xs.length+70))::b'∧j≤70∧μ=70 - j) rfl rfl ?_ _ _ ⟨0,rfl,rfl,Nat.zero_le _,rfl⟩ (by repeat' first|exact trivial|refine And.intro rfl ?_)
  rintro _ _ _ ⟨j,rfl,rfl,hj,rfl⟩ ih
  by_cases h2:j < 70
  ·have hl:((xs++(List.replicate j ZH++List.replicate (70 - j) ([]:List UInt8))).map sV).length=xs.length+70:=by
    rw [List.length_map,List.length_append,List.length_append,List.length_replicate,List.length_replicate]
    omega
   have hst:((xs++(List.replicate j ZH++List.replicate (70 - j) ([]:List UInt8))).map sV).set (xs.length+j) (sV ZH)=(xs++(List.replicate (j+1) ZH++List.replicate (70 - (j+1)) [])).map sV:=by
    rw [←List.map_set,show 70 - j=(70 - (j+1))+1 by omega,Z6P xs ZH []]
   repeat' (first|(apply Sr.same;refine T.appendRoom rfl rfl rfl (by omega) (by omega) rfl ?_)|((first|apply T.mv|apply T.asn);apply rfl;apply rfl)|(apply T.lss;(iterate 3 apply rfl))|(apply T.addI;apply rfl;apply rfl;omega;apply rfl)|(apply T.bs;(iterate 6 apply rfl);intro nb)|(with_reducible first|refine Sr.nil ?_|refine S.seq ?_|refine S.block ?_|refine S.reg ?_|refine S.skip ?_|refine S.inBlock ?_)|(apply S.condQ;apply rfl;all_goals (intro _;try (exfalso;first|omega|with_reducible contradiction)))|fail)
   rw [show (Value.string { data:=#[114,111,111,109] })=sV ZH from rfl,hst]
   exact ih _ _ _ _ ⟨j+1,rfl,rfl,h2,rfl⟩ (by omega) (by repeat' first|exact trivial|refine And.intro rfl ?_)
  ·obtain rfl:j=70:=by omega
   clear ih
   rw [Nat.sub_self,List.replicate_zero,List.append_nil]
   repeat' (first|((first|apply T.mv|apply T.asn);apply rfl;apply rfl)|(apply T.lss;(iterate 3 apply rfl))|(with_reducible first|refine Sr.nil ?_|refine S.seq ?_|refine S.reg ?_)|(apply S.exit;apply rfl)|(apply S.condFV;apply rfl;(first|with_reducible rfl|decide))|(apply T.retW;apply rfl)|fail)
   exact ⟨_,PSub.refl _,g,rfl,rfl⟩
theorem Z3A (ha:Rd F M H a (xs.map sV)) (hb:Rd F M H b (xs.map sV)) (hx:xs.length=n) (hn:n≤1000000000) :
  Meets Tryz.prog 31 [.slice a n ca,.slice b n cb] F M H (fun e H'=>e=.returned (.bool true)∧H'=H):=by
 subst hx
 refine Meets.enter Tryz.func31 rfl rfl ?_
 repeat' (first|((first|apply T.mv|apply T.asn|apply T.len);apply rfl;apply rfl)|(apply T.neq;(iterate 3 apply rfl))|(with_reducible first|refine Sr.nil ?_|refine S.seq ?_|refine S.block ?_|refine S.reg ?_|refine S.skip ?_)|(apply S.condQ;apply rfl;all_goals (intro _;try (exfalso;first|omega|with_reducible contradiction)))|fail)
 refine S.loopE 0 [0,1] (fun R b' μ H' e=>∃ i:Nat,H'=R∧e=(5,.int .i64 i)::b'∧i≤xs.length∧μ=xs.length - i) rfl rfl ?_ _ _ ⟨0,rfl,rfl,by omega,rfl⟩ (by repeat' first|exact trivial|refine And.intro rfl ?_)
 rintro _ _ _ ⟨i,rfl,rfl,hi,rfl⟩ ih
 by_cases h1:i < xs.length
 ·repeat' (first|(apply T.sneqR;(iterate 3 apply rfl))|(apply T.loadS;apply rfl;infer_instance;(first|omega|(simp only [List.length_map];omega));apply rfl)|((first|apply T.mv|apply T.asn|apply T.len);apply rfl;apply rfl)|(apply T.lss;(iterate 3 apply rfl))|(apply T.addI;apply rfl;apply rfl;omega;apply rfl)|(apply T.ixN;apply rfl;apply rfl;infer_instance;omega;(first|omega|(simp only [List.length_map];omega)|(simp;omega));apply rfl)|(with_reducible first|refine Sr.nil ?_|refine S.seq ?_|refine S.block ?_|refine S.reg ?_|refine S.skip ?_|refine S.inBlock ?_)|(apply S.quiet;apply rfl;kernel_rfl)|(apply S.condFV;apply rfl;(first|with_reducible rfl|decide))|(apply S.condQ;apply rfl;all_goals (intro _;try (exfalso;first|omega|with_reducible contradiction)))|fail)
  exact ih _ _ _ _ ⟨i+1,rfl,rfl,by omega,rfl⟩ (by omega) (by repeat' first|exact trivial|refine And.intro rfl ?_)
 ·repeat' (first|((first|apply T.mv|apply T.asn|apply T.len);apply rfl;apply rfl)|(apply T.lss;(iterate 3 apply rfl))|(with_reducible first|refine Sr.nil ?_|refine S.seq ?_|refine S.reg ?_)|(apply S.exit;apply rfl)|(apply S.condQ;apply rfl;all_goals (intro _;try (exfalso;first|omega|with_reducible contradiction)))|(apply T.retW;apply rfl)|fail)
  exact ⟨_,PSub.refl _,rfl,rfl⟩
theorem Z1V (ha:Rd F M H a ((xs++List.replicate 70 ZH).map sV)) (hx:xs.length=n) (hn:n≤1000000000) :
  Meets Tryz.prog 21 [.slice a n (n+70)] F M H (fun e H'=>e=.returned (.bool true)∧H'=H):=by
 subst hx
 refine Meets.enter Tryz.func21 rfl rfl ?_
 generalize hy:xs++List.replicate 70 ZH=ys at ha
 have hyl:ys.length=xs.length+70:=by rw [←hy,List.length_append,List.length_replicate]
 have hyr:∀ i,xs.length≤i→i < xs.length+70→ys.getD i []=ZH:=fun i h1 h2=>by
  rw [←hy,List.getD_eq_getElem?_getD,List.getElem?_append_right h1,List.getElem?_replicate]
  rw [if_pos (by omega)]
  rfl
 repeat' (first|(apply T.sliceH;apply rfl;apply rfl;omega;apply rfl;rw [show ((xs.length:Int)+70).toNat=xs.length+70 by omega])|((first|apply T.mv|apply T.asn|apply T.len);apply rfl;apply rfl)|(apply T.addI;apply rfl;apply rfl;omega;apply rfl)|(with_reducible first|refine Sr.nil ?_|refine S.seq ?_|refine S.block ?_|refine S.reg ?_)|fail)
 refine S.loopE 0 [3] (fun R b' μ H' e=>∃ i:Nat,H'=R∧e=(4,.int .i64 i)::b'∧(xs.length≤i∧i≤xs.length+70)∧μ=xs.length+70 - i) rfl rfl ?_ _ _ ⟨xs.length,rfl,rfl,⟨Nat.le_refl _,by omega⟩,rfl⟩ (by repeat' first|exact trivial|refine And.intro rfl ?_)
 rintro _ _ _ ⟨i,rfl,rfl,⟨hi1,hi2⟩,rfl⟩ ih
 by_cases h1:i < xs.length+70
 ·have hr:=hyr i hi1 h1
  repeat' (first|(apply T.sneq;(iterate 3 apply rfl);rw [decide_eq_false (fun h=>h hr)])|(apply T.loadS;apply rfl;infer_instance;(first|omega|(simp only [List.length_map];omega));apply rfl)|((first|apply T.mv|apply T.asn|apply T.len);apply rfl;apply rfl)|(apply T.lss;(iterate 3 apply rfl))|(apply T.addI;apply rfl;apply rfl;omega;apply rfl)|(apply T.ixN;apply rfl;apply rfl;infer_instance;omega;(first|omega|(simp only [List.length_map];omega)|(simp;omega));apply rfl)|(with_reducible first|refine Sr.nil ?_|refine S.seq ?_|refine S.block ?_|refine S.reg ?_|refine S.skip ?_|refine S.inBlock ?_)|(apply S.condFV;apply rfl;(first|with_reducible rfl|decide))|(apply S.condQ;apply rfl;all_goals (intro _;try (exfalso;first|omega|with_reducible contradiction)))|fail)
  exact ih _ _ _ _ ⟨i+1,rfl,rfl,⟨by omega,by omega⟩,rfl⟩ (by omega) (by repeat' first|exact trivial|refine And.intro rfl ?_)
 ·repeat' (first|((first|apply T.mv|apply T.asn|apply T.len);apply rfl;apply rfl)|(apply T.lss;(iterate 3 apply rfl))|(with_reducible first|refine Sr.nil ?_|refine S.seq ?_|refine S.reg ?_)|(apply S.exit;apply rfl)|(apply S.condQ;apply rfl;all_goals (intro _;try (exfalso;first|omega|with_reducible contradiction)))|(apply T.retW;apply rfl)|fail)
  exact ⟨_,PSub.refl _,rfl,rfl⟩
end
end Go.Proofs.YthomgjihagigcaaGreatDoor
/- Drawn regions: guarded operations that no effect turns come ahead of the effects, too. -/
namespace Sg
open Go Go.RowKit
section
variable {c:Ctx} {ds:List Deferred} {Hs H:List Res} {es lt:List Nat} {ops:Array Oper} {fuel:Nat} {listed:Array Bool} {κ:List Res→Env→Prop} {e:Env} {op:Op} {d j:Nat} {b b':Bool} {ty:TypeId} {pos:String} {aft:Array Edge}
theorem SA.pg (i:Nat) {v:Value} (ho:ops[i]?=some ⟨some d,op,ty,pos,aft,some (j,b)⟩) (hgl:glook ops e j=some b) (hB:(Region.noSelect ops&&Region.free .any ops listed i&&(Region.ready .any ops listed).contains i)=true) (h:Pu c H e ⟨some d,op,ty,pos,aft,none⟩ v)
  (hs:es.all (fun k=>listed.getD k true || dep ops i 6 k)=true∨lt.all (fun k=>listed.getD k true || dep ops i 6 k)=true∧Pu c Hs e ⟨some d,op,ty,pos,aft,none⟩ v∨Pu c [] e ⟨some d,op,ty,pos,aft,none⟩ v)
  (hlt:Nat.blt d c.fn.ntmps=true) (hk:SA c ds Hs es lt H ops fuel (listed.setIfInBounds i true) κ ((d,v)::e)):SA c ds Hs es lt H ops (fuel+1) listed κ e:=by
 unfold SA at hk ⊢
 intro hc w a hw ha hds
 simp only [Bool.and_eq_true] at hB
 have hr:i∈Region.ready .any ops listed:=by simpa using hB.2
 have h2:Ok c.fn.ntmps ((d,v)::e) (a.put (some d) v):=ha.put (d:=some d) hlt v
 have hwt:Region.wanted (⟨some d,op,ty,pos,aft,some (j,b)⟩:Oper) (yielded ops a.tmps)=true:=by simp [Region.wanted,Z0T ha hgl]
 refine AW.first (v:=v) ho (Region.noSelect_spec hB.1.1) (fun _ _ _=>Kq.back) fuel listed a w hc (Region.free_spec ho hB.1.2) hr (.inl ⟨hwt,.inl (h w a hw ha)⟩) ?_ (hk (hc.set hr) w _ hw h2 ((Zg _ _ _).trans hds))
 intro k hj hun
 have hdep:(listed.getD k true || dep ops i 6 k)=true→dep ops i 6 k=true:=fun h=>by rw [hun,Bool.false_or] at h;exact h
 rcases hs with hs|⟨hs0,hs⟩|hs
 ·exact .inl (hdep (List.all_eq_true.1 hs k (by simpa using hj)))
 ·by_cases hlj:lt.contains k=true
  ·exact .inl (hdep (List.all_eq_true.1 hs0 k (by simpa using hlj)))
  ·exact .inr fun w' hw'=>.inl ⟨hwt,.inl (hs w' a (hw'.resolve_left fun h=>hlj h.1) ha)⟩
 ·exact .inr fun w' hw'=>.inl ⟨hwt,.inl (hs w' a (hw'.elim (fun h=>h.2) (fun h=>h.bare)) ha)⟩
theorem Z3g {l:Array Oper} {i:Nat} {o:Oper} (h:nthO l.toList i=some o):l[i]?=some o:=by rw [←h,Z07];simp
theorem SA.gz {i:Nat} (_hi:Z3h listed es false ops.size 0=some i) (ho:nthO ops.toList i=some ⟨some d,op,ty,pos,aft,some (j,b)⟩) (_hr:rdy listed ⟨some d,op,ty,pos,aft,some (j,b)⟩=true) (hgl:glook ops e j=some b') (hb:b'=b) (_hp:Z7I op=true)
  (hB:(Region.noSelect ops&&Region.free .any ops listed i&&(Region.ready .any ops listed).contains i)=true) (h:Sr .uni c ds [] ops [⟨some d,op,ty,pos,aft,none⟩] (fun _ e'=>SA c ds Hs es lt H ops fuel (listed.setIfInBounds i true) κ e') e):SA c ds Hs es lt H ops (fuel+1) listed κ e:=by
 subst hb
 unfold Sr at h
 obtain ⟨v,d',h1,h2,h3,h4,h5⟩:=h
 cases h2
 exact SA.pg i (Z3g ho) hgl hB (fun w a hw ha=>h1 w a hw.bare ha) (.inr (.inr h1)) h3 h5
theorem SA.gn {i:Nat} (_hi:Z3h listed es false ops.size 0=some i) (ho:nthO ops.toList i=some ⟨some d,op,ty,pos,aft,some (j,b)⟩) (_hr:rdy listed ⟨some d,op,ty,pos,aft,some (j,b)⟩=true) (hgl:glook ops e j=some b') (hb:b'=b) (hd:es.all (fun k=>listed.getD k true || dep ops i 6 k)=true)
  (hB:(Region.noSelect ops&&Region.free .any ops listed i&&(Region.ready .any ops listed).contains i)=true) (h:Sr .uni c ds H ops [⟨some d,op,ty,pos,aft,none⟩] (fun _ e'=>SA c ds Hs es lt H ops fuel (listed.setIfInBounds i true) κ e') e):SA c ds Hs es lt H ops (fuel+1) listed κ e:=by
 subst hb
 unfold Sr at h
 obtain ⟨v,d',h1,h2,h3,h4,h5⟩:=h
 cases h2
 exact SA.pg i (Z3g ho) hgl hB h1 (.inl hd) h3 h5
theorem SA.gx {i:Nat} (_hi:Z3h listed es false ops.size 0=some i) (ho:nthO ops.toList i=some ⟨some d,op,ty,pos,aft,some (j,b)⟩) (_hr:rdy listed ⟨some d,op,ty,pos,aft,some (j,b)⟩=true) (hno:gundef ops e j=true∨∃ b',glook ops e j=some b'∧(b'==b)=false)
  (hB:(Region.noSelect ops&&Region.free .any ops listed i&&(Region.ready .any ops listed).contains i)=true) (hlt:Nat.blt d c.fn.ntmps=true) (hk:SA c ds Hs es lt H ops fuel (listed.setIfInBounds i true) κ ((d,undef)::e)):SA c ds Hs es lt H ops (fuel+1) listed κ e:=by
 unfold SA at hk ⊢
 intro hc w a hw ha hds
 simp only [Bool.and_eq_true] at hB
 have hr:i∈Region.ready .any ops listed:=by simpa using hB.2
 have h2:Ok c.fn.ntmps ((d,undef)::e) (a.put (some d) undef):=ha.put (d:=some d) hlt undef
 have hwt:Region.wanted (⟨some d,op,ty,pos,aft,some (j,b)⟩:Oper) (yielded ops a.tmps)=false:=by
  rcases hno with h|⟨b',h,hne⟩
  ·have:=Z2f ha h
   simp [Region.wanted,this]
  ·have:=Z0T ha h
   simpa [Region.wanted,this] using hne
 refine AW.first (v:=undef) (Z3g ho) (Region.noSelect_spec hB.1.1) (fun _ _ _=>Kq.back) fuel listed a w hc (Region.free_spec (Z3g ho) hB.1.2) hr (.inr ⟨hwt,rfl⟩) ?_ (hk (hc.set hr) w _ hw h2 ((Zg _ _ _).trans hds))
 intro k hj hun
 exact .inr fun w' hw'=>.inr ⟨hwt,rfl⟩
theorem SA.gxu {i:Nat} (hi:Z3h listed es false ops.size 0=some i) (ho:nthO ops.toList i=some ⟨some d,op,ty,pos,aft,some (j,b)⟩) (hr:rdy listed ⟨some d,op,ty,pos,aft,some (j,b)⟩=true) (hno:gundef ops e j=true)
  (hB:(Region.noSelect ops&&Region.free .any ops listed i&&(Region.ready .any ops listed).contains i)=true) (hlt:Nat.blt d c.fn.ntmps=true) (hk:SA c ds Hs es lt H ops fuel (listed.setIfInBounds i true) κ ((d,undef)::e)):SA c ds Hs es lt H ops (fuel+1) listed κ e:=SA.gx hi ho hr (.inl hno) hB hlt hk
theorem SA.gxv {i:Nat} (hi:Z3h listed es false ops.size 0=some i) (ho:nthO ops.toList i=some ⟨some d,op,ty,pos,aft,some (j,b)⟩) (hr:rdy listed ⟨some d,op,ty,pos,aft,some (j,b)⟩=true) (hgl:glook ops e j=some b') (hne:(b'==b)=false)
  (hB:(Region.noSelect ops&&Region.free .any ops listed i&&(Region.ready .any ops listed).contains i)=true) (hlt:Nat.blt d c.fn.ntmps=true) (hk:SA c ds Hs es lt H ops fuel (listed.setIfInBounds i true) κ ((d,undef)::e)):SA c ds Hs es lt H ops (fuel+1) listed κ e:=SA.gx hi ho hr (.inr ⟨b',hgl,hne⟩) hB hlt hk
end
end Sg
/- The walks of the statement's policies; copies of lists; new rings and books. -/
/- guards -/
namespace Sg
open Go
structure Pol where
 iss:List UInt8
 hi:Bool
 aud:List UInt8
 ha:Bool
 typ:List UInt8
 ht:Bool
 lee:Int
abbrev poV (P:Pol) (s1 s2:Value):List Value:=[s1,sV P.iss,.bool P.hi,sV P.aud,.bool P.ha,sV P.typ,.bool P.ht,.int .i64 P.lee,s2]
end Sg
namespace Go.Proofs.YthomgjihagigcaaGreatDoor
open Sg Go.IntWalk
set_option maxRecDepth 100000
set_option maxHeartbeats 4000000
section
variable {F:World} {M:List Nat} {H:List Res} {xs ys:List (List UInt8)} {P:Pol} {a b a1 a2 b1 b2:Option Addr} {n g c1 c2 d1 d2 n1 n2:Nat}
theorem Z2Z {ad:Addr} {cp:Nat} (ha:Rd F M H (some ad) (xs.map sV)) (hx:xs.length=n) (hn:n≤1000000000) :
  Meets Tryz.prog 16 [.slice (some ad) n cp] F M H (fun e H'=>∃ (va:Option Addr) (vn vc:Nat),e=.returned (.slice va vn vc)∧H'=H):=by
 subst hx
 refine Meets.enter Tryz.func16 rfl rfl ?_
 repeat' (first|(apply T.eqlSl;apply rfl;apply rfl)|((first|apply T.mv|apply T.asn);apply rfl;apply rfl)|(apply T.bs;(iterate 6 apply rfl);intro nb)|(with_reducible first|refine Sr.nil ?_|refine S.seq ?_|refine S.reg ?_|refine S.skip ?_)|(apply S.condFV;apply rfl;(first|with_reducible rfl|decide))|fail)
 refine Sr.rowOf (n:=0) rfl (by decide) ?_
 refine T.appendAll (g:=sV) (xs:=([]:List (List UInt8))) (us:=xs) (m:=xs.length) rfl rfl inferInstance inferInstance rfl (fun _=>rfl) rfl (by constructor<;>omega) rfl ?_
 intro l1 m1
 repeat' (first|(apply T.asn;apply rfl;apply rfl)|with_reducible refine Sr.nil ?_|(apply T.retW;apply rfl)|fail)
 exact ⟨_,PSub.drop (PSub.refl _),_,_,_,rfl,rfl⟩
theorem Z3E:Meets Tryz.prog 14 [] F M H (fun e H'=>∃ b:Nat,e=.returned (.pointer (some ⟨b,0,none⟩))∧H'=H):=by
 refine Meets.enter Tryz.func14 rfl rfl ?_
 repeat' (first|(apply T.asn;apply rfl;apply rfl)|(apply T.buildL;(iterate 3 apply rfl))|(apply T.box;apply rfl;apply rfl;intro nb)|(with_reducible first|refine Sr.nil ?_|refine S.seq ?_|refine S.reg ?_)|(apply T.retW;apply rfl)|fail)
 exact ⟨_,PSub.drop (PSub.refl _),nb,rfl,rfl⟩
theorem Z3H:Meets Tryz.prog 18 [] F M H (fun e H'=>∃ b:Nat,e=.returned (.pointer (some ⟨b,0,none⟩))∧H'=H):=by
 refine Meets.enter Tryz.func18 rfl rfl ?_
 repeat' (first|(apply T.asn;apply rfl;apply rfl)|(apply T.buildL;(iterate 3 apply rfl))|(apply T.box;apply rfl;apply rfl;intro nb)|(with_reducible first|refine Sr.nil ?_|refine S.seq ?_|refine S.reg ?_)|(apply T.retW;apply rfl)|fail)
 exact ⟨_,PSub.drop (PSub.refl _),nb,rfl,rfl⟩
abbrev bkR (b mb:Nat) (H:List Res):List Res:=.blk b [.bool false,.int .i64 0,.map (some mb)] 64::.ex mb (mapQ Tryz.prog 9 2 0 (mapD []))::H
theorem Z47:Meets Tryz.prog 15 [] F M H (fun e H'=>∃ b mb:Nat,e=.returned (.pointer (some ⟨b,0,none⟩))∧H'=bkR b mb H):=by
 refine Meets.enter Tryz.func15 rfl rfl ?_
 repeat' (first|(apply T.mapMake;apply rfl;intro mb)|(apply T.asn;apply rfl;apply rfl)|(apply T.buildL;(iterate 3 apply rfl))|(apply T.box;apply rfl;apply rfl;intro nb)|(with_reducible first|refine Sr.nil ?_|refine S.seq ?_|refine S.reg ?_)|(apply T.retW;apply rfl)|fail)
 exact ⟨_,PSub.refl _,nb,mb,rfl,rfl⟩
theorem Z48 {b mb:Nat}:Meets Tryz.prog 12 [.pointer (some ⟨b,0,none⟩)] F M (bkR b mb H) (fun e H'=>e=.returned (.int .i64 0)∧H'=bkR b mb H):=by
 refine Meets.enter Tryz.func12 rfl rfl ?_
 repeat' (first|(apply T.mapLen;apply rfl;infer_instance;apply rfl)|((first|apply T.mv|apply T.asn|apply T.nilCheck|apply T.fieldAddrZ);apply rfl;apply rfl)|(apply T.load;apply rfl;apply rfl;infer_instance;apply rfl;apply rfl)|(with_reducible first|refine Sr.nil ?_|refine S.seq ?_|refine S.reg ?_)|(apply T.retW;apply rfl)|fail)
 exact ⟨_,PSub.refl _,rfl,rfl⟩
theorem Z4r (h1:Rd F M H a1 (xs.map sV)) (h2:Rd F M H a2 (ys.map sV)) (hx:xs.length=n1) (hy:ys.length=n2) (k1:n1≤1000000000) (k2:n2≤1000000000) :
  Meets Tryz.prog 6 [.agg ⟨poV P (.slice a1 n1 c1) (.slice a2 n2 c2)⟩] F M H (fun e H'=>∃ g1 g2,e=.returned (.agg ⟨poV P (.slice (some ⟨g1,0,none⟩) n1 (n1+70)) (.slice (some ⟨g2,0,none⟩) n2 (n2+70))⟩)∧H'=roR g2 n2 (ys++List.replicate 70 ZH)::roR g1 n1 (xs++List.replicate 70 ZH)::H):=by
 refine Meets.enter Tryz.func6 rfl rfl ?_
 have e1:=fun X (h:Rd F M X a1 (xs.map sV))=>Z2K (F:=F) (M:=M) (H:=X) (ca:=c1) h hx k1
 have e2:=fun X (h:Rd F M X a2 (ys.map sV))=>Z2K (F:=F) (M:=M) (H:=X) (ca:=c2) h hy k2
 repeat' (first|(apply T.fieldAddrZ;apply rfl;apply rfl)|(apply T.load;apply rfl;apply rfl;infer_instance;apply rfl;apply rfl)|(apply T.loadW;apply rfl;apply rfl;infer_instance;(first|rfl|(simp only [List.length_append,List.length_map,List.length_set,List.length_replicate,List.length_cons,List.length_nil];first|done|omega));apply rfl)|(apply T.storeW;apply rfl;apply rfl;infer_instance;(first|rfl|(simp only [List.length_append,List.length_map,List.length_set,List.length_replicate,List.length_cons,List.length_nil];first|done|omega));(first|rfl|(simp only [List.length_append,List.length_map,List.length_set,List.length_replicate,List.length_cons,List.length_nil];first|done|omega));(first|rfl|(repeat' first|apply all_nV|apply all_bV|apply all_iV|rfl|apply all_app)))|(apply T.alloc;apply rfl;intro nb)|(apply T.box;apply rfl;apply rfl;intro nb)|(with_reducible first|refine Sr.nil ?_|refine S.seq ?_|refine S.reg ?_)|fail)
 refine T.call rfl rfl (e1 _ inferInstance) ?_
 rintro _ _ ⟨g1,rfl,rfl⟩
 repeat' (first|(apply T.fieldAddrZ;apply rfl;apply rfl)|(apply T.load;apply rfl;apply rfl;infer_instance;apply rfl;apply rfl)|(apply T.store;apply rfl;apply rfl;infer_instance;(first|decide|(simp;omega)|simp);apply rfl)|(with_reducible first|refine Sr.nil ?_|refine S.seq ?_|refine S.reg ?_)|(with_reducible apply T.ofRet)|fail)
 refine T.call rfl rfl (e2 _ inferInstance) ?_
 rintro _ _ ⟨g2,rfl,rfl⟩
 repeat' (first|(apply T.fieldAddrZ;apply rfl;apply rfl)|(apply T.loadW;apply rfl;apply rfl;infer_instance;(first|rfl|(simp only [List.length_append,List.length_map,List.length_set,List.length_replicate,List.length_cons,List.length_nil];first|done|omega));apply rfl)|(apply T.storeW;apply rfl;apply rfl;infer_instance;(first|rfl|(simp only [List.length_append,List.length_map,List.length_set,List.length_replicate,List.length_cons,List.length_nil];first|done|omega));(first|rfl|(simp only [List.length_append,List.length_map,List.length_set,List.length_replicate,List.length_cons,List.length_nil];first|done|omega));(first|rfl|(repeat' first|apply all_nV|apply all_bV|apply all_iV|rfl|apply all_app)))|(apply T.store;apply rfl;apply rfl;infer_instance;(first|decide|(simp;omega)|simp);apply rfl)|(with_reducible first|refine Sr.nil ?_|refine S.seq ?_|refine S.reg ?_)|(with_reducible apply T.ofRet)|(apply T.retC;apply rfl;((repeat' first|apply RV.nil|(apply RV.tmp;apply rfl)|(apply RV.cellW;apply rfl;apply rfl;infer_instance;(first|rfl|(simp only [List.length_append,List.length_map,List.length_set,List.length_replicate,List.length_cons,List.length_nil];first|done|omega)))|(apply RV.cellP;apply rfl;apply rfl;infer_instance;apply rfl)));apply rfl)|fail)
 exact ⟨_,PSub.take Z0 (PSub.take Z0 (PSub.drop (PSub.drop (PSub.drop (PSub.refl _))))),g1,g2,rfl,rfl⟩
theorem Z5A (h1:Rd F M H b1 (xs.map sV)) (h2:Rd F M H b2 (ys.map sV)) (h3:Rd F M H a1 (xs.map sV)) (h4:Rd F M H a2 (ys.map sV)) (hx:xs.length=n1) (hy:ys.length=n2) (k1:n1≤1000000000) (k2:n2≤1000000000) :
  Meets Tryz.prog 20 [.agg ⟨poV P (.slice b1 n1 d1) (.slice b2 n2 d2)⟩,.agg ⟨poV P (.slice a1 n1 c1) (.slice a2 n2 c2)⟩] F M H (fun e H'=>e=.returned (.bool true)∧H'=H):=by
 refine Meets.enter Tryz.func20 rfl rfl ?_
 have e1:=fun X (h:Rd F M X b1 (xs.map sV)) (h':Rd F M X a1 (xs.map sV))=>Z3A (F:=F) (M:=M) (H:=X) (ca:=d1) (cb:=c1) h h' hx k1
 have e2:=fun X (h:Rd F M X b2 (ys.map sV)) (h':Rd F M X a2 (ys.map sV))=>Z3A (F:=F) (M:=M) (H:=X) (ca:=d2) (cb:=c2) h h' hy k2
 repeat' (first|((first|apply T.asn|apply T.fieldAddrZ);apply rfl;apply rfl)|(apply T.load;apply rfl;apply rfl;infer_instance;apply rfl;apply rfl)|(apply T.box;apply rfl;apply rfl;intro nb)|(with_reducible first|refine Sr.nil ?_|refine S.seq ?_|refine S.reg ?_)|fail)
 refine T.call rfl rfl (e1 _ inferInstance inferInstance) ?_
 rintro _ _ ⟨rfl,rfl⟩
 repeat' (first|((first|apply T.mv|apply T.fieldAddrZ);apply rfl;apply rfl)|(apply T.load;apply rfl;apply rfl;infer_instance;apply rfl;apply rfl)|(apply T.ungV;apply rfl;(first|with_reducible rfl|decide))|(with_reducible apply T.ofRet)|fail)
 refine T.call rfl rfl (e2 _ inferInstance inferInstance) ?_
 rintro _ _ ⟨rfl,rfl⟩
 repeat' (first|(apply T.seql;(iterate 3 apply rfl);rw [decide_eq_true rfl])|(apply T.eqlB;(iterate 3 apply rfl);rw [beq_self_eq_true])|(apply T.eql;(iterate 3 apply rfl);rw [decide_eq_true rfl])|((first|apply T.mv|apply T.asn|apply T.fieldAddrZ);apply rfl;apply rfl)|(apply T.load;apply rfl;apply rfl;infer_instance;apply rfl;apply rfl)|(apply T.pickT;(iterate 3 apply rfl))|with_reducible refine Sr.nil ?_|(apply T.ungV;apply rfl;(first|with_reducible rfl|decide))|(apply T.retW;apply rfl)|(with_reducible apply T.ofRet)|fail)
 exact ⟨_,PSub.drop (PSub.drop (PSub.refl _)),rfl,rfl⟩
theorem Z3x (h1:Rd F M H b1 ((xs++List.replicate 70 ZH).map sV)) (h2:Rd F M H b2 ((ys++List.replicate 70 ZH).map sV)) (h3:Rd F M H a1 (xs.map sV)) (h4:Rd F M H a2 (ys.map sV)) (hx:xs.length=n1) (hy:ys.length=n2) (k1:n1≤1000000000) (k2:n2≤1000000000) :
  Meets Tryz.prog 9 [.agg ⟨poV P (.slice b1 n1 (n1+70)) (.slice b2 n2 (n2+70))⟩,.agg ⟨poV P (.slice a1 n1 c1) (.slice a2 n2 c2)⟩] F M H (fun e H'=>e=.returned (.bool true)∧H'=H):=by
 refine Meets.enter Tryz.func9 rfl rfl ?_
 have t1:∀ X,Rd F M X b1 ((xs++List.replicate 70 ZH).map sV)→Rd F M X b1 (xs.map sV):=fun X h=>by
  have:=h.take n1
  rwa [←List.map_take,List.take_append_of_le_length (by omega),List.take_of_length_le (by omega)] at this
 have t2:∀ X,Rd F M X b2 ((ys++List.replicate 70 ZH).map sV)→Rd F M X b2 (ys.map sV):=fun X h=>by
  have:=h.take n2
  rwa [←List.map_take,List.take_append_of_le_length (by omega),List.take_of_length_le (by omega)] at this
 have e1:=fun X (h:Rd F M X b1 ((xs++List.replicate 70 ZH).map sV))=>Z1V (F:=F) (M:=M) (H:=X) h hx k1
 have e2:=fun X (h:Rd F M X b2 ((ys++List.replicate 70 ZH).map sV))=>Z1V (F:=F) (M:=M) (H:=X) h hy k2
 have e0:=fun X (h1:Rd F M X b1 ((xs++List.replicate 70 ZH).map sV)) (h2:Rd F M X b2 ((ys++List.replicate 70 ZH).map sV)) (h3:Rd F M X a1 (xs.map sV)) (h4:Rd F M X a2 (ys.map sV))=>Z5A (F:=F) (M:=M) (H:=X) (P:=P) (d1:=n1+70) (d2:=n2+70) (c1:=c1) (c2:=c2) (t1 X h1) (t2 X h2) h3 h4 hx hy k1 k2
 repeat' (first|(apply T.asn;apply rfl;apply rfl)|(apply T.loadW;apply rfl;apply rfl;infer_instance;(first|rfl|(simp only [List.length_append,List.length_map,List.length_set,List.length_replicate,List.length_cons,List.length_nil];first|done|omega));apply rfl)|(apply T.box;apply rfl;apply rfl;intro nb)|(with_reducible first|refine Sr.nil ?_|refine S.seq ?_|refine S.reg ?_)|fail)
 refine T.call rfl rfl (e0 _ inferInstance inferInstance inferInstance inferInstance) ?_
 rintro _ _ ⟨rfl,rfl⟩
 repeat' (first|((first|apply T.mv|apply T.fieldAddrZ);apply rfl;apply rfl)|(apply T.load;apply rfl;apply rfl;infer_instance;apply rfl;apply rfl)|(apply T.ungV;apply rfl;(first|with_reducible rfl|decide))|(with_reducible apply T.ofRet)|fail)
 refine T.call rfl rfl (e1 _ inferInstance) ?_
 rintro _ _ ⟨rfl,rfl⟩
 repeat' (first|((first|apply T.mv|apply T.fieldAddrZ);apply rfl;apply rfl)|(apply T.load;apply rfl;apply rfl;infer_instance;apply rfl;apply rfl)|(apply T.pickT;(iterate 3 apply rfl))|(apply T.ungV;apply rfl;(first|with_reducible rfl|decide))|(with_reducible apply T.ofRet)|fail)
 refine T.call rfl rfl (e2 _ inferInstance) ?_
 rintro _ _ ⟨rfl,rfl⟩
 repeat' (first|(apply T.asn;apply rfl;apply rfl)|(apply T.pickT;(iterate 3 apply rfl))|with_reducible refine Sr.nil ?_|(apply T.retW;apply rfl)|(with_reducible apply T.ofRet)|fail)
 exact ⟨_,PSub.drop (PSub.drop (PSub.refl _)),rfl,rfl⟩
end
end Go.Proofs.YthomgjihagigcaaGreatDoor
/- Numbers of JSON texts, in plain Lean: their parts; the whole number that is spelled as one. -/
namespace Sg
def cutP (c:UInt8) (s:List UInt8):List UInt8 × Bool:=match s with
 | x::r=>if x=c then (r,true) else (x::r,false)
 | []=>([],false)
def runD (s:List UInt8):Nat:=(s.takeWhile Za).length
def Z6L (s:List UInt8):Option (List UInt8 × Bool):=if (cutP 46 s).2=true then (if runD (cutP 46 s).1=0 then none else some ((cutP 46 s).1.drop (runD (cutP 46 s).1),false)) else some (s,true)
def Z1J (s:List UInt8):List UInt8:=match s with
 | x::r=>if x=43∨x=45 then r else x::r
 | []=>[]
def expP (s:List UInt8):Option (List UInt8 × Bool):=match s with
 | x::r=>if x=101∨x=69 then (if Z1J r=[]∨runD (Z1J r)≠(Z1J r).length then none else some ([],false)) else some (x::r,true)
 | []=>some ([],true)
def Z2b (s:List UInt8):Bool:=decide (runD s=0) || (decide (1 < runD s)&&decide (bAt s 0=48))
def numP (t:List UInt8):Option (Bool × List UInt8 × Bool) :=
 if Z2b (cutP 45 t).1=true then none else
 match Z6L ((cutP 45 t).1.drop (runD (cutP 45 t).1)) with
 | none=>none
 | some (s3,p1)=>match expP s3 with
  | none=>none
  | some (s6,p2)=>if s6=[] then some ((cutP 45 t).2,(cutP 45 t).1.take (runD (cutP 45 t).1),p1&&p2) else none
def decV (l:List UInt8):Nat:=l.foldl (fun n c=>10*n+(c.toNat - 48)) 0
def whole64 (mi:Bool) (v:Nat):Int × Bool:=if mi=true then (if v≤9223372036854775808 then (-(v:Int),true) else (0,false)) else if v < 9223372036854775808 then ((v:Int),true) else (0,false)
def Z9 (t:List UInt8):Int × Bool:=match numP t with
 | some (mi,w,true)=>whole64 mi (decV w)
 | _=>(0,false)
theorem Z7K {f:UInt8→Bool} {x:UInt8}:∀ {l:List UInt8},x∈l.takeWhile f→f x=true
 | [],h=>by cases h
 | a::r,h=>by
  by_cases ha:f a=true
  ·rw [List.takeWhile_cons_of_pos ha,List.mem_cons] at h
   rcases h with rfl|h
   ·exact ha
   ·exact Z7K h
  ·rw [List.takeWhile_cons_of_neg ha] at h
   cases h
theorem Z1y (s:List UInt8):runD s≤s.length:=Z0B s
theorem Z2E {s:List UInt8} {j:Nat} (h:j < runD s):48≤bAt s j∧bAt s j≤57:=by
 have h1:j < s.length:=Nat.lt_of_lt_of_le h (Z1y s)
 have h2:(s.takeWhile Za)[j]?=s[j]?:=by
  have:=(List.takeWhile_prefix Za (l:=s))
  obtain ⟨r,hr⟩:=this
  conv=>rhs;rw [←hr]
  rw [List.getElem?_append_left h]
 have h3:s[j]∈s.takeWhile Za:=by
  rw [List.getElem?_eq_getElem h1] at h2
  exact List.mem_of_getElem? h2
 have h4:=Z7K h3
 have h5:=digitB_iff.1 h4
 rw [←Z13 (List.getElem?_eq_getElem h1)] at h5
 exact h5
theorem Z2n (l:List UInt8) (c:UInt8):decV (l++[c])=10*decV l+(c.toNat - 48):=by simp [decV]
theorem Z46 {l:List UInt8} {i:Nat} (h:i≤l.length):decV (l.take i)≤decV l:=by
 induction hn:l.length - i generalizing i with
 | zero=>rw [List.take_of_length_le (by omega)];exact Nat.le_refl _
 | succ n ih =>
  have h1:i < l.length:=by omega
  have h2:=ih (i:=i+1) (by omega) (by omega)
  rw [List.take_succ_eq_append_getElem h1,Z2n] at h2
  omega
theorem Z3r (c:UInt8) (s:List UInt8):(cutP c s).1.length≤s.length:=by
 unfold cutP
 split
 ·split
  ·simp
  ·simp
 ·simp
set_option maxRecDepth 100000 in
theorem or32:∀ x:Fin 256,(UInt8.ofNat x.val|||32=101)=(UInt8.ofNat x.val=101∨UInt8.ofNat x.val=69):=by decide
theorem Z55 (x:UInt8):x|||32=101↔(x=101∨x=69):=by
 have:=or32 ⟨x.toNat,x.toNat_lt⟩
 simp only [UInt8.ofNat_toNat] at this
 rw [this]
end Sg
