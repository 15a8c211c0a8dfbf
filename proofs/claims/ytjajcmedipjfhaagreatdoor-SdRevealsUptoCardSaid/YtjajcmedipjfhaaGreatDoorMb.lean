/- Texts put together by a program: JsnM Tree TreeB TreeC TreeD TreeE RevP MapE. -/
import Derived.Test.YtjajcmedipjfhaaGreatDoorMa
/- JSON, in plain Lean: the machine with a stack says what going down says. -/
namespace Sg
structure Cf where
 p:Nat
 s:Nat
 out:List Nd
 stk:List (Nat × Option (List (List UInt8)))
 key:List UInt8
inductive Nx
 | go (c:Cf)
 | stop (code:Int) (at_:Nat)
def bump (out:List Nd):List (Nat × Option (List (List UInt8)))→List Nd
 | []=>out
 | (i,_)::_=>out.modify i Nd.more
def Cf.lay (c:Cf) (n:Nd):Cf:={ c with key:=[],out:=bump c.out c.stk++[n.named c.key] }
def behS:List (Nat × Option (List (List UInt8)))→Nat
 | []=>6
 | _::_=>5
def Cf.behind (c:Cf):Cf:={ c with s:=behS c.stk }
def endC (c:Cf):Cf:=Cf.behind { c with p:=c.p+1,stk:=c.stk.tail }
def begC (c:Cf) (ch:UInt8):Nx :=
 if c.stk.length=32 then .stop 11 c.p else
 .go { p:=c.p+1,s:=if ch=123 then 3 else 1,out:=bump c.out c.stk++[(nd (if ch=123 then 7 else 6)).named c.key],stk:=((bump c.out c.stk).length,if ch=123 then some [] else none)::c.stk,key:=[] }
def valC (wh:List UInt8→Int × Bool) (t:List UInt8) (c:Cf) (ch:UInt8):Nx:=if ch=91∨ch=123 then begC c ch else
 match Z0m wh t c.p ch with
 | .bad e a=>.stop e a
 | .ok a l=>.go (Cf.behind (Cf.lay { c with p:=a } (l.headD (nd 0))))
def namC (t:List UInt8) (c:Cf) (ch:UInt8):Nx:=if ch=34 then
  match ZB t (c.p+1) with
  | .bad e a=>.stop e a
  | .ok a s=>match c.stk with
   | (i,some ns)::r=>if s∈ns then .stop 34 c.p else .go { c with p:=a,s:=4,key:=s,stk:=(i,some (s::ns))::r }
   | _=>.stop 0 0
 else .stop 31 c.p
def Z1x:List (Nat × Option (List (List UInt8)))→Bool
 | (_,some _)::_=>true
 | _=>false
def morC (c:Cf) (ch:UInt8):Nx :=
 if ch=44 then .go { c with p:=c.p+1,s:=if Z1x c.stk then 2 else 0 } else
 if ch=(if Z1x c.stk then 125 else 93) then .go (endC c) else .stop 31 c.p
def Z2l (wh:List UInt8→Int × Bool) (t:List UInt8) (c:Cf) (ch:UInt8):Nx:=match c.s with
 | 0=>valC wh t c ch
 | 1=>if ch=93 then .go (endC c) else valC wh t c ch
 | 2=>namC t c ch
 | 3=>if ch=125 then .go (endC c) else namC t c ch
 | 4=>if ch=58 then .go { c with p:=c.p+1,s:=0 } else .stop 31 c.p
 | 5=>morC c ch
 | _=>.stop 31 c.p
def mach (wh:List UInt8→Int × Bool) (t:List UInt8):Nat→Cf→Gt (List Nd)
 | 0,_=>.bad 0 0
 | f+1,c=>match t[Z3 t c.p]? with
  | some ch=>match Z2l wh t { c with p:=Z3 t c.p } ch with
   | .go c'=>mach wh t f c'
   | .stop e a=>.bad e a
  | none=>if c.s=6 then .ok (Z3 t c.p) c.out else .bad 31 t.length
/- Ends. -/
theorem Z2a {f:UInt8→Bool}:∀ l:List UInt8,(l.drop (l.takeWhile f).length).takeWhile f=[]
 | []=>rfl
 | a::r=>by
  by_cases h:f a=true
  ·rw [List.takeWhile_cons_of_pos h]
   exact Z2a r
  ·rw [List.takeWhile_cons_of_neg h]
   exact List.takeWhile_cons_of_neg h
theorem Zp (t:List UInt8) (p:Nat):p≤Z3 t p:=Nat.le_add_right _ _
theorem Z1B {f:UInt8→Bool} (l:List UInt8):(l.takeWhile f).length≤l.length:=(List.takeWhile_prefix f).length_le
theorem Zh {t:List UInt8} {p:Nat} (h:p≤t.length):Z3 t p≤t.length:=by
 have:=Z1B (f:=Z6S) (t.drop p)
 rw [List.length_drop] at this
 unfold Z3
 omega
theorem Zq (t:List UInt8) (p:Nat):Z3 t (Z3 t p)=Z3 t p:=by
 have:=Z2a (f:=Z6S) (t.drop p)
 rw [List.drop_drop] at this
 unfold Z3
 rw [this]
 rfl
theorem Z5M (t:List UInt8) (p:Nat):p≤Zt t p:=Nat.le_add_right _ _
theorem ZaN {t:List UInt8} {p:Nat} (h:p≤t.length):Zt t p≤t.length:=by
 have:=Z1B (f:=ZQ) (t.drop p)
 rw [List.length_drop] at this
 unfold Zt
 omega
theorem Z00 {t:List UInt8} {p:Nat} {c:UInt8} (h:atB t p c=true):p < t.length:=by
 unfold atB at h
 rcases Nat.lt_or_ge p t.length with h1|h1
 ·exact h1
 ·rw [List.getElem?_eq_none h1] at h;simp at h
theorem Z1R {t:List UInt8} {p:Nat} {c ch:UInt8} (h:t[p]?=some ch):atB t p c=true↔ch=c:=by
 unfold atB
 rw [h]
 simp
theorem Z3q {t:List UInt8} {p:Nat} {c:UInt8} (h:t[p]?=none):atB t p c=false:=by
 unfold atB
 rw [h]
 rfl
def Gt.fits {α:Type} (g:Gt α) (lo hi:Nat):Prop:=∀ a v,g=.ok a v→lo≤a∧a≤hi
theorem Gt.fits_bad {α:Type} {c:Int} {p lo hi:Nat}:(Gt.bad c p:Gt α).fits lo hi:=fun _ _ h=>by cases h
theorem Gt.fits_ok {α:Type} {p lo hi:Nat} {v:α} (h:lo≤p∧p≤hi):(Gt.ok p v).fits lo hi:=fun _ _ e=>by cases e;exact h
theorem Gt.fits_bind {α β:Type} {g:Gt α} {f:Nat→α→Gt β} {lo hi lo':Nat} (h:g.fits lo hi) (hf:∀ a v,lo≤a→a≤hi→(f a v).fits lo' hi):(g.bind f).fits lo' hi:=fun a v e=>by
 cases g with
 | bad c p=>cases e
 | ok b u=>exact hf b u (h b u rfl).1 (h b u rfl).2 a v e
theorem ZR {t:List UInt8} {p:Nat} (h:p≤t.length):(Z07 t p).fits (p+1) t.length:=by
 unfold Z07
 split
 ·exact Gt.fits_bad
 ·have:=Z5M t p
  exact Gt.fits_ok ⟨by omega,ZaN h⟩
theorem Z2D {t:List UInt8} {p:Nat} (h:p≤t.length):(numX t p).fits (p+1) t.length:=by
 have mono:∀ {α:Type} {g:Gt α} {lo lo' hi:Nat},g.fits lo hi→lo'≤lo→g.fits lo' hi:=fun h hl a v e=>⟨Nat.le_trans hl (h a v e).1,(h a v e).2⟩
 unfold numX
 have h1:(Z19 t (if atB t p 45 then p+1 else p)).fits (p+1) t.length:=by
  unfold Z19
  by_cases hm:atB t p 45=true
  ·have:=Z00 hm
   rw [if_pos hm]
   split
   ·rename_i h0
    have:=Z00 h0
    exact Gt.fits_ok ⟨by omega,by omega⟩
   ·exact mono (ZR (by omega)) (by omega)
  ·rw [if_neg hm]
   split
   ·rename_i h0
    have:=Z00 h0
    exact Gt.fits_ok ⟨by omega,by omega⟩
   ·exact ZR h
 refine Gt.fits_bind h1 fun a _ ha1 ha2=>?_
 have h2:(Z0w t a).fits (p+1) t.length:=by
  unfold Z0w
  split
  ·rename_i h0
   have:=Z00 h0
   exact mono (ZR (by omega)) (by omega)
  ·exact Gt.fits_ok ⟨ha1,ha2⟩
 refine Gt.fits_bind h2 fun b _ hb1 hb2=>?_
 unfold Z1a
 split
 ·rename_i h0
  have hlt:b < t.length:=by
   rw [Bool.or_eq_true] at h0
   rcases h0 with h0|h0<;>exact Z00 h0
  have hs:b+1≤Z0n t (b+1)∧Z0n t (b+1)≤t.length:=by
   unfold Z0n
   split
   ·rename_i h3
    rw [Bool.or_eq_true] at h3
    have h4:b+1 < t.length:=by rcases h3 with h3|h3<;>exact Z00 h3
    omega
   ·omega
  exact mono (ZR hs.2) (by omega)
 ·exact Gt.fits_ok ⟨hb1,hb2⟩
theorem Z15 {t:List UInt8}:∀ {ws:List UInt8} {p:Nat},p≤t.length→(Z0t t p ws).fits (p+ws.length) t.length
 | [],p,h=>by unfold Z0t;exact Gt.fits_ok ⟨Nat.le_refl _,h⟩
 | w::ws,p,h=>by
  unfold Z0t
  split
  ·rename_i h0
   have:=Z00 h0
   have h1:=Z15 (t:=t) (ws:=ws) (p:=p+1) (by omega)
   intro a v e
   have:=h1 a v e
   simp only [List.length_cons]
   omega
  ·exact Gt.fits_bad
theorem Z1e {t:List UInt8} {low:Bool} {fr:Nat}:∀ {k p u:Nat},p≤t.length→(ZK t low fr k p u).fits (p+k) t.length
 | 0,p,u,h=>by unfold ZK;exact Gt.fits_ok ⟨Nat.le_refl _,h⟩
 | k+1,p,u,h=>by
  unfold ZK
  split
  ·exact Gt.fits_bad
  ·rename_i c hc
   have hlt:=(List.getElem?_eq_some_iff.1 hc).1
   split
   ·exact Gt.fits_bad
   ·split
    ·exact Gt.fits_bad
    ·intro a v e
     have:=Z1e (t:=t) (low:=low) (fr:=fr) (k:=k) (p:=p+1) (by omega) a v e
     omega
theorem Z4A {t:List UInt8} {fr p:Nat} {c:UInt8}:(Z1k t fr p c).fits (p+1) t.length:=by
 unfold Z1k
 split
 ·exact Gt.fits_bad
 ·rename_i d hd
  have hlt:=(List.getElem?_eq_some_iff.1 hd).1
  split
  ·exact Gt.fits_ok ⟨Nat.le_refl _,by omega⟩
  ·exact Gt.fits_bad
theorem Z1h {t:List UInt8} {fr:Nat}:(escX t fr).fits (fr+2) t.length:=by
 have mono:∀ {α:Type} {g:Gt α} {lo lo' hi:Nat},g.fits lo hi→lo'≤lo→g.fits lo' hi:=fun h hl a v e=>⟨Nat.le_trans hl (h a v e).1,(h a v e).2⟩
 unfold escX
 split
 ·exact Gt.fits_bad
 ·rename_i c hc
  have hlt:=(List.getElem?_eq_some_iff.1 hc).1
  split
  ·unfold Z1G
   refine Gt.fits_bind (Z1e (by omega)) fun a hi ha1 ha2=>?_
   split
   ·exact Gt.fits_ok ⟨by omega,ha2⟩
   ·refine Gt.fits_bind Z4A fun b _ hb1 hb2=>?_
    refine Gt.fits_bind Z4A fun d _ hd1 hd2=>?_
    refine Gt.fits_bind (Z1e hd2) fun e lo he1 he2=>?_
    exact Gt.fits_ok ⟨by omega,he2⟩
  ·split
   ·exact Gt.fits_ok ⟨Nat.le_refl _,by omega⟩
   ·exact Gt.fits_bad
theorem Z60 {t:List UInt8} {fr:Nat}:∀ {k p lo hi:Nat},p≤t.length→(seqX t fr k p lo hi).fits (p+k) t.length
 | 0,p,_,_,h=>by unfold seqX;exact Gt.fits_ok ⟨Nat.le_refl _,h⟩
 | k+1,p,lo,hi,h=>by
  unfold seqX
  split
  ·exact Gt.fits_bad
  ·rename_i c hc
   have hlt:=(List.getElem?_eq_some_iff.1 hc).1
   split
   ·exact Gt.fits_bad
   ·intro a v e
    have:=Z60 (t:=t) (fr:=fr) (k:=k) (p:=p+1) (by omega) a v e
    omega
theorem Z0K {t:List UInt8} {p:Nat} {c:UInt8} (h:p < t.length):(Z0G t p c).fits (p+1) t.length:=by
 unfold Z0G
 split
 ·exact Gt.fits_bad
 ·rename_i n lo hi _
  intro a v e
  have:=Z60 (t:=t) (fr:=p) (k:=n) (p:=p+1) (lo:=lo) (hi:=hi) (by omega) a v e
  omega
theorem Z1Y {t:List UInt8}:∀ {f p:Nat} {acc:List UInt8},p≤t.length→(Z0c t f p acc).fits (p+1) t.length
 | 0,p,acc,_=>by unfold Z0c;exact Gt.fits_bad
 | f+1,p,acc,h=>by
  have mono:∀ {α:Type} {g:Gt α} {lo lo' hi:Nat},g.fits lo hi→lo'≤lo→g.fits lo' hi:=fun h hl a v e=>⟨Nat.le_trans hl (h a v e).1,(h a v e).2⟩
  unfold Z0c
  split
  ·exact Gt.fits_bad
  ·rename_i c hc
   have hlt:=(List.getElem?_eq_some_iff.1 hc).1
   split
   ·exact Gt.fits_bad
   ·split
    ·exact Gt.fits_ok ⟨Nat.le_refl _,by omega⟩
    ·split
     ·exact Gt.fits_bind Z1h fun a u ha1 ha2=>mono (Z1Y ha2) (by omega)
     ·split
      ·exact mono (Z1Y (by omega)) (by omega)
      ·exact Gt.fits_bind (Z0K hlt) fun a u ha1 ha2=>mono (Z1Y ha2) (by omega)
theorem ZF {t:List UInt8} {p:Nat} (h:p≤t.length):(ZB t p).fits (p+1) t.length:=Z1Y h
theorem Z1f {wh:List UInt8→Int × Bool} {t:List UInt8} {p:Nat} {c:UInt8} (h:p < t.length):(Z0m wh t p c).fits (p+1) t.length:=by
 have mono:∀ {α:Type} {g:Gt α} {lo lo' hi:Nat},g.fits lo hi→lo'≤lo→g.fits lo' hi:=fun h hl a v e=>⟨Nat.le_trans hl (h a v e).1,(h a v e).2⟩
 unfold Z0m
 split
 ·exact Gt.fits_bind (ZF (by omega)) fun a _ h1 h2=>Gt.fits_ok ⟨by omega,h2⟩
 ·split
  ·exact Gt.fits_bind (Z2D (by omega)) fun a _ h1 h2=>Gt.fits_ok ⟨by omega,h2⟩
  ·split
   ·exact Gt.fits_bind (Z15 (by omega)) fun a _ h1 h2=>Gt.fits_ok ⟨by simp at h1;omega,h2⟩
   ·split
    ·exact Gt.fits_bind (Z15 (by omega)) fun a _ h1 h2=>Gt.fits_ok ⟨by simp at h1;omega,h2⟩
    ·split
     ·exact Gt.fits_bind (Z15 (by omega)) fun a _ h1 h2=>Gt.fits_ok ⟨by simp at h1;omega,h2⟩
     ·exact Gt.fits_bad
theorem Z6E {wh:List UInt8→Int × Bool} {t:List UInt8} {p a:Nat} {c:UInt8} {l:List Nd} (h:Z0m wh t p c=.ok a l):∃ n:Nd,l=[n]∧n.key=[]:=by
 have key:∀ {α:Type} {g:Gt α} {f:Nat→α→Nd} {a:Nat} {l:List Nd},(g.bind fun a v=>.ok a [f a v])=.ok a l→∃ b v,l=[f b v]:=fun {α g f a l} h=>by
  cases g with
  | bad c p=>cases h
  | ok b v=>cases h;exact ⟨_,_,rfl⟩
 unfold Z0m at h
 split at h
 ·obtain ⟨b,v,rfl⟩:=key h;exact ⟨_,rfl,rfl⟩
 ·split at h
  ·obtain ⟨b,v,rfl⟩:=key h;exact ⟨_,rfl,rfl⟩
  ·split at h
   ·obtain ⟨b,v,rfl⟩:=key h;exact ⟨_,rfl,rfl⟩
   ·split at h
    ·obtain ⟨b,v,rfl⟩:=key h;exact ⟨_,rfl,rfl⟩
    ·split at h
     ·obtain ⟨b,v,rfl⟩:=key h;exact ⟨_,rfl,rfl⟩
     ·cases h
/- Where the machine is led. -/
def Leads (wh:List UInt8→Int × Bool) (t:List UInt8) (c:Cf) (R:Gt Cf):Prop:=∀ f,t.length < c.p+f→match R with
 | .bad e a=>mach wh t f c=.bad e a
 | .ok _ c'=>∃ f',t.length < c'.p+f'∧mach wh t f c=mach wh t f' c'
section
variable {wh:List UInt8→Int × Bool} {t:List UInt8} {c c':Cf} {R:Gt Cf}
theorem Leads.refl {a:Nat}:Leads wh t c (.ok a c):=fun f hf=>⟨f,hf,rfl⟩
theorem Leads.trans {a:Nat} (h1:Leads wh t c (.ok a c')) (h2:Leads wh t c' R):Leads wh t c R:=fun f hf=>by
 obtain ⟨f',hf',e⟩:=h1 f hf
 have:=h2 f' hf'
 cases R with
 | bad e' a'=>exact e.trans this
 | ok a' c'' =>
  obtain ⟨f'',h3,h4⟩:=this
  exact ⟨f'',h3,e.trans h4⟩
theorem Leads.skip (h:Leads wh t { c with p:=Z3 t c.p } R):Leads wh t c R:=fun f hf=>by
 have hg:=Zp t c.p
 have h1:=h f (show t.length < Z3 t c.p+f by omega)
 have e:mach wh t f { c with p:=Z3 t c.p }=mach wh t f c:=by
  cases f with
  | zero=>rfl
  | succ f=>simp only [mach,Zq]
 cases R with
 | bad e' a'=>rw [←e];exact h1
 | ok a' c''=>rw [←e];exact h1
theorem Leads.step {ch:UInt8} (hp:c.p≤t.length) (hs:Z3 t c.p=c.p) (hc:t[c.p]?=some ch) (hst:Z2l wh t c ch=.go c') (hlt:c.p < c'.p) (h:Leads wh t c' R):Leads wh t c R:=fun f hf=>by
 have h1:=h (f - 1) (by omega)
 obtain ⟨g,rfl⟩:∃ g,f=g+1:=⟨f - 1,by omega⟩
 have e:mach wh t (g+1) c=mach wh t g c':=by
  simp only [mach,hs,hc,hst]
 cases R with
 | bad e' a'=>rw [e];exact h1
 | ok a' c''=>rw [e];exact h1
theorem Leads.stop {ch:UInt8} {e:Int} {a:Nat} (hp:c.p≤t.length) (hs:Z3 t c.p=c.p) (hc:t[c.p]?=some ch) (hst:Z2l wh t c ch=.stop e a):Leads wh t c (.bad e a):=fun f hf=>by
 obtain ⟨g,rfl⟩:∃ g,f=g+1:=⟨f - 1,by omega⟩
 simp only [mach,hs,hc,hst]
theorem Leads.none (hp:c.p≤t.length) (hs:Z3 t c.p=c.p) (hc:t[c.p]?=none) (h6:c.s≠6):Leads wh t c (.bad 31 c.p):=fun f hf=>by
 obtain ⟨g,rfl⟩:∃ g,f=g+1:=⟨f - 1,by omega⟩
 have:c.p=t.length:=by
  have:=List.getElem?_eq_none_iff.1 hc
  omega
 simp only [mach,hs,hc,if_neg h6]
 rw [this]
end
def upd (c:Cf):Gt (List Nd)→Gt Cf
 | .bad e a=>.bad e a
 | .ok a l=>.ok a { p:=a,s:=behS c.stk,out:=bump c.out c.stk++ZJ l c.key,stk:=c.stk,key:=[] }
def Z9q (wh:List UInt8→Int × Bool) (t:List UInt8) (d:Nat):Prop:=∀ c:Cf,c.stk.length+d=32→c.p≤t.length→Z3 t c.p=c.p→(c.s=0∨c.s=1∧t[c.p]?≠some 93) →
 Leads wh t c (upd c (valX wh t d c.p))∧∀ a l,valX wh t d c.p=.ok a l→c.p < a∧a≤t.length∧ZJ l []=l
theorem Z8y (o:List Nd) (hd:Nd) (items:List Nd) (nm:Option (List (List UInt8))) (stk:List (Nat × Option (List (List UInt8)))):bump (o++hd::items) ((o.length,nm)::stk)=o++hd.more::items:=by
 show (o++hd::items).modify o.length Nd.more=_
 induction o with
 | nil=>rfl
 | cons x o ih =>
  show x::(o++hd::items).modify o.length Nd.more=_
  rw [ih]
  rfl
def rowC (o:List Nd) (hd:Nd) (items:List Nd) (nm:Option (List (List UInt8))) (stk:List (Nat × Option (List (List UInt8)))) (p s:Nat) (key:List UInt8):Cf:={ p:=p,s:=s,out:=o++hd::items,stk:=(o.length,nm)::stk,key:=key }
def updR (o:List Nd) (stk:List (Nat × Option (List (List UInt8)))):Gt (List Nd)→Gt Cf
 | .bad e a=>.bad e a
 | .ok a l=>.ok a { p:=a,s:=behS stk,out:=o++l,stk:=stk,key:=[] }
theorem Z4J {wh:List UInt8→Int × Bool} {t:List UInt8} {o:List Nd} {stk:List (Nat × Option (List (List UInt8)))} {obj:Bool} {nm:Option (List (List UInt8))} {hd:Nd} {items:List Nd} {a:Nat} {again:Nat→Gt (List Nd)} (hnm:nm.isSome=obj) (ha:a≤t.length)
  (h:Z3 t a < t.length→Leads wh t (rowC o hd items nm stk (Z3 t (Z3 t a+1)) (if obj then 2 else 0) []) (updR o stk (again (Z3 t (Z3 t a+1))))) :
  Leads wh t (rowC o hd items nm stk a 5 []) (updR o stk (rowE t obj again a (hd::items))):=by
 have hq:=Zh ha
 have hqq:=Zq t a
 have htop:Z1x (((o.length,nm)::stk))=obj:=by
  cases nm with
  | none=>exact hnm
  | some x=>exact hnm
 refine Leads.skip ?_
 unfold rowE
 cases hc:t[Z3 t a]? with
 | none =>
  rw [Z3q hc,Z3q hc]
  simp only [Bool.false_eq_true,if_false,updR]
  exact Leads.none (c:=rowC o hd items nm stk (Z3 t a) 5 []) hq hqq hc (show (5:Nat)≠6 by decide)
 | some ch =>
  have h44:Z06 obj≠44:=by cases obj<;>decide
  by_cases h1:ch=Z06 obj
  ·rw [if_pos ((Z1R hc).2 h1)]
   refine Leads.step (c:=rowC o hd items nm stk (Z3 t a) 5 []) (c':={ p:=Z3 t a+1,s:=behS stk,out:=o++hd::items,stk:=stk,key:=[] }) hq hqq hc ?_ (Nat.lt_succ_self _) Leads.refl
   show morC (rowC o hd items nm stk (Z3 t a) 5 []) ch=_
   unfold morC
   rw [if_neg (by rw [h1];exact h44)]
   have:Z1x (rowC o hd items nm stk (Z3 t a) 5 []).stk=obj:=htop
   rw [this,if_pos (by rw [h1];rfl)]
   rfl
  ·rw [if_neg (fun hh=>h1 ((Z1R hc).1 hh))]
   by_cases h2:ch=44
   ·rw [if_pos ((Z1R hc).2 h2)]
    refine Leads.step (c:=rowC o hd items nm stk (Z3 t a) 5 []) (c':=rowC o hd items nm stk (Z3 t a+1) (if obj then 2 else 0) []) hq hqq hc ?_ (Nat.lt_succ_self _) (Leads.skip (h (List.getElem?_eq_some_iff.1 hc).1))
    show morC (rowC o hd items nm stk (Z3 t a) 5 []) ch=_
    unfold morC
    rw [if_pos h2]
    have:Z1x (rowC o hd items nm stk (Z3 t a) 5 []).stk=obj:=htop
    rw [this]
    rfl
   ·rw [if_neg (fun hh=>h2 ((Z1R hc).1 hh))]
    refine Leads.stop (c:=rowC o hd items nm stk (Z3 t a) 5 []) hq hqq hc ?_
    show morC (rowC o hd items nm stk (Z3 t a) 5 []) ch=_
    unfold morC
    rw [if_neg h2]
    have:Z1x (rowC o hd items nm stk (Z3 t a) 5 []).stk=obj:=htop
    have h1':¬ch=(if obj=true then 125 else 93):=h1
    rw [this,if_neg h1']
    rfl
theorem Z4I (val:Nat→Gt (List Nd)) (t:List UInt8) (obj:Bool) (k:List UInt8):∀ (f p:Nat) (names:List (List UInt8)) (hd:Nd) (items:List Nd),
  rowX val t obj f p names (hd.named k) items=(rowX val t obj f p names hd items).bind fun a l=>.ok a (ZJ l k)
 | 0,p,names,hd,items=>rfl
 | f+1,p,names,hd,items=>by
  unfold rowX
  cases hi:Z0O val t obj p names with
  | bad e a=>rfl
  | ok a g =>
   rw [show ∀ F:Nat→(List Nd × List UInt8)→Gt (List Nd),(Gt.ok a g).bind F=F a g from fun _=>rfl,show ∀ F:Nat→(List Nd × List UInt8)→Gt (List Nd),(Gt.ok a g).bind F=F a g from fun _=>rfl]
   unfold rowE
   split
   ·rfl
   ·split
    ·exact Z4I val t obj k f _ _ hd.more _
    ·rfl
theorem Z18 {wh:List UInt8→Int × Bool} {t:List UInt8} {d:Nat} (hv:Z9q wh t d) {o:List Nd} {stk:List (Nat × Option (List (List UInt8)))} (hl:stk.length+1+d=32) (obj:Bool):∀ (f p:Nat) (names ns:List (List UInt8)) (hd:Nd) (items:List Nd) (s:Nat),(∀ x,x∈ns↔x∈names)→t.length < p+f→p≤t.length→Z3 t p=p →
  (obj=true∧(s=2∨s=3∧t[p]?≠some 125)∨obj=false∧(s=0∨s=1∧t[p]?≠some 93)) →
  Leads wh t (rowC o hd items (if obj then some ns else none) stk p s []) (updR o stk (rowX (valX wh t d) t obj f p names hd items))∧∀ a l,rowX (valX wh t d) t obj f p names hd items=.ok a l→p < a∧a≤t.length∧(hd.key=[]→ZJ l []=l)
 | 0,p,names,ns,hd,items,s,_,hf,hp,_,_=>by omega
 | f+1,p,names,ns,hd,items,s,hns,hf,hp,hsk,hs=>by
  have hend:∀ (a:Nat) (g:List Nd) (nn:List UInt8),p < a→a≤t.length→∀ a' l',rowE t obj (fun p'=>rowX (valX wh t d) t obj f p' (names++[nn]) hd.more (items++g)) a (hd.more::(items++g))=.ok a' l'→p < a'∧a'≤t.length∧(hd.key=[]→ZJ l' []=l'):=by
   intro a g nn h1 h2 a' l' h3
   have hg:=Zp t a
   have hq:=Zh h2
   unfold rowE at h3
   split at h3
   ·rename_i h4
    have:=Z00 h4
    cases h3
    refine ⟨by omega,by omega,fun hkey=>?_⟩
    show ({ hd.more with key:=[] }:Nd)::(items++g)=_
    congr 1
    cases hd
    simp only at hkey
    subst hkey
    rfl
   ·split at h3
    ·rename_i h4
     have:=Z00 h4
     have hg2:=Zp t (Z3 t a+1)
     by_cases ho:obj=true
     ·subst ho
      have:=(Z18 hv (o:=o) hl true f (Z3 t (Z3 t a+1)) (names++[nn]) (nn::ns) hd.more (items++g) 2 (fun x=>by rw [List.mem_cons,List.mem_append,List.mem_singleton,hns];exact or_comm) (by omega) (Zh (by omega)) (Zq _ _) (.inl ⟨rfl,.inl rfl⟩)).2 a' l' h3
      exact ⟨by omega,this.2⟩
     ·have ho':obj=false:=by simpa using ho
      subst ho'
      have:=(Z18 hv (o:=o) hl false f (Z3 t (Z3 t a+1)) (names++[nn]) (nn::ns) hd.more (items++g) 0 (fun x=>by rw [List.mem_cons,List.mem_append,List.mem_singleton,hns];exact or_comm) (by omega) (Zh (by omega)) (Zq _ _) (.inr ⟨rfl,.inl rfl⟩)).2 a' l' h3
      exact ⟨by omega,this.2⟩
    ·cases h3
  rcases hs with ⟨rfl,hs⟩|⟨rfl,hs⟩
  ·unfold rowX Z0O
   simp only [if_true]
   cases hc:t[p]? with
   | none =>
    rw [Z3q hc]
    simp only [Bool.false_eq_true,if_false]
    exact ⟨Leads.none (c:=rowC o hd items (some ns) stk p s []) hp hsk hc (show s≠6 by rcases hs with rfl|⟨rfl,_⟩<;>decide),fun a l h=>by cases h⟩
   | some ch =>
    have hst:Z2l wh t (rowC o hd items (some ns) stk p s []) ch=namC t (rowC o hd items (some ns) stk p s []) ch:=by
     rcases hs with rfl|⟨rfl,h3⟩
     ·rfl
     ·show (if ch=125 then _ else namC t _ ch)=_
      rw [if_neg (fun h=>h3 (by rw [hc,h]))]
    by_cases h34:ch=34
    ·rw [if_pos ((Z1R hc).2 h34)]
     have hfit:=ZF (t:=t) (p:=p+1) (by have:=(List.getElem?_eq_some_iff.1 hc).1;omega)
     cases hqx:ZB t (p+1) with
     | bad e a =>
      refine ⟨Leads.stop (c:=rowC o hd items (some ns) stk p s []) hp hsk hc ?_,fun a l h=>by cases h⟩
      rw [hst]
      show namC t _ ch=_
      unfold namC
      rw [if_pos h34]
      show (match ZB t (p+1) with | .bad e a=>_ | .ok a s=>_)=_
      rw [hqx]
     | ok a nn =>
      obtain ⟨ha1,ha2⟩:=hfit a nn hqx
      show Leads wh t _ (updR o stk (Gt.bind (if nn∈names then _ else _) _))∧∀ a' l',Gt.bind (if nn∈names then _ else _) _=.ok a' l'→_
      have hnam:namC t (rowC o hd items (some ns) stk p s []) ch=if nn∈ns then .stop 34 p else .go (rowC o hd items (some (nn::ns)) stk a 4 nn):=by
       unfold namC
       rw [if_pos h34]
       show (match ZB t (p+1) with | .bad e a=>_ | .ok a s=>_)=_
       rw [hqx]
       rfl
      by_cases hm:nn∈names
      ·rw [if_pos hm]
       refine ⟨Leads.stop (c:=rowC o hd items (some ns) stk p s []) hp hsk hc ?_,fun a l h=>by cases h⟩
       rw [hst,hnam,if_pos ((hns nn).2 hm)]
      ·rw [if_neg hm]
       have hgo:Z2l wh t (rowC o hd items (some ns) stk p s []) ch=.go (rowC o hd items (some (nn::ns)) stk a 4 nn):=by rw [hst,hnam,if_neg (fun h=>hm ((hns nn).1 h))]
       have hq:=Zh ha2
       have hqg:=Zp t a
       cases hcc:t[Z3 t a]? with
       | none =>
        rw [Z3q hcc]
        simp only [Bool.false_eq_true,if_false]
        exact ⟨Leads.step (c:=rowC o hd items (some ns) stk p s []) hp hsk hc hgo (show p < a by omega) (Leads.skip (Leads.none (c:=rowC o hd items (some (nn::ns)) stk (Z3 t a) 4 nn) hq (Zq _ _) hcc (show (4:Nat)≠6 by decide))),fun a l h=>by cases h⟩
       | some c2 =>
        by_cases h58:c2=58
        ·rw [if_pos ((Z1R hcc).2 h58)]
         have hlt2:=(List.getElem?_eq_some_iff.1 hcc).1
         have hq2:=Zh (t:=t) (p:=Z3 t a+1) (by omega)
         have hq2g:=Zp t (Z3 t a+1)
         obtain ⟨hv1,hv2⟩:=hv (rowC o hd items (some (nn::ns)) stk (Z3 t (Z3 t a+1)) 0 nn) hl hq2 (Zq _ _) (.inl rfl)
         have hto:Leads wh t (rowC o hd items (some ns) stk p s []) (upd (rowC o hd items (some (nn::ns)) stk (Z3 t (Z3 t a+1)) 0 nn) (valX wh t d (Z3 t (Z3 t a+1)))) :=
          Leads.step (c:=rowC o hd items (some ns) stk p s []) hp hsk hc hgo (show p < a by omega) (Leads.skip (Leads.step (c:=rowC o hd items (some (nn::ns)) stk (Z3 t a) 4 nn) (c':=rowC o hd items (some (nn::ns)) stk (Z3 t a+1) 0 nn) hq (Zq _ _) hcc (by
           show (if c2=58 then Nx.go _ else _)=_
           rw [if_pos h58]
           rfl) (Nat.lt_succ_self _) (Leads.skip hv1)))
         have hv2':∀ a' l,valX wh t d (Z3 t (Z3 t a+1))=.ok a' l→Z3 t (Z3 t a+1) < a'∧a'≤t.length∧ZJ l []=l:=hv2
         cases hvx:valX wh t d (Z3 t (Z3 t a+1)) with
         | bad e a' =>
          rw [hvx] at hto
          exact ⟨hto,fun a l h=>by cases h⟩
         | ok b l =>
          rw [hvx] at hto
          obtain ⟨hb1,hb2,hb3⟩:=hv2' b l hvx
          refine ⟨Leads.trans hto ?_,hend b (ZJ l nn) nn (by omega) hb2⟩
          have hbm:({ p:=b,s:=behS (rowC o hd items (some (nn::ns)) stk (Z3 t (Z3 t a+1)) 0 nn).stk,out:=bump (rowC o hd items (some (nn::ns)) stk (Z3 t (Z3 t a+1)) 0 nn).out (rowC o hd items (some (nn::ns)) stk (Z3 t (Z3 t a+1)) 0 nn).stk++ZJ l nn,stk:=(rowC o hd items (some (nn::ns)) stk (Z3 t (Z3 t a+1)) 0 nn).stk,key:=[] }:Cf)=rowC o hd.more (items++ZJ l nn) (some (nn::ns)) stk b 5 []:=by
           show ({ p:=b,s:=5,out:=bump (o++hd::items) ((o.length,some (nn::ns))::stk)++ZJ l nn,stk:=_,key:=[] }:Cf)=_
           rw [Z8y,List.append_assoc]
           rfl
          have hres:=Z4J (wh:=wh) (t:=t) (o:=o) (stk:=stk) (obj:=true) (nm:=some (nn::ns)) (hd:=hd.more) (items:=items++ZJ l nn) (a:=b) (again:=fun p'=>rowX (valX wh t d) t true f p' (names++[nn]) hd.more (items++ZJ l nn)) rfl hb2
           (fun hbl=>by
            have hg3:=Zp t b
            have hg4:=Zp t (Z3 t b+1)
            exact (Z18 hv hl true f (Z3 t (Z3 t b+1)) (names++[nn]) (nn::ns) hd.more (items++ZJ l nn) 2 (fun x=>by rw [List.mem_cons,List.mem_append,List.mem_singleton,hns];exact or_comm) (by omega) (Zh (by omega)) (Zq _ _) (.inl ⟨rfl,.inl rfl⟩)).1)
          rw [←hbm] at hres
          exact hres
        ·rw [if_neg (fun hh=>h58 ((Z1R hcc).1 hh))]
         refine ⟨Leads.step (c:=rowC o hd items (some ns) stk p s []) hp hsk hc hgo (show p < a by omega) (Leads.skip (Leads.stop (c:=rowC o hd items (some (nn::ns)) stk (Z3 t a) 4 nn) hq (Zq _ _) hcc ?_)),fun a l h=>by cases h⟩
         show (if c2=58 then Nx.go _ else Nx.stop 31 (Z3 t a))=_
         rw [if_neg h58]
    ·rw [if_neg (fun hh=>h34 ((Z1R hc).1 hh))]
     refine ⟨Leads.stop (c:=rowC o hd items (some ns) stk p s []) hp hsk hc ?_,fun a l h=>by cases h⟩
     rw [hst]
     unfold namC
     rw [if_neg h34]
     rfl
  ·unfold rowX Z0O
   simp only [Bool.false_eq_true,if_false]
   obtain ⟨hv1,hv2⟩:=hv (rowC o hd items none stk p s []) hl hp hsk hs
   have hv2':∀ a' l,valX wh t d p=.ok a' l→p < a'∧a'≤t.length∧ZJ l []=l:=hv2
   have hv1':Leads wh t (rowC o hd items none stk p s []) (upd (rowC o hd items none stk p s []) (valX wh t d p)):=hv1
   cases hvx:valX wh t d p with
   | bad e a' =>
    rw [hvx] at hv1'
    exact ⟨hv1',fun a l h=>by cases h⟩
   | ok b l =>
    rw [hvx] at hv1'
    obtain ⟨hb1,hb2,hb3⟩:=hv2' b l hvx
    refine ⟨Leads.trans hv1' ?_,hend b l [] (by omega) hb2⟩
    have hbm:({ p:=b,s:=behS (rowC o hd items none stk p s []).stk,out:=bump (rowC o hd items none stk p s []).out (rowC o hd items none stk p s []).stk++ZJ l (rowC o hd items none stk p s []).key,stk:=(rowC o hd items none stk p s []).stk,key:=[] }:Cf)=rowC o hd.more (items++l) none stk b 5 []:=by
     show ({ p:=b,s:=5,out:=bump (o++hd::items) ((o.length,none)::stk)++ZJ l [],stk:=_,key:=[] }:Cf)=_
     rw [Z8y,List.append_assoc,hb3]
     rfl
    have hres:=Z4J (wh:=wh) (t:=t) (o:=o) (stk:=stk) (obj:=false) (nm:=none) (hd:=hd.more) (items:=items++l) (a:=b) (again:=fun p'=>rowX (valX wh t d) t false f p' (names++[[]]) hd.more (items++l)) rfl hb2
     (fun hbl=>by
      have hg3:=Zp t b
      have hg4:=Zp t (Z3 t b+1)
      exact (Z18 hv hl false f (Z3 t (Z3 t b+1)) (names++[[]]) ([]::ns) hd.more (items++l) 0 (fun x=>by rw [List.mem_cons,List.mem_append,List.mem_singleton,hns];exact or_comm) (by omega) (Zh (by omega)) (Zq _ _) (.inr ⟨rfl,.inl rfl⟩)).1)
    rw [←hbm] at hres
    exact hres
theorem Z7P {wh:List UInt8→Int × Bool} {t:List UInt8} {c:Cf} {ch:UInt8} (hp:c.p≤t.length) (hs:Z3 t c.p=c.p) (hc:t[c.p]?=some ch) (hst:Z2l wh t c ch=valC wh t c ch) (hb:¬(ch=91∨ch=123)) :
  Leads wh t c (upd c (Z0m wh t c.p ch))∧∀ a l,Z0m wh t c.p ch=.ok a l→c.p < a∧a≤t.length∧ZJ l []=l:=by
 have hlt:=(List.getElem?_eq_some_iff.1 hc).1
 have hfit:=Z1f (wh:=wh) (c:=ch) hlt
 have hv:valC wh t c ch=(match Z0m wh t c.p ch with
  | .bad e a=>.stop e a
  | .ok a l=>.go (Cf.behind (Cf.lay { c with p:=a } (l.headD (nd 0))))):=by
  unfold valC
  rw [if_neg hb]
 cases hx:Z0m wh t c.p ch with
 | bad e a =>
  refine ⟨Leads.stop hp hs hc ?_,fun a l h=>by cases h⟩
  rw [hst,hv,hx]
 | ok a l =>
  obtain ⟨h1,h2⟩:=hfit a l hx
  obtain ⟨n,rfl,hk⟩:=Z6E hx
  refine ⟨Leads.step hp hs hc (c':=Cf.behind (Cf.lay { c with p:=a } n)) ?_ (show c.p < a by omega) Leads.refl,fun a' l' h=>?_⟩
  ·rw [hst,hv,hx]
   rfl
  ·cases h
   refine ⟨by omega,h2,?_⟩
   show [({ n with key:=[] }:Nd)]=[n]
   cases n
   simp only at hk
   subst hk
   rfl
theorem Zc3 (wh:List UInt8→Int × Bool) (t:List UInt8):∀ d,Z9q wh t d:=by
 intro d
 induction d with
 | zero =>
  intro c hl hp hs hst
  have hs6:c.s≠6:=by rcases hst with h|⟨h,_⟩<;>omega
  rw [valX]
  cases hc:t[c.p]? with
  | none=>exact ⟨Leads.none hp hs hc hs6,fun a l h=>by cases h⟩
  | some ch =>
   have hstep:Z2l wh t c ch=valC wh t c ch:=by
    obtain ⟨p,s,out,stk,key⟩:=c
    rcases hst with h|⟨h,h3⟩
    ·simp only at h
     subst h
     rfl
    ·simp only at h
     subst h
     show (if ch=93 then _ else valC wh t _ ch)=_
     rw [if_neg (fun e=>h3 (by rw [←e];exact hc))]
   by_cases hb:ch=91∨ch=123
   ·simp only [hb,if_true]
    refine ⟨Leads.stop hp hs hc ?_,fun a l h=>by cases h⟩
    rw [hstep,valC,if_pos hb,begC,if_pos (by omega)]
   ·simp only [hb,if_false]
    exact Z7P hp hs hc hstep hb
 | succ d ih =>
  intro c hl hp hs hst
  have hs6:c.s≠6:=by rcases hst with h|⟨h,_⟩<;>omega
  rw [valX]
  cases hc:t[c.p]? with
  | none=>exact ⟨Leads.none hp hs hc hs6,fun a l h=>by cases h⟩
  | some ch =>
   have hlt:=(List.getElem?_eq_some_iff.1 hc).1
   have hstep:Z2l wh t c ch=valC wh t c ch:=by
    obtain ⟨p,s,out,stk,key⟩:=c
    rcases hst with h|⟨h,h3⟩
    ·simp only at h
     subst h
     rfl
    ·simp only at h
     subst h
     show (if ch=93 then _ else valC wh t _ ch)=_
     rw [if_neg (fun e=>h3 (by rw [←e];exact hc))]
   by_cases hb:ch=91∨ch=123
   ·simp only [hb,if_true]
    have hq:=Zh (t:=t) (p:=c.p+1) (by omega)
    have hqg:=Zp t (c.p+1)
    have key:∀ (obj:Bool) (k:Int) (s1:Nat),Z2l wh t c ch=.go (rowC (bump c.out c.stk) ((nd k).named c.key) [] (if obj then some [] else none) c.stk (c.p+1) s1 [])→(s1=if obj then 3 else 1) →
      Leads wh t c (upd c (if atB t (Z3 t (c.p+1)) (Z06 obj) then .ok (Z3 t (c.p+1)+1) [nd k] else rowX (valX wh t d) t obj (t.length+1) (Z3 t (c.p+1)) [] (nd k) [])) ∧
      ∀ a l,(if atB t (Z3 t (c.p+1)) (Z06 obj) then .ok (Z3 t (c.p+1)+1) [nd k] else rowX (valX wh t d) t obj (t.length+1) (Z3 t (c.p+1)) [] (nd k) [])=.ok a l→c.p < a∧a≤t.length∧ZJ l []=l:=by
     intro obj k s1 hgo hs1
     by_cases hcl:atB t (Z3 t (c.p+1)) (Z06 obj)=true
     ·rw [if_pos hcl]
      have hlt2:=Z00 hcl
      refine ⟨Leads.step hp hs hc hgo (Nat.lt_succ_self _) (Leads.skip (Leads.step (c:=rowC (bump c.out c.stk) ((nd k).named c.key) [] (if obj then some [] else none) c.stk (Z3 t (c.p+1)) s1 []) (ch:=Z06 obj) (c':={ p:=Z3 t (c.p+1)+1,s:=behS c.stk,out:=bump c.out c.stk++[(nd k).named c.key],stk:=c.stk,key:=[] }) hq (Zq _ _) ?_ ?_ (Nat.lt_succ_self _) Leads.refl)),fun a l h=>?_⟩
      ·unfold atB at hcl
       exact eq_of_beq hcl
      ·subst hs1
       cases obj<;>rfl
      ·cases h
       exact ⟨by omega,by omega,rfl⟩
     ·rw [if_neg hcl]
      have hcl':t[Z3 t (c.p+1)]?≠some (Z06 obj):=fun h=>hcl (by unfold atB;rw [h];simp)
      have hcond:(obj=true∧(s1=2∨s1=3∧t[Z3 t (c.p+1)]?≠some 125)∨obj=false∧(s1=0∨s1=1∧t[Z3 t (c.p+1)]?≠some 93)):=by
       cases obj
       ·exact .inr ⟨rfl,.inr ⟨hs1,hcl'⟩⟩
       ·exact .inl ⟨rfl,.inr ⟨hs1,hcl'⟩⟩
      have h1:=(Z18 ih (o:=bump c.out c.stk) (stk:=c.stk) (by omega) obj (t.length+1) (Z3 t (c.p+1)) [] [] ((nd k).named c.key) [] s1 (fun _=>Iff.rfl) (by omega) hq (Zq _ _) hcond).1
      have h2:=(Z18 ih (o:=bump c.out c.stk) (stk:=c.stk) (by omega) obj (t.length+1) (Z3 t (c.p+1)) [] [] (nd k) [] s1 (fun _=>Iff.rfl) (by omega) hq (Zq _ _) hcond).2
      rw [Z4I] at h1
      generalize rowX (valX wh t d) t obj (t.length+1) (Z3 t (c.p+1)) [] (nd k) []=R at h1 h2 ⊢
      have h3:=Leads.step hp hs hc hgo (Nat.lt_succ_self _) (Leads.skip h1)
      refine ⟨?_,fun a l h=>?_⟩
      ·cases R<;>exact h3
      ·obtain ⟨h4,h5,h6⟩:=h2 a l h
       exact ⟨by omega,h5,h6 rfl⟩
    by_cases h123:ch=123
    ·have:=key true 7 3 (by
      rw [hstep,valC,if_pos hb,begC,if_neg (by omega)]
      simp only [h123,if_true]
      rfl) rfl
     simpa only [h123,if_true,decide_true] using this
    ·have:=key false 6 1 (by
      rw [hstep,valC,if_pos hb,begC,if_neg (by omega)]
      simp only [h123,if_false]
      rfl) rfl
     simpa only [h123,if_false,decide_false] using this
   ·simp only [hb,if_false]
    exact Z7P hp hs hc hstep hb
theorem Z96 {wh:List UInt8→Int × Bool} {t:List UInt8} (h:t.length≤262144):mach wh t (t.length+1) { p:=0,s:=0,out:=[],stk:=[],key:=[] }=Z05 wh t:=by
 have h1:=Leads.skip (c:={ p:=0,s:=0,out:=[],stk:=[],key:=[] }) (Zc3 wh t 32 { p:=Z3 t 0,s:=0,out:=[],stk:=[],key:=[] } rfl (Zh (Nat.zero_le _)) (Zq _ _) (.inl rfl)).1
 have h2:=(Zc3 wh t 32 { p:=Z3 t 0,s:=0,out:=[],stk:=[],key:=[] } rfl (Zh (Nat.zero_le _)) (Zq _ _) (.inl rfl)).2
 have h3:=h1 (t.length+1) (show t.length < 0+(t.length+1) by omega)
 simp only at h2 h3
 unfold Z05
 rw [if_neg (by omega)]
 cases hv:valX wh t 32 (Z3 t 0) with
 | bad e a =>
  rw [hv] at h3
  exact h3
 | ok a l =>
  rw [hv] at h3
  obtain ⟨_,h5,h6⟩:=h2 a l hv
  obtain ⟨f',h7,h8⟩:=h3
  rw [h8]
  have h7':t.length < a+f':=h7
  obtain ⟨g,rfl⟩:∃ g,f'=g+1:=⟨f' - 1,by omega⟩
  have hq:=Zh h5
  show mach wh t (g+1) { p:=a,s:=6,out:=[]++ZJ l [],stk:=[],key:=[] }=_
  rw [h6,List.nil_append]
  simp only [mach,Gt.bind]
  by_cases hlt:Z3 t a < t.length
  ·rw [if_pos hlt,List.getElem?_eq_getElem hlt]
   rfl
  ·rw [if_neg hlt,List.getElem?_eq_none (by omega)]
   rfl
end Sg
/- Nodes in a row that stand for values: forests; what has been read from a text is one value. -/
namespace Sg
inductive Fo:Nat→List Nd→Prop
 | nil:Fo 0 []
 | node {n:Nd} {m k:Nat} {a b:List Nd}:n.kids=(m:Int)→Fo m a→Fo k b→Fo (k+1) (n::(a++b))
theorem Fo.app {j:Nat} {a:List Nd} (h:Fo j a) {k:Nat} {b:List Nd} (hb:Fo k b):Fo (j+k) (a++b):=by
 induction h with
 | nil=>simpa using hb
 | @node n m i x y hn hx _ _ ih =>
  have:=Fo.node (n:=n) hn hx ih
  rw [List.cons_append,List.append_assoc,show i+1+k=i+k+1 by omega]
  exact this
theorem Fo.one {n:Nd} {m:Nat} {a:List Nd} (hn:n.kids=(m:Int)) (ha:Fo m a):Fo 1 (n::a):=by
 have:=Fo.node hn ha Fo.nil
 simpa using this
theorem Fo.one_inv {l:List Nd} (h:Fo 1 l):∃ (n:Nd) (m:Nat) (a:List Nd),l=n::a∧n.kids=(m:Int)∧Fo m a:=by
 cases h with
 | node hn ha hb =>
  cases hb
  exact ⟨_,_,_,by simp,hn,ha⟩
theorem Fo.le {k:Nat} {l:List Nd} (h:Fo k l):k≤l.length:=by
 induction h with
 | nil=>exact Nat.le_refl _
 | node _ _ _ _ ih=>simp only [List.length_cons,List.length_append];omega
theorem Fo.list {k:Nat} {l:List Nd} (h:Fo k l):∃ xs:List (List Nd),xs.length=k∧l=xs.flatten∧∀ x∈xs,Fo 1 x:=by
 induction h with
 | nil=>exact ⟨[],rfl,rfl,fun x hx=>by cases hx⟩
 | @node n m i x y hn hx _ _ ih =>
  obtain ⟨xs,h1,h2,h3⟩:=ih
  refine ⟨(n::x)::xs,by simp [h1],by simp [h2],fun z hz=>?_⟩
  rcases List.mem_cons.1 hz with rfl|hz
  ·exact Fo.one hn hx
  ·exact h3 z hz
theorem Fo.of:∀ {xs:List (List Nd)},(∀ x∈xs,Fo 1 x)→Fo xs.length xs.flatten
 | [],_=>Fo.nil
 | x::r,h=>by
  have h1:=Fo.app (h x (List.mem_cons_self ..)) (Fo.of fun y hy=>h y (List.mem_cons_of_mem _ hy))
  rw [List.flatten_cons,List.length_cons,show r.length+1=1+r.length by omega]
  exact h1
theorem Fo.kids_le {k:Nat} {l:List Nd} (h:Fo k l):∀ n∈l,n.kids < (l.length:Int):=by
 induction h with
 | nil=>intro n hn;cases hn
 | node hn ha _ ih1 ih2 =>
  have:=ha.le
  intro x hx
  simp only [List.length_cons,List.length_append]
  rcases List.mem_cons.1 hx with rfl|hx
  ·omega
  ·rcases List.mem_append.1 hx with hx|hx
   ·have:=ih1 x hx;omega
   ·have:=ih2 x hx;omega
theorem Fo.named {l:List Nd} (h:Fo 1 l) (k:List UInt8):Fo 1 (ZJ l k):=by
 obtain ⟨n,m,a,rfl,h1,h2⟩:=h.one_inv
 exact Fo.one (n:=n.named k) h1 h2
theorem Z8m {wh:List UInt8→Int × Bool} {t:List UInt8} {p a:Nat} {c:UInt8} {l:List Nd} (h:Z0m wh t p c=.ok a l):Fo 1 l:=by
 have key:∀ {α β:Type} {g:Gt α} {f:Nat→α→Gt β} {b:Nat} {y:β},(g.bind f=.ok b y)→∃ a v,g=.ok a v∧f a v=.ok b y:=fun {α β g f b y} h=>by
  cases g with
  | bad c' b'=>cases h
  | ok a v=>exact ⟨a,v,rfl,h⟩
 unfold Z0m at h
 repeat' split at h
 all_goals first
  | (obtain ⟨b,v,-,h⟩:=key h;cases h;exact Fo.one (m:=0) rfl .nil)
  | cases h
def RowFo (hd:Nd) (out:List Nd):Prop:=∃ m:Nat,hd.kids=(m:Int)∧Fo m out
theorem RowFo.add {hd:Nd} {out l:List Nd} (h:RowFo hd out) (hl:Fo 1 l):RowFo hd.more (out++l):=by
 obtain ⟨m,h1,h2⟩:=h
 refine ⟨m+1,?_,h2.app hl⟩
 simp only [Nd.more,h1]
 omega
theorem Zd2 {val:Nat→Gt (List Nd)} (hv:∀ {p a l},val p=.ok a l→Fo 1 l) {t:List UInt8} {obj:Bool} {p a:Nat} {names:List (List UInt8)} {g:List Nd × List UInt8} (h:Z0O val t obj p names=.ok a g):Fo 1 g.1:=by
 have key:∀ {α β:Type} {g:Gt α} {f:Nat→α→Gt β} {b:Nat} {y:β},(g.bind f=.ok b y)→∃ a v,g=.ok a v∧f a v=.ok b y:=fun {α β g f b y} h=>by
  cases g with
  | bad c' b'=>cases h
  | ok a v=>exact ⟨a,v,rfl,h⟩
 unfold Z0O at h
 split at h
 ·split at h
  ·obtain ⟨b,s,-,h⟩:=key h
   split at h
   ·cases h
   ·split at h
    ·obtain ⟨d,v,h1,h⟩:=key h
     cases h
     exact (hv h1).named _
    ·cases h
  ·cases h
 ·obtain ⟨d,v,h1,h⟩:=key h
  cases h
  exact hv h1
theorem Zc7 {val:Nat→Gt (List Nd)} (hv:∀ {p a l},val p=.ok a l→Fo 1 l) {t:List UInt8} {obj:Bool}:∀ {f p a:Nat} {names:List (List UInt8)} {hd:Nd} {out l:List Nd},rowX val t obj f p names hd out=.ok a l→RowFo hd out→Fo 1 l
 | 0,p,a,names,hd,out,l,h,_=>by rw [rowX] at h;cases h
 | f+1,p,a,names,hd,out,l,h,hr=>by
  rw [rowX] at h
  cases hi:Z0O val t obj p names with
  | bad c b=>rw [hi] at h;cases h
  | ok b g =>
   rw [hi] at h
   have hg:=Zd2 hv hi
   have hr2:=hr.add hg
   have h':rowE t obj (fun p'=>rowX val t obj f p' (names++[g.2]) hd.more (out++g.1)) b (hd.more::(out++g.1))=.ok a l:=h
   unfold rowE at h'
   split at h'
   ·cases h'
    obtain ⟨m,h1,h2⟩:=hr2
    exact Fo.one h1 h2
   ·split at h'
    ·exact Zc7 hv h' hr2
    ·cases h'
theorem Z9A {wh:List UInt8→Int × Bool} {t:List UInt8}:∀ {d p a:Nat} {l:List Nd},valX wh t d p=.ok a l→Fo 1 l:=by
 intro d
 induction d with
 | zero =>
  intro p a l h
  rw [valX] at h
  split at h
  ·cases h
  ·split at h
   ·cases h
   ·exact Z8m h
 | succ d ih =>
  intro p a l h
  rw [valX] at h
  split at h
  ·cases h
  ·split at h
   ·rename_i c hc hb
    have h':(if atB t (Z3 t (p+1)) (Z06 (decide (c=123)))=true then Gt.ok (Z3 t (p+1)+1) [nd (if c=123 then 7 else 6)] else rowX (valX wh t d) t (decide (c=123)) (t.length+1) (Z3 t (p+1)) [] (nd (if c=123 then 7 else 6)) [])=Gt.ok a l:=h
    split at h'
    ·cases h'
     exact Fo.one (m:=0) rfl .nil
    ·exact Zc7 ih h' ⟨0,rfl,.nil⟩
   ·exact Z8m h
theorem Z5z {wh:List UInt8→Int × Bool} {t:List UInt8} {a:Nat} {l:List Nd} (h:Z05 wh t=.ok a l):Fo 1 l:=by
 unfold Z05 at h
 split at h
 ·cases h
 ·cases hv:valX wh t 32 (Z3 t 0) with
  | bad c b=>rw [hv] at h;cases h
  | ok b v =>
   rw [hv] at h
   have h':(if Z3 t b < t.length then Gt.bad 31 (Z3 t b) else .ok (Z3 t b) v)=.ok a l:=h
   split at h'
   ·cases h'
   ·cases h'
    exact Z9A hv
def offs:Nat→List (List Nd)→List Nat
 | _,[]=>[]
 | p,x::r=>p::offs (p+x.length) r
theorem Z0g:∀ (p:Nat) (xs:List (List Nd)),(offs p xs).length=xs.length
 | _,[]=>rfl
 | p,x::r=>by simp [offs,Z0g]
def Z2 (x:List Nd):Nd:=match x with
 | n::_=>n
 | []=>nd 0
def Z3P (p:Nat) (xs:List (List Nd)) (key:List UInt8):Int:=match xs with
 | [] => -1
 | x::r=>if (Z2 x).key=key then (p:Int) else Z3P (p+x.length) r key
end Sg
/- What has been read from a text: how long it is, its texts and kinds. -/
namespace Sg
theorem Zo {α β:Type} {g:Gt α} {f:Nat→α→Gt β} {b:Nat} {y:β} (h:g.bind f=.ok b y):∃ a v,g=.ok a v∧f a v=.ok b y:=by
 cases g with
 | bad c' b'=>cases h
 | ok a v=>exact ⟨a,v,rfl,h⟩
theorem Zcu (u:Nat):(utfL u).length≤4:=by
 unfold utfL
 split
 ·exact (show 1≤4 by decide)
 ·split
  ·exact (show 2≤4 by decide)
  ·split
   ·exact (show 3≤4 by decide)
   ·exact Nat.le_refl 4
theorem Z1X {t:List UInt8}:∀ {f p a:Nat} {acc s:List UInt8},p≤t.length→Z0c t f p acc=.ok a s→acc.length≤4*p→s.length≤4*a
 | 0,p,a,acc,s,_,h,_=>by rw [Z0c] at h;cases h
 | f+1,p,a,acc,s,hp,h,hl=>by
  rw [Z0c] at h
  split at h
  ·cases h
  ·rename_i c hc
   have hlt:p < t.length:=(List.getElem?_eq_some_iff.1 hc).1
   split at h
   ·cases h
   ·split at h
    ·cases h
     omega
    ·split at h
     ·obtain ⟨b,u,h1,h2⟩:=Zo h
      have h3:=Z1h b u h1
      have h4:=Zcu u
      exact Z1X h3.2 h2 (by rw [List.length_append];omega)
     ·split at h
      ·exact Z1X hlt h (by rw [List.length_append,List.length_singleton];omega)
      ·obtain ⟨b,u,h1,h2⟩:=Zo h
       have h3:=Z0K hlt b u h1
       exact Z1X h3.2 h2 (by rw [List.length_append,List.length_take,List.length_drop];omega)
theorem Z3J {t:List UInt8} {p a:Nat} {s:List UInt8} (hp:p≤t.length) (h:ZB t p=.ok a s):s.length≤4*t.length:=by
 have h1:=Z1X hp h (by simp)
 have h2:=(ZF hp a s h).2
 omega
structure NdOk (B:Nat) (n:Nd):Prop where
 text:n.text.length≤B
 key:n.key.length≤B
 kind:1≤n.kind∧n.kind≤7
theorem ZbM {wh:List UInt8→Int × Bool} {t:List UInt8} {p a:Nat} {c:UInt8} {l:List Nd} (hp:p < t.length) (h:Z0m wh t p c=.ok a l):∀ n∈l,NdOk (4*t.length) n:=by
 unfold Z0m at h
 split at h
 ·obtain ⟨b,s,h1,h⟩:=Zo h
  cases h
  intro n hn
  rw [List.mem_singleton.1 hn]
  exact ⟨Z3J hp h1,Nat.zero_le _,(show (1:Int)≤5 by decide),(show (5:Int)≤7 by decide)⟩
 ·split at h
  ·obtain ⟨b,s,h1,h⟩:=Zo h
   cases h
   intro n hn
   rw [List.mem_singleton.1 hn]
   refine ⟨?_,Nat.zero_le _,(show (1:Int)≤4 by decide),(show (4:Int)≤7 by decide)⟩
   simp only
   unfold sl
   rw [List.length_take,List.length_drop]
   omega
  ·repeat' split at h
   all_goals first
    | (obtain ⟨b,v,-,h⟩:=Zo h;cases h;intro n hn;rw [List.mem_singleton.1 hn];exact ⟨Nat.zero_le _,Nat.zero_le _,by decide,by decide⟩)
    | cases h
def Z7L (t:List UInt8) (p a:Nat) (l:List Nd):Prop:=p+l.length≤a∧a≤t.length∧(∀ n∈l,NdOk (4*t.length) n)
theorem Z1H (l:List Nd) (k:List UInt8):(ZJ l k).length=l.length:=by cases l<;>rfl
theorem ZbC {B:Nat} {l:List Nd} {k:List UInt8} (h:∀ n∈l,NdOk B n) (hk:k.length≤B):∀ n∈ZJ l k,NdOk B n:=by
 cases l with
 | nil=>exact h
 | cons x r =>
  intro n hn
  rcases List.mem_cons.1 hn with rfl|hn
  ·have:=h x (List.mem_cons_self ..)
   exact ⟨this.text,hk,this.kind⟩
  ·exact h n (List.mem_cons_of_mem _ hn)
theorem Zax {val:Nat→Gt (List Nd)} {t:List UInt8} (hv:∀ {p a l},p≤t.length→val p=.ok a l→Z7L t p a l) {obj:Bool} {p a:Nat} {names:List (List UInt8)} {g:List Nd × List UInt8} (hp:p≤t.length) (h:Z0O val t obj p names=.ok a g):Z7L t p a g.1∧g.2.length≤4*t.length:=by
 unfold Z0O at h
 split at h
 ·split at h
  ·rename_i hq
   have hlt:=Z00 hq
   obtain ⟨b,s,h1,h⟩:=Zo h
   have hf:=ZF (t:=t) (p:=p+1) hlt b s h1
   have hs:=Z3J (t:=t) (p:=p+1) hlt h1
   split at h
   ·cases h
   ·split at h
    ·rename_i hc
     have hlt2:=Z00 hc
     have h2:=Zp t b
     have h3:=Zp t (Z3 t b+1)
     have h4:=Zh (t:=t) (p:=Z3 t b+1) hlt2
     obtain ⟨d,v,h5,h⟩:=Zo h
     cases h
     obtain ⟨h6,h7,h8⟩:=hv h4 h5
     exact ⟨⟨by rw [Z1H];omega,h7,ZbC h8 hs⟩,hs⟩
    ·cases h
  ·cases h
 ·obtain ⟨d,v,h1,h⟩:=Zo h
  cases h
  exact ⟨hv hp h1,Nat.zero_le _⟩
theorem Zc6 {val:Nat→Gt (List Nd)} {t:List UInt8} (hv:∀ {p a l},p≤t.length→val p=.ok a l→Z7L t p a l) {obj:Bool} {s:Nat}:∀ {f p a:Nat} {names:List (List UInt8)} {hd:Nd} {out l:List Nd},rowX val t obj f p names hd out=.ok a l→p≤t.length→s+1+out.length≤p→NdOk (4*t.length) hd→(∀ n∈out,NdOk (4*t.length) n)→Z7L t s a l
 | 0,p,a,names,hd,out,l,h,_,_,_,_=>by rw [rowX] at h;cases h
 | f+1,p,a,names,hd,out,l,h,hp,hl,hh,ho=>by
  rw [rowX] at h
  cases hi:Z0O val t obj p names with
  | bad c b=>rw [hi] at h;cases h
  | ok b g =>
   rw [hi] at h
   obtain ⟨⟨g1,g2,g3⟩,-⟩:=Zax hv hp hi
   have hh2:NdOk (4*t.length) hd.more:=⟨hh.text,hh.key,hh.kind⟩
   have ho2:∀ n∈out++g.1,NdOk (4*t.length) n:=fun n hn=>(List.mem_append.1 hn).elim (ho n) (g3 n)
   have h':rowE t obj (fun p'=>rowX val t obj f p' (names++[g.2]) hd.more (out++g.1)) b (hd.more::(out++g.1))=.ok a l:=h
   unfold rowE at h'
   have hb:=Zp t b
   split at h'
   ·rename_i hc
    have hlt:=Z00 hc
    cases h'
    refine ⟨?_,by omega,fun n hn=>(List.mem_cons.1 hn).elim (fun e=>e ▸ hh2) (ho2 n)⟩
    rw [List.length_cons,List.length_append]
    omega
   ·split at h'
    ·rename_i hc
     have hlt:=Z00 hc
     have h3:=Zp t (Z3 t b+1)
     have h4:=Zh (t:=t) (p:=Z3 t b+1) hlt
     exact Zc6 hv h' h4 (by rw [List.length_append];omega) hh2 ho2
    ·cases h'
theorem ZdA {B:Nat} {k:Int} (h:1≤k∧k≤7):NdOk B (nd k):=⟨Nat.zero_le _,Nat.zero_le _,h⟩
theorem Z9z {wh:List UInt8→Int × Bool} {t:List UInt8}:∀ {d p a:Nat} {l:List Nd},p≤t.length→valX wh t d p=.ok a l→Z7L t p a l:=by
 have flat:∀ {p a:Nat} {l:List Nd} {c:UInt8},t[p]?=some c→Z0m wh t p c=.ok a l→Z7L t p a l:=by
  intro p a l c hc h
  have hlt:p < t.length:=(List.getElem?_eq_some_iff.1 hc).1
  have h1:=Z1f hlt a l h
  obtain ⟨n,h2,-⟩:=Z6E h
  refine ⟨?_,h1.2,ZbM hlt h⟩
  rw [h2,List.length_singleton]
  omega
 intro d
 induction d with
 | zero =>
  intro p a l hp h
  rw [valX] at h
  split at h
  ·cases h
  ·rename_i hc
   split at h
   ·cases h
   ·exact flat hc h
 | succ d ih =>
  intro p a l hp h
  rw [valX] at h
  split at h
  ·cases h
  ·rename_i c hc
   have hlt:p < t.length:=(List.getElem?_eq_some_iff.1 hc).1
   have hk:(1:Int)≤(if c=123 then 7 else 6)∧(if c=123 then 7 else 6:Int)≤7:=by split<;>decide
   split at h
   ·have h':(if atB t (Z3 t (p+1)) (Z06 (decide (c=123)))=true then Gt.ok (Z3 t (p+1)+1) [nd (if c=123 then 7 else 6)] else rowX (valX wh t d) t (decide (c=123)) (t.length+1) (Z3 t (p+1)) [] (nd (if c=123 then 7 else 6)) [])=Gt.ok a l:=h
    clear h
    have h:=h'
    clear h'
    have h3:=Zp t (p+1)
    have h4:=Zh (t:=t) (p:=p+1) hlt
    split at h
    ·rename_i hq
     have hlt2:=Z00 hq
     cases h
     refine ⟨by rw [List.length_singleton];omega,by omega,fun n hn=>?_⟩
     rw [List.mem_singleton.1 hn]
     exact ZdA hk
    ·exact Zc6 ih h h4 (by simp only [List.length_nil];omega) (ZdA hk) (fun n hn=>by cases hn)
   ·exact flat hc h
theorem Z5y {wh:List UInt8→Int × Bool} {t:List UInt8} {a:Nat} {l:List Nd} (h:Z05 wh t=.ok a l):l.length≤t.length∧(∀ n∈l,NdOk (4*t.length) n)∧t.length≤262144:=by
 unfold Z05 at h
 split at h
 ·cases h
 ·obtain ⟨b,v,hv,h⟩:=Zo h
  split at h
  ·cases h
  ·cases h
   obtain ⟨h1,h2,h3⟩:=Z9z (Zh (Nat.zero_le _)) hv
   exact ⟨by omega,h3,by omega⟩
end Sg
/- Faults of what is read from a text are never 0; a list's names are not asked. -/
namespace Sg
def Gt.named {α:Type} (g:Gt α):Prop:=∀ c b,g=.bad c b→c≠0
theorem Gt.named_bad {α:Type} {c:Int} {b:Nat} (h:c≠0):(Gt.bad c b:Gt α).named:=fun _ _ e=>by cases e;exact h
theorem Gt.named_ok {α:Type} {a:Nat} {v:α}:(Gt.ok a v).named:=fun _ _ e=>by cases e
theorem Gt.named_bind {α β:Type} {g:Gt α} {f:Nat→α→Gt β} (h:g.named) (hf:∀ a v,g=.ok a v→(f a v).named):(g.bind f).named:=fun c b e=>by
 cases g with
 | bad c' b'=>cases e;exact h _ _ rfl
 | ok a v=>exact hf a v rfl c b e
theorem Z2o {t:List UInt8} {p:Nat}:(Z07 t p).named:=by
 unfold Z07
 split
 ·exact Gt.named_bad (by decide)
 ·exact Gt.named_ok
theorem Z6k {t:List UInt8} {p:Nat}:(Z19 t p).named:=by
 unfold Z19
 split
 ·exact Gt.named_ok
 ·exact Z2o
theorem Z8Y {t:List UInt8} {p:Nat}:(numX t p).named:=by
 unfold numX
 refine Gt.named_bind Z6k fun a _ _=>Gt.named_bind ?_ fun b _ _=>?_
 ·unfold Z0w
  split
  ·exact Z2o
  ·exact Gt.named_ok
 ·unfold Z1a
  split
  ·exact Z2o
  ·exact Gt.named_ok
theorem Z1j {t:List UInt8}:∀ {ws:List UInt8} {p:Nat},(Z0t t p ws).named
 | [],p=>Gt.named_ok
 | w::ws,p=>by
  rw [Z0t]
  split
  ·exact Z1j
  ·exact Gt.named_bad (by decide)
theorem Z2n {t:List UInt8} {low:Bool} {fr:Nat}:∀ {k p u:Nat},(ZK t low fr k p u).named
 | 0,p,u=>Gt.named_ok
 | k+1,p,u=>by
  rw [ZK]
  split
  ·exact Gt.named_bad (by decide)
  ·split
   ·exact Gt.named_bad (by decide)
   ·split
    ·exact Gt.named_bad (by decide)
    ·exact Z2n
theorem Z3z {t:List UInt8} {fr p:Nat} {c:UInt8}:(Z1k t fr p c).named:=by
 unfold Z1k
 split
 ·exact Gt.named_bad (by decide)
 ·split
  ·exact Gt.named_ok
  ·exact Gt.named_bad (by decide)
theorem Z9e {t:List UInt8} {fr:Nat}:(escX t fr).named:=by
 unfold escX
 split
 ·exact Gt.named_bad (by decide)
 ·split
  ·unfold Z1G
   refine Gt.named_bind Z2n fun a v _=>?_
   split
   ·exact Gt.named_ok
   ·exact Gt.named_bind Z3z fun _ _ _=>Gt.named_bind Z3z fun _ _ _=>Gt.named_bind Z2n fun _ _ _=>Gt.named_ok
  ·split
   ·exact Gt.named_ok
   ·exact Gt.named_bad (by decide)
theorem Z4C {t:List UInt8} {fr:Nat}:∀ {k p lo hi:Nat},(seqX t fr k p lo hi).named
 | 0,p,lo,hi=>Gt.named_ok
 | k+1,p,lo,hi=>by
  rw [seqX]
  split
  ·exact Gt.named_bad (by decide)
  ·split
   ·exact Gt.named_bad (by decide)
   ·exact Z4C
theorem Z71 {t:List UInt8} {p:Nat} {c:UInt8}:(Z0G t p c).named:=by
 unfold Z0G
 split
 ·exact Gt.named_bad (by decide)
 ·exact Z4C
theorem Z1o {t:List UInt8}:∀ {f p:Nat} {acc:List UInt8},p≤t.length→t.length < p+f→(Z0c t f p acc).named
 | 0,p,acc,h1,h2=>by omega
 | f+1,p,acc,h1,h2=>by
  rw [Z0c]
  split
  ·exact Gt.named_bad (by decide)
  ·rename_i c hc
   have hlt:p < t.length:=(List.getElem?_eq_some_iff.1 hc).1
   split
   ·exact Gt.named_bad (by decide)
   ·split
    ·exact Gt.named_ok
    ·split
     ·refine Gt.named_bind Z9e fun a v hv=>?_
      have:=Z1h a v hv
      exact Z1o this.2 (by omega)
     ·split
      ·exact Z1o hlt (by omega)
      ·refine Gt.named_bind Z71 fun a v hv=>?_
       have:=Z0K hlt a v hv
       exact Z1o this.2 (by omega)
theorem Z0V {t:List UInt8} {p:Nat} (h:p≤t.length):(ZB t p).named:=Z1o h (by omega)
theorem Z44 {wh:List UInt8→Int × Bool} {t:List UInt8} {p:Nat} {c:UInt8} (h:p < t.length):(Z0m wh t p c).named:=by
 unfold Z0m
 split
 ·exact Gt.named_bind (Z0V h) fun _ _ _=>Gt.named_ok
 ·split
  ·exact Gt.named_bind Z8Y fun _ _ _=>Gt.named_ok
  ·split
   ·exact Gt.named_bind Z1j fun _ _ _=>Gt.named_ok
   ·split
    ·exact Gt.named_bind Z1j fun _ _ _=>Gt.named_ok
    ·split
     ·exact Gt.named_bind Z1j fun _ _ _=>Gt.named_ok
     ·exact Gt.named_bad (by decide)
structure ValR (t:List UInt8) (val:Nat→Gt (List Nd)):Prop where
 fits:∀ p,p≤t.length→(val p).fits (p+1) t.length
 sz:∀ {p a l},p≤t.length→val p=.ok a l→Z7L t p a l
 fo:∀ {p a l},val p=.ok a l→Fo 1 l
 named:∀ p,p≤t.length→(val p).named
theorem Z3Y {val:Nat→Gt (List Nd)} {t:List UInt8} (hv:ValR t val) {obj:Bool} {p:Nat} {names:List (List UInt8)} (hp:p≤t.length):(Z0O val t obj p names).fits (p+1) t.length:=by
 unfold Z0O
 split
 ·split
  ·rename_i hq
   have hlt:=Z00 hq
   refine Gt.fits_bind (ZF (t:=t) (p:=p+1) hlt) fun b s h1 h2=>?_
   split
   ·exact Gt.fits_bad
   ·split
    ·rename_i hc
     have hlt2:=Z00 hc
     have h3:=Zp t b
     have h4:=Zp t (Z3 t b+1)
     have h5:=Zh (t:=t) (p:=Z3 t b+1) hlt2
     intro a v h
     obtain ⟨d,l,h6,h7⟩:=Zo h
     cases h7
     have:=hv.fits _ h5 _ _ h6
     omega
    ·exact Gt.fits_bad
  ·exact Gt.fits_bad
 ·intro a v h
  obtain ⟨d,l,h6,h7⟩:=Zo h
  cases h7
  exact hv.fits _ hp _ _ h6
theorem Z4Y {val:Nat→Gt (List Nd)} {t:List UInt8} (hv:ValR t val) {obj:Bool} {p:Nat} {names:List (List UInt8)} (hp:p≤t.length):(Z0O val t obj p names).named:=by
 unfold Z0O
 split
 ·split
  ·rename_i hq
   have hlt:=Z00 hq
   refine Gt.named_bind (Z0V (t:=t) (p:=p+1) hlt) fun b s h1=>?_
   split
   ·exact Gt.named_bad (by decide)
   ·split
    ·rename_i hc
     have hlt2:=Z00 hc
     exact Gt.named_bind (hv.named _ (Zh (t:=t) (p:=Z3 t b+1) hlt2)) fun _ _ _=>Gt.named_ok
    ·exact Gt.named_bad (by decide)
  ·exact Gt.named_bad (by decide)
 ·exact Gt.named_bind (hv.named _ hp) fun _ _ _=>Gt.named_ok
theorem Z65 {val:Nat→Gt (List Nd)} {t:List UInt8} (hv:ValR t val) {obj:Bool}:∀ {f p:Nat} {names:List (List UInt8)} {hd:Nd} {out:List Nd},p≤t.length→t.length < p+f→(rowX val t obj f p names hd out).named
 | 0,p,names,hd,out,h1,h2=>by omega
 | f+1,p,names,hd,out,h1,h2=>by
  rw [rowX]
  refine Gt.named_bind (Z4Y hv h1) fun a g hg=>?_
  have h3:=Z3Y hv h1 a g hg
  unfold rowE
  split
  ·exact Gt.named_ok
  ·split
   ·rename_i hc
    have hlt:=Z00 hc
    have h4:=Zp t a
    have h5:=Zp t (Z3 t a+1)
    have h6:=Zh (t:=t) (p:=Z3 t a+1) hlt
    exact Z65 hv h6 (by omega)
   ·exact Gt.named_bad (by decide)
theorem Z7Z {val:Nat→Gt (List Nd)} {t:List UInt8} (hv:ValR t val) {obj:Bool}:∀ {f p:Nat} {names:List (List UInt8)} {hd:Nd} {out:List Nd},p≤t.length→(rowX val t obj f p names hd out).fits (p+1) t.length
 | 0,p,names,hd,out,h1=>by rw [rowX];exact Gt.fits_bad
 | f+1,p,names,hd,out,h1=>by
  rw [rowX]
  refine Gt.fits_bind (Z3Y hv h1) fun a g h3 h4=>?_
  have h5:=Zp t a
  unfold rowE
  split
  ·rename_i hc
   have hlt:=Z00 hc
   exact Gt.fits_ok (by omega)
  ·split
   ·rename_i hc
    have hlt:=Z00 hc
    have h6:=Zp t (Z3 t a+1)
    have h7:=Zh (t:=t) (p:=Z3 t a+1) hlt
    intro b v h
    have:=Z7Z hv h7 b v h
    omega
   ·exact Gt.fits_bad
theorem Z5f {wh:List UInt8→Int × Bool} {t:List UInt8}:∀ d,ValR t (valX wh t d):=by
 intro d
 induction d with
 | zero =>
  refine ⟨fun p hp=>?_,Z9z,Z9A,fun p hp=>?_⟩
  ·rw [valX]
   split
   ·exact Gt.fits_bad
   ·rename_i c hc
    split
    ·exact Gt.fits_bad
    ·exact Z1f (List.getElem?_eq_some_iff.1 hc).1
  ·rw [valX]
   split
   ·exact Gt.named_bad (by decide)
   ·rename_i c hc
    split
    ·exact Gt.named_bad (by decide)
    ·exact Z44 (List.getElem?_eq_some_iff.1 hc).1
 | succ d ih =>
  refine ⟨fun p hp=>?_,Z9z,Z9A,fun p hp=>?_⟩
  ·rw [valX]
   split
   ·exact Gt.fits_bad
   ·rename_i c hc
    have hlt:p < t.length:=(List.getElem?_eq_some_iff.1 hc).1
    split
    ·simp only
     have h3:=Zp t (p+1)
     have h4:=Zh (t:=t) (p:=p+1) hlt
     split
     ·rename_i hq
      have hlt2:=Z00 hq
      exact Gt.fits_ok (by omega)
     ·intro a v h
      have:=Z7Z ih h4 a v h
      omega
    ·exact Z1f hlt
  ·rw [valX]
   split
   ·exact Gt.named_bad (by decide)
   ·rename_i c hc
    have hlt:p < t.length:=(List.getElem?_eq_some_iff.1 hc).1
    split
    ·simp only
     have h4:=Zh (t:=t) (p:=p+1) hlt
     split
     ·exact Gt.named_ok
     ·exact Z65 ih h4 (by omega)
    ·exact Z44 hlt
theorem Z4O {wh:List UInt8→Int × Bool} {t:List UInt8} {c:Int} {b:Nat} (h:Z05 wh t=.bad c b):c≠0:=by
 unfold Z05 at h
 split at h
 ·cases h
  decide
 ·cases hv:valX wh t 32 (Z3 t 0) with
  | bad c' b' =>
   rw [hv] at h
   cases h
   exact (Z5f (wh:=wh) (t:=t) 32).named _ (Zh (Nat.zero_le _)) _ _ hv
  | ok a v =>
   rw [hv] at h
   have h':(if Z3 t a < t.length then Gt.bad 31 (Z3 t a) else .ok (Z3 t a) v)=.bad c b:=h
   split at h'
   ·cases h'
    decide
   ·cases h'
end Sg
/- Where the values in a list or an object stand. -/
namespace Sg
theorem Z9g {α:Type} {v a b:List α} {p:Nat} (h:v.drop p=a++b):v.drop (p+a.length)=b:=by
 rw [←List.drop_drop,h,List.drop_left]
theorem Z2W {α:Type} {v a b:List α} {p:Nat} (h:v.drop p=a++b) (ha:0 < a.length):p+a.length+b.length=v.length:=by
 have:=congrArg List.length h
 rw [List.length_drop,List.length_append] at this
 omega
theorem Z0e [Inhabited Nd] {v b:List Nd} {n:Nd} {p:Nat} (h:v.drop p=n::b):v.getD p default=n∧p < v.length:=by
 have h1:p < v.length:=by
  rcases Nat.lt_or_ge p v.length with h1|h1
  ·exact h1
  ·rw [List.drop_eq_nil_of_le h1] at h
   cases h
 rw [List.drop_eq_getElem_cons h1] at h
 injection h with h2 _
 exact ⟨by simp [List.getD,h1,h2],h1⟩
theorem Fo.pos {l:List Nd} (h:Fo 1 l):0 < l.length:=h.le
theorem Zaa (p:Nat) (x:List Nd) (r:List (List Nd)):offs p (x::r)=p::offs (p+x.length) r:=rfl
theorem Z3N:∀ (p:Nat) (xs:List (List Nd)) (x:List Nd),offs p (xs++[x])=offs p xs++[p+xs.flatten.length]
 | p,[],x=>by simp [offs]
 | p,y::r,x=>by
  rw [List.cons_append,offs,offs,Z3N]
  simp [Nat.add_assoc]
theorem Z1Z:∀ {p:Nat} {xs:List (List Nd)} {i:Nat},i < xs.length→(offs p xs).getD i 0=p+(xs.take i).flatten.length
 | p,x::r,0,_=>by simp [offs]
 | p,x::r,i+1,h=>by
  have:=Z1Z (p:=p+x.length) (xs:=r) (i:=i) (by simpa using h)
  rw [offs,List.getD_cons_succ,this,List.take_succ_cons,List.flatten_cons,List.length_append,Nat.add_assoc]
theorem Z2Q (p:Nat) (x:List Nd) (r:List (List Nd)) (key:List UInt8):Z3P p (x::r) key=if (Z2 x).key=key then (p:Int) else Z3P (p+x.length) r key:=rfl
structure At (v:List Nd) (p:Nat) (n:Nd) (xs:List (List Nd)) (r:List Nd):Prop where
 drop:v.drop p=n::(xs.flatten++r)
 kids:n.kids=(xs.length:Int)
 fo:∀ x∈xs,Fo 1 x
theorem At.of_fo {v x r:List Nd} {p:Nat} (h:v.drop p=x++r) (hx:Fo 1 x):∃ n xs,x=n::xs.flatten∧At v p n xs r:=by
 obtain ⟨n,m,a,rfl,h1,h2⟩:=hx.one_inv
 obtain ⟨xs,h3,rfl,h4⟩:=h2.list
 exact ⟨n,xs,rfl,⟨by simpa using h,by rw [h1,h3],h4⟩⟩
theorem At.kid {v r:List Nd} {p i:Nat} {n:Nd} {xs:List (List Nd)} (h:At v p n xs r) (hi:i < xs.length):v.drop (p+1+(xs.take i).flatten.length)=xs[i]++((xs.drop (i+1)).flatten++r):=by
 have h1:v.drop (p+1)=xs.flatten++r:=by
  rw [←List.drop_drop,h.drop]
  rfl
 have h2:xs.flatten=(xs.take i).flatten++(xs.drop i).flatten:=by rw [←List.flatten_append,List.take_append_drop]
 rw [h2,List.append_assoc] at h1
 rw [Z9g h1,List.drop_eq_getElem_cons hi,List.flatten_cons,List.append_assoc]
theorem Z09 {xs:List (List Nd)} {i:Nat} (hi:i < xs.length):(xs.take (i+1)).flatten.length=(xs.take i).flatten.length+xs[i].length:=by
 rw [List.take_succ_eq_append_getElem hi,List.flatten_append,List.length_append]
 simp only [List.flatten_cons,List.flatten_nil,List.append_nil]
end Sg
/- Values in a row of nodes, reckoned: how far a value goes, what stands in it, its members. -/
namespace Sg
def runL:List Nd→Nat→Nat
 | _,0=>0
 | [],_+1=>0
 | n::r,k+1=>1+runL r (k+n.kids.toNat)
def Z7S:Nat→List Nd→List (List Nd)
 | 0,_=>[]
 | k+1,l=>l.take (runL l 1)::Z7S k (l.drop (runL l 1))
def Z0C (v:List Nd) (p:Nat):Nd:=match v[p]? with
 | some n=>n
 | none=>nd 0
def kidsOf (v:List Nd) (p:Nat):List (List Nd):=Z7S (Z0C v p).kids.toNat (v.drop (p+1))
theorem ZcK {k:Nat} {x:List Nd} (h:Fo k x):∀ (r:List Nd) (j:Nat),runL (x++r) (k+j)=x.length+runL r j:=by
 induction h with
 | nil=>intro r j;simp
 | @node n m i a b hn ha hb ih1 ih2 =>
  intro r j
  rw [List.cons_append,show i+1+j=(i+j)+1 by omega,runL,hn]
  have h1:((m:Int)).toNat=m:=by omega
  rw [h1,List.append_assoc,show i+j+m=m+(i+j) by omega,ih1,ih2]
  simp only [List.length_cons,List.length_append]
  omega
theorem Zbl {x:List Nd} (h:Fo 1 x) (r:List Nd):runL (x++r) 1=x.length:=by
 have:=ZcK h r 0
 simpa [runL] using this
theorem Z5W:∀ {xs:List (List Nd)} (r:List Nd),(∀ x∈xs,Fo 1 x)→Z7S xs.length (xs.flatten++r)=xs
 | [],r,_=>rfl
 | x::xs,r,h=>by
  have h1:=Zbl (h x (List.mem_cons_self ..)) (xs.flatten++r)
  rw [List.length_cons,Z7S,List.flatten_cons,List.append_assoc,h1,List.take_left,List.drop_left,Z5W r fun y hy=>h y (List.mem_cons_of_mem _ hy)]
theorem Zai {v b:List Nd} {p:Nat} {n:Nd} (h:v.drop p=n::b):Z0C v p=n:=by
 have:Inhabited Nd:=⟨nd 0⟩
 obtain ⟨h1,h2⟩:=Z0e h
 unfold Z0C
 rw [List.getElem?_eq_getElem h2]
 simpa [List.getD,h2] using h1
theorem Z4 [Inhabited Nd] {v:List Nd} {p:Nat} (h:p < v.length):Z0C v p=v.getD p default:=by
 unfold Z0C
 rw [List.getElem?_eq_getElem h]
 simp [List.getD,h]
theorem At.node {v r:List Nd} {p:Nat} {n:Nd} {xs:List (List Nd)} (h:At v p n xs r):Z0C v p=n:=Zai h.drop
theorem At.lt {v r:List Nd} {p:Nat} {n:Nd} {xs:List (List Nd)} (h:At v p n xs r):p < v.length:=by
 have:Inhabited Nd:=⟨nd 0⟩
 exact (Z0e h.drop).2
theorem At.kidsOf {v r:List Nd} {p:Nat} {n:Nd} {xs:List (List Nd)} (h:At v p n xs r):kidsOf v p=xs:=by
 unfold Sg.kidsOf
 have h1:v.drop (p+1)=xs.flatten++r:=by
  rw [←List.drop_drop,h.drop]
  rfl
 have h2:((xs.length:Nat):Int).toNat=xs.length:=by omega
 rw [h.node,h.kids,h1,h2,Z5W r h.fo]
def IsAt (v:List Nd) (p:Nat):Prop:=∃ r,At v p (Z0C v p) (kidsOf v p) r
theorem At.is {v r:List Nd} {p:Nat} {n:Nd} {xs:List (List Nd)} (h:At v p n xs r):IsAt v p:=⟨r,by rw [h.node,h.kidsOf];exact h⟩
theorem IsAt.lt {v:List Nd} {p:Nat} (h:IsAt v p):p < v.length:=h.choose_spec.lt
def memI (v:List Nd) (p:Nat) (key:List UInt8):Int:=if (Z0C v p).kind=7 then Z3P (p+1) (kidsOf v p) key else -1
theorem At.kidIs {v r:List Nd} {p i:Nat} {n:Nd} {xs:List (List Nd)} (h:At v p n xs r) (hi:i < xs.length):IsAt v (p+1+(xs.take i).flatten.length):=by
 obtain ⟨n2,xs2,-,h2⟩:=At.of_fo (h.kid hi) (h.fo _ (List.getElem_mem hi))
 exact h2.is
theorem IsAt.of_fo {v:List Nd} (h:Fo 1 v):IsAt v 0:=by
 obtain ⟨n,xs,-,h2⟩:=At.of_fo (v:=v) (p:=0) (x:=v) (r:=[]) (by simp) h
 exact h2.is
theorem IsAt.kids_len {v:List Nd} {p:Nat} (h:IsAt v p):(Z0C v p).kids=((Sg.kidsOf v p).length:Int)∧(Sg.kidsOf v p).length < v.length:=by
 obtain ⟨r,h⟩:=h
 refine ⟨h.kids,?_⟩
 have h1:=(Fo.of h.fo).le
 have h2:=congrArg List.length h.drop
 simp only [List.length_drop,List.length_cons,List.length_append] at h2
 omega
end Sg
/- What a payload with hidden parts reveals, in plain Lean: values by going down, each disclosure opened where its digest is met first. -/
namespace Sg
structure Said where
 dig:List UInt8
 name:List UInt8
 member:Bool
 value:List Nd
abbrev Dg:=List UInt8
def sdN:List UInt8:=[95,115,100]
def Z0o:List UInt8:=[46,46,46]
def algN:List UInt8:=[95,115,100,95,97,108,103]
def Zi (L:List Said) (d:Dg):Option Said:=L.find? fun s=>s.dig==d
def memV (x:List Nd) (key:List UInt8):Option (List Nd):=if (Z2 x).kind=7 then (kidsOf x 0).find? fun y=>(Z2 y).key==key else none
abbrev RevV:=List Dg→List Nd→List UInt8→Option (List Dg × List Nd)
def Zg (val:RevV) (L:List Said):List Dg→List (List Nd)→List (List Nd)→Option (List Dg × List (List Nd))
 | met,ys,[]=>some (met,ys)
 | met,ys,x::r=>match memV x Z0o with
  | none=>match val met x [] with
   | none=>none
   | some (m,y)=>Zg val L m (ys++[y]) r
  | some k=>if (Z2 x).kids=1∧(Z2 k).kind=5 then
    match Zi L (Z2 k).text with
    | none=>Zg val L (met++[(Z2 k).text]) ys r
    | some s=>if s.member=true then none else if (Z2 k).text∈met then Zg val L (met++[(Z2 k).text]) ys r else
     match val (met++[(Z2 k).text]) s.value [] with
     | none=>none
     | some (m,y)=>Zg val L m (ys++[y]) r
   else none
def Z8 (val:RevV) (top:Bool):List Dg→List (List Nd)→List (List Nd)→Option (List Dg × List (List Nd))
 | met,ys,[]=>some (met,ys)
 | met,ys,x::r=>if (Z2 x).key=sdN then Z8 val top met ys r else if top=true∧(Z2 x).key=algN then Z8 val top met ys r else
  match val met x (Z2 x).key with
  | none=>none
  | some (m,y)=>Z8 val top m (ys++[y]) r
def Zf (val:RevV) (L:List Said):List Dg→List (List UInt8)→List (List Nd)→List (List Nd)→Option (List Dg × List (List Nd))
 | met,_,ys,[]=>some (met,ys)
 | met,ns,ys,x::r=>if (Z2 x).kind=5 then
   match Zi L (Z2 x).text with
   | none=>Zf val L (met++[(Z2 x).text]) ns ys r
   | some s=>if s.member=true∧s.name∉ns then
     if (Z2 x).text∈met then Zf val L (met++[(Z2 x).text]) (ns++[s.name]) ys r else
     match val (met++[(Z2 x).text]) s.value s.name with
     | none=>none
     | some (m,y)=>Zf val L m (ns++[s.name]) (ys++[y]) r
    else none
  else none
def Z0P (xs:List (List Nd)):Option (List Nd):=(xs.filter fun x=>(Z2 x).key==sdN).getLast?
def Zx (xs:List (List Nd)):List (List UInt8):=(xs.map fun x=>(Z2 x).key).filter fun k=>!(k==sdN)
def rowN (kind:Int) (key:List UInt8) (ys:List (List Nd)):List Nd:=⟨kind,key,[],false,0,ys.length⟩::ys.flatten
def Nd.key_ (n:Nd) (key:List UInt8):Nd:={ n with key:=key }
def revV:Nat→List Said→Bool→RevV
 | 0,_,_=>fun _ _ _=>none
 | f+1,L,top=>fun met x key =>
  if (Z2 x).kind=7 then
   match memV x Z0o with
   | some _=>none
   | none=>match Z8 (revV f L false) top met [] (kidsOf x 0) with
    | none=>none
    | some (m,ys)=>match Z0P (kidsOf x 0) with
     | none=>some (m,rowN 7 key ys)
     | some h=>if (Z2 h).kind=6 then
       match Zf (revV f L false) L m (Zx (kidsOf x 0)) ys (kidsOf h 0) with
       | none=>none
       | some (m',zs)=>some (m',rowN 7 key zs)
      else none
  else if (Z2 x).kind=6 then
   match Zg (revV f L false) L met [] (kidsOf x 0) with
   | none=>none
   | some (m,ys)=>some (m,rowN 6 key ys)
  else some (met,[(Z2 x).key_ key])
def Vl (x:List Nd):Prop:=Fo 1 x∧∀ n∈x,n.kind≠6→n.kind≠7→n.kids=0
theorem Vl.kids {x:List Nd} (h:Vl x):∀ y∈kidsOf x 0,Vl y:=by
 obtain ⟨n,xs,h1,h2⟩:=At.of_fo (v:=x) (p:=0) (x:=x) (r:=[]) (by simp) h.1
 rw [h2.kidsOf]
 subst h1
 exact fun y hy=>⟨h2.fo y hy,fun m hm=>h.2 m (List.mem_cons_of_mem _ (List.mem_flatten.2 ⟨y,hy,hm⟩))⟩
def pend (L:List Said) (met:List Dg):Nat:=(L.map fun s=>if s.dig∈met then 0 else s.value.length+1).sum
structure Books (L:List Said) (x:Nat) (met m:List Dg) (y:Nat):Prop where
 grow:∃ r,m=met++r
 size:y+m.length+pend L m≤x+met.length+pend L met
theorem ZP (L:List Said) (met r:List Dg):pend L (met++r)≤pend L met:=by
 unfold pend
 induction L with
 | nil=>exact Nat.le_refl _
 | cons s L ih =>
  simp only [List.map_cons,List.sum_cons]
  have:(if s.dig∈met++r then 0 else s.value.length+1)≤(if s.dig∈met then 0 else s.value.length+1):=by
   by_cases h:s.dig∈met
   ·rw [if_pos (List.mem_append_left _ h),if_pos h]
    exact Nat.le_refl _
   ·rw [if_neg h]
    split<;>omega
  omega
theorem Zl {L:List Said} {d:Dg} {s:Said} (h:Zi L d=some s):s∈L∧s.dig=d:=by
 refine ⟨List.mem_of_find?_eq_some h,?_⟩
 have:=List.find?_some h
 simpa using this
theorem Z0N {L:List Said} {met:List Dg} {s:Said} (hs:s∈L) (hm:s.dig∉met):s.value.length+1+pend L (met++[s.dig])≤pend L met:=by
 unfold pend
 induction L with
 | nil=>cases hs
 | cons t L ih =>
  simp only [List.map_cons,List.sum_cons]
  have hmono:=ZP L met [s.dig]
  unfold pend at hmono
  have hle:(if t.dig∈met++[s.dig] then 0 else t.value.length+1)≤(if t.dig∈met then 0 else t.value.length+1):=by
   by_cases h:t.dig∈met
   ·rw [if_pos (List.mem_append_left _ h),if_pos h]
    exact Nat.le_refl _
   ·rw [if_neg h]
    split<;>omega
  rcases List.mem_cons.1 hs with rfl|hs
  ·rw [if_pos (by simp),if_neg hm]
   omega
  ·have:=ih hs
   omega
theorem Zu {x:List Nd} (hx:Fo 1 x):(kidsOf x 0).flatten.length+1=x.length∧(∀ y∈kidsOf x 0,Fo 1 y)∧x=Z2 x::(kidsOf x 0).flatten∧(Z2 x).kids=((kidsOf x 0).length:Int):=by
 obtain ⟨n,xs,h1,h2⟩:=At.of_fo (v:=x) (p:=0) (x:=x) (r:=[]) (by simp) hx
 rw [h2.kidsOf]
 subst h1
 exact ⟨by simp,h2.fo,rfl,h2.kids⟩
theorem Z5 (x:List Nd) (r:List (List Nd)):(x::r).flatten.length=x.length+r.flatten.length:=by simp
theorem ZD (ys:List (List Nd)) (y:List Nd):(ys++[y]).flatten.length=ys.flatten.length+y.length:=by simp
def Keeps (val:RevV) (L:List Said) (n:Nat):Prop:=∀ met x key m y,Vl x→x.length+pend L met < n→val met x key=some (m,y)→Books L x.length met m y.length∧Vl y
theorem Books.comp {L:List Said} {x x':Nat} {met m m':List Dg} {y y':Nat} (h:Books L x met m y) (h':Books L x' m m' y'):Books L (x+x') met m' (y+y'):=by
 obtain ⟨⟨r,rfl⟩,h2⟩:=h
 obtain ⟨⟨r',rfl⟩,h4⟩:=h'
 exact ⟨⟨r++r',by simp⟩,by omega⟩
theorem Books.more {L:List Said} {x x':Nat} {met m:List Dg} {y:Nat} (h:Books L x met m y) (hx:x≤x'):Books L x' met m y:=⟨h.grow,by have:=h.size;omega⟩
theorem Books.refl (L:List Said) (x:Nat) (met:List Dg):Books L x met met 0:=⟨⟨[],by simp⟩,by omega⟩
theorem Books.meet (L:List Said) (met:List Dg) (d:Dg):Books L 1 met (met++[d]) 0:=⟨⟨[d],rfl⟩,by have:=ZP L met [d];rw [List.length_append,List.length_singleton];omega⟩
theorem Books.open_ {L:List Said} {met m:List Dg} {s:Said} {y:Nat} (hs:s∈L) (hm:s.dig∉met) (h:Books L s.value.length (met++[s.dig]) m y):Books L 0 met m y:=by
 obtain ⟨⟨r,rfl⟩,h2⟩:=h
 have:=Z0N hs hm
 rw [show (met++[s.dig]).length=met.length+[s.dig].length from List.length_append ..,List.length_singleton] at h2
 exact ⟨⟨[s.dig]++r,by simp⟩,by omega⟩
theorem Z2U {val:RevV} {L:List Said} {n:Nat} (hv:Keeps val L n) (hL:∀ s∈L,Vl s.value):∀ (r:List (List Nd)) (met:List Dg) (ys:List (List Nd)) (m:List Dg) (zs:List (List Nd)),(∀ y∈r,Vl y)→(∀ y∈ys,Vl y)→r.flatten.length+pend L met < n →
  Zg val L met ys r=some (m,zs)→(∃ us,zs=ys++us∧Books L r.flatten.length met m us.flatten.length)∧∀ y∈zs,Vl y
 | [],met,ys,m,zs,_,hy,_,h=>by
  rw [Zg] at h
  cases h
  exact ⟨⟨[],by simp,.refl ..⟩,hy⟩
 | x::r,met,ys,m,zs,hr,hy,hn,h=>by
  have hx:=hr x (List.mem_cons_self ..)
  have hr':∀ y∈r,Vl y:=fun y h=>hr y (List.mem_cons_of_mem _ h)
  rw [Z5] at hn ⊢
  have hp:∀ d,pend L (met++[d])≤pend L met:=fun d=>ZP L met [d]
  have step:∀ {b y m1},Books L b met m1 y.length→b≤x.length→Vl y→Zg val L m1 (ys++[y]) r=some (m,zs)→(∃ us,zs=ys++us∧Books L (x.length+r.flatten.length) met m us.flatten.length)∧∀ y∈zs,Vl y:=by
   intro b y m1 h1 hb h2 h3
   have hsz:=h1.size
   obtain ⟨r1,hr1⟩:=h1.grow
   have hml:met.length≤m1.length:=by rw [hr1,List.length_append];omega
   obtain ⟨⟨us,h4,h5⟩,h6⟩:=Z2U hv hL r m1 (ys++[y]) m zs hr' (fun z hz=>by
    rcases List.mem_append.1 hz with hz|hz
    ·exact hy z hz
    ·obtain rfl:=List.mem_singleton.1 hz
     exact h2) (by omega) h3
   refine ⟨⟨y::us,by rw [h4];simp,?_⟩,h6⟩
   rw [Z5]
   exact (h1.more hb).comp h5
  have skip:∀ {d},Zg val L (met++[d]) ys r=some (m,zs)→(∃ us,zs=ys++us∧Books L (x.length+r.flatten.length) met m us.flatten.length)∧∀ y∈zs,Vl y:=by
   intro d h3
   have:=hp d
   obtain ⟨⟨us,h4,h5⟩,h6⟩:=Z2U hv hL r (met++[d]) ys m zs hr' hy (by omega) h3
   have h7:=(Books.meet L met d).comp h5
   have hx1:=hx.1.pos
   rw [Nat.zero_add] at h7
   exact ⟨⟨us,h4,h7.more (by omega)⟩,h6⟩
  rw [Zg] at h
  split at h
  ·split at h
   ·cases h
   ·rename_i m1 y h1
    obtain ⟨h2,h3⟩:=hv met x [] m1 y hx (by omega) h1
    exact step h2 (Nat.le_refl _) h3 h
  ·rename_i k hk
   split at h
   ·split at h
    ·exact skip h
    ·rename_i s hs
     obtain ⟨hs1,hs2⟩:=Zl hs
     split at h
     ·cases h
     ·split at h
      ·exact skip h
      ·rename_i hm
       rw [←hs2] at h hm
       have ho:=Z0N hs1 hm
       split at h
       ·cases h
       ·rename_i m1 y h1
        obtain ⟨h2,h3⟩:=hv _ s.value [] m1 y (hL s hs1) (by omega) h1
        exact step (h2.open_ hs1 hm) (by omega) h3 h
   ·cases h
theorem Z0E {val:RevV} {L:List Said} {n:Nat} (hv:Keeps val L n) {top:Bool}:∀ (r:List (List Nd)) (met:List Dg) (ys:List (List Nd)) (m:List Dg) (zs:List (List Nd)),(∀ y∈r,Vl y)→(∀ y∈ys,Vl y)→r.flatten.length+pend L met < n →
  Z8 val top met ys r=some (m,zs)→(∃ us,zs=ys++us∧Books L ((r.filter fun x=>!((Z2 x).key==sdN)).flatten.length) met m us.flatten.length)∧∀ y∈zs,Vl y
 | [],met,ys,m,zs,_,hy,_,h=>by
  rw [Z8] at h
  cases h
  exact ⟨⟨[],by simp,.refl ..⟩,hy⟩
 | x::r,met,ys,m,zs,hr,hy,hn,h=>by
  have hx:=hr x (List.mem_cons_self ..)
  have hr':∀ y∈r,Vl y:=fun y h=>hr y (List.mem_cons_of_mem _ h)
  rw [Z5] at hn
  rw [Z8] at h
  split at h
  ·rename_i hk
   have hf:((x::r).filter fun x=>!((Z2 x).key==sdN))=r.filter fun x=>!((Z2 x).key==sdN):=by rw [List.filter_cons_of_neg];simp [hk]
   rw [hf]
   exact Z0E hv r met ys m zs hr' hy (by omega) h
  ·rename_i hk
   have hf:((x::r).filter fun x=>!((Z2 x).key==sdN))=x::r.filter fun x=>!((Z2 x).key==sdN):=by rw [List.filter_cons_of_pos];simp [hk]
   rw [hf,Z5]
   split at h
   ·obtain ⟨⟨us,h4,h5⟩,h6⟩:=Z0E hv r met ys m zs hr' hy (by omega) h
    exact ⟨⟨us,h4,h5.more (by omega)⟩,h6⟩
   ·split at h
    ·cases h
    ·rename_i m1 y h1
     obtain ⟨h2,h3⟩:=hv met x _ m1 y hx (by omega) h1
     have hsz:=h2.size
     obtain ⟨r1,hr1⟩:=h2.grow
     have hml:met.length≤m1.length:=by rw [hr1,List.length_append];omega
     obtain ⟨⟨us,h4,h5⟩,h6⟩:=Z0E hv r m1 (ys++[y]) m zs hr' (fun z hz=>by
      rcases List.mem_append.1 hz with hz|hz
      ·exact hy z hz
      ·obtain rfl:=List.mem_singleton.1 hz
       exact h3) (by omega) h
     refine ⟨⟨y::us,by rw [h4];simp,?_⟩,h6⟩
     rw [Z5]
     exact h2.comp h5
theorem Z25 {val:RevV} {L:List Said} {n:Nat} (hv:Keeps val L n) (hL:∀ s∈L,Vl s.value):∀ (r:List (List Nd)) (met:List Dg) (ns:List (List UInt8)) (ys:List (List Nd)) (m:List Dg) (zs:List (List Nd)),(∀ y∈r,Vl y)→(∀ y∈ys,Vl y)→pend L met < n →
  Zf val L met ns ys r=some (m,zs)→(∃ us,zs=ys++us∧Books L r.flatten.length met m us.flatten.length)∧∀ y∈zs,Vl y
 | [],met,ns,ys,m,zs,_,hy,_,h=>by
  rw [Zf] at h
  cases h
  exact ⟨⟨[],by simp,.refl ..⟩,hy⟩
 | x::r,met,ns,ys,m,zs,hr,hy,hn,h=>by
  have hx1:=(hr x (List.mem_cons_self ..)).1.pos
  have hr':∀ y∈r,Vl y:=fun y h=>hr y (List.mem_cons_of_mem _ h)
  rw [Z5]
  have hp:∀ d,pend L (met++[d])≤pend L met:=fun d=>ZP L met [d]
  have skip:∀ {d ns'},Zf val L (met++[d]) ns' ys r=some (m,zs)→(∃ us,zs=ys++us∧Books L (x.length+r.flatten.length) met m us.flatten.length)∧∀ y∈zs,Vl y:=by
   intro d ns' h3
   have:=hp d
   obtain ⟨⟨us,h4,h5⟩,h6⟩:=Z25 hv hL r (met++[d]) ns' ys m zs hr' hy (by omega) h3
   have h7:=(Books.meet L met d).comp h5
   rw [Nat.zero_add] at h7
   exact ⟨⟨us,h4,h7.more (by omega)⟩,h6⟩
  rw [Zf] at h
  split at h
  ·split at h
   ·exact skip h
   ·rename_i s hs
    obtain ⟨hs1,hs2⟩:=Zl hs
    split at h
    ·split at h
     ·exact skip h
     ·rename_i hm
      rw [←hs2] at h hm
      have ho:=Z0N hs1 hm
      split at h
      ·cases h
      ·rename_i m1 y h1
       obtain ⟨h2,h3⟩:=hv _ s.value _ m1 y (hL s hs1) (by omega) h1
       have h4:=h2.open_ hs1 hm
       have hsz:=h4.size
       obtain ⟨r1,hr1⟩:=h4.grow
       have hml:met.length≤m1.length:=by rw [hr1,List.length_append];omega
       obtain ⟨⟨us,h5,h6⟩,h7⟩:=Z25 hv hL r m1 _ (ys++[y]) m zs hr' (fun z hz=>by
        rcases List.mem_append.1 hz with hz|hz
        ·exact hy z hz
        ·obtain rfl:=List.mem_singleton.1 hz
         exact h3) (by omega) h
       refine ⟨⟨y::us,by rw [h5];simp,?_⟩,h7⟩
       rw [Z5]
       exact (h4.more (Nat.zero_le _)).comp h6
    ·cases h
  ·cases h
theorem Z75 {kind:Int} {key:List UInt8} {ys:List (List Nd)} (hk:kind=6∨kind=7) (h:∀ y∈ys,Vl y):Vl (rowN kind key ys):=⟨Fo.one (m:=ys.length) rfl (Fo.of fun y hy=>(h y hy).1),fun n hn a b=>by
 rcases List.mem_cons.1 hn with rfl|hn
 ·rcases hk with rfl|rfl
  ·exact (a rfl).elim
  ·exact (b rfl).elim
 ·obtain ⟨y,h1,h2⟩:=List.mem_flatten.1 hn
  exact (h y h1).2 n h2 a b⟩
theorem Z0Q (g:List Nd→Bool):∀ r:List (List Nd),(r.filter g).flatten.length+(r.filter fun x=>!(g x)).flatten.length=r.flatten.length
 | []=>rfl
 | x::r=>by
  have:=Z0Q g r
  rw [Z5]
  cases h:g x with
  | true=>rw [List.filter_cons_of_pos h,List.filter_cons_of_neg (by simp [h]),Z5];omega
  | false=>rw [List.filter_cons_of_neg (by simp [h]),List.filter_cons_of_pos (by simp [h]),Z5];omega
theorem ZW {x:List Nd}:∀ {r:List (List Nd)},x∈r→x.length≤r.flatten.length
 | y::r,h=>by
  rw [Z5]
  rcases List.mem_cons.1 h with rfl|h
  ·omega
  ·have:=ZW h
   omega
theorem Z1s {xs:List (List Nd)} {h:List Nd} (hx:∀ y∈xs,Vl y) (hh:Z0P xs=some h):Vl h∧(Z2 h).key=sdN∧h∈xs∧(xs.filter fun x=>!((Z2 x).key==sdN)).flatten.length+(kidsOf h 0).flatten.length+1≤xs.flatten.length:=by
 have hm:=List.mem_of_getLast? hh
 obtain ⟨h1,h2⟩:=List.mem_filter.1 hm
 have h3:=hx h h1
 have h4:=(Zu h3.1).1
 have h5:=ZW hm
 have h6:=Z0Q (fun x=>(Z2 x).key==sdN) xs
 exact ⟨h3,by simpa using h2,h1,by omega⟩
theorem Z0z (g:List Nd→Bool):∀ r:List (List Nd),(r.filter g).flatten.length≤r.flatten.length
 | []=>Nat.le_refl _
 | x::r=>by
  have:=Z0z g r
  rw [Z5]
  cases h:g x with
  | true=>rw [List.filter_cons_of_pos h,Z5];omega
  | false=>rw [List.filter_cons_of_neg (by simp [h])];omega
theorem Z0b {L:List Said} (hL:∀ s∈L,Vl s.value):∀ (f:Nat) (top:Bool),Keeps (revV f L top) L f
 | 0,top=>fun met x key m y _ h _=>by omega
 | f+1,top=>fun met x key m y hx hn h=>by
  obtain ⟨k1,-,k3,k4⟩:=Zu hx.1
  have k2:=hx.kids
  have ih:=Z0b hL f false
  rw [revV] at h
  simp only at h
  split at h
  ·split at h
   ·cases h
   ·split at h
    ·cases h
    ·rename_i m1 ys h1
     obtain ⟨⟨us,h2,h3⟩,h4⟩:=Z0E ih (kidsOf x 0) met [] m1 ys k2 (fun y hy=>by cases hy) (by omega) h1
     rw [List.nil_append] at h2
     subst h2
     have hle:=Z0z (fun x=>!((Z2 x).key==sdN)) (kidsOf x 0)
     have hsz:=h3.size
     split at h
     ·cases h
      refine ⟨⟨h3.grow,?_⟩,Z75 (by simp) h4⟩
      simp only [rowN,List.length_cons]
      omega
     ·rename_i hh hk
      split at h
      ·split at h
       ·cases h
       ·rename_i m2 zs h5
        obtain ⟨q1,-,-,q4⟩:=Z1s k2 hk
        obtain ⟨r1,hr1⟩:=h3.grow
        have hml:met.length≤m1.length:=by rw [hr1,List.length_append];omega
        obtain ⟨⟨vs,h6,h7⟩,h8⟩:=Z25 ih hL (kidsOf hh 0) m1 _ ys m2 zs q1.kids h4 (by omega) h5
        cases h
        have h9:=h3.comp h7
        refine ⟨⟨h9.grow,?_⟩,Z75 (by simp) h8⟩
        have:=h9.size
        simp only [rowN,List.length_cons,h6,List.flatten_append,List.length_append]
        omega
      ·cases h
  ·split at h
   ·split at h
    ·cases h
    ·rename_i m1 ys h1
     obtain ⟨⟨us,h2,h3⟩,h4⟩:=Z2U ih hL (kidsOf x 0) met [] m1 ys k2 (fun y hy=>by cases hy) (by omega) h1
     rw [List.nil_append] at h2
     subst h2
     cases h
     refine ⟨⟨h3.grow,?_⟩,Z75 (by simp) h4⟩
     have:=h3.size
     simp only [rowN,List.length_cons]
     omega
   ·rename_i n1 n2
    cases h
    have h0:=hx.2 (Z2 x) (by rw [k3];exact List.mem_cons_self ..) n2 n1
    refine ⟨⟨⟨[],by simp⟩,by simp;omega⟩,Fo.one (m:=0) h0 .nil,fun n hn a b=>?_⟩
    obtain rfl:=List.mem_singleton.1 hn
    exact h0
end Sg
/- Entries put into a map: what it says then, in plain Lean. -/
namespace Sg
theorem Z6K (x:List UInt8 × Int) (n:List UInt8):∀ m:Ents,(∀ p∈m,p.1≠x.1)→eget (eins x m) n=if x.1=n then some x.2 else eget m n
 | [],_=>by
  unfold eins eget
  by_cases h:x.1=n<;>simp [h]
 | q::r,hm=>by
  have hq:q.1≠x.1:=hm q (List.mem_cons_self ..)
  have ih:=Z6K x n r (fun p hp=>hm p (List.mem_cons_of_mem _ hp))
  unfold eins
  split
  ·unfold eget
   by_cases h:x.1=n
   ·simp [h]
   ·simp [h]
  ·by_cases h2:q.1=n
   ·have h3:¬x.1=n:=fun e=>hq (h2.trans e.symm)
    rw [if_neg h3]
    unfold eget
    simp [h2]
   ·have e1:∀ l:Ents,eget (q::l) n=eget l n:=fun l=>by
     unfold eget
     simp [h2]
    rw [e1,e1,ih]
theorem ZaM (k n:List UInt8) (m:Ents) (h:k≠n):eget (edel m k) n=eget m n:=by
 unfold eget edel
 induction m with
 | nil=>rfl
 | cons q r ih =>
  by_cases hq:q.1=k
  ·have:¬q.1=n:=fun e=>h (hq.symm.trans e)
   rw [List.filter_cons_of_neg (by simp [hq]),ih]
   simp [this]
  ·rw [List.filter_cons_of_pos (by simp [hq])]
   by_cases h2:q.1=n
   ·simp [h2]
   ·rw [List.find?_cons_of_neg (by simp [h2]),List.find?_cons_of_neg (by simp [h2]),ih]
theorem Z1t (m:Ents) (k n:List UInt8) (v:Int):eget (eput m k v) n=if k=n then some v else eget m n:=by
 unfold eput
 rw [Z6K (k,v) n (edel m k) (fun p hp=>by
  unfold edel at hp
  rw [List.mem_filter] at hp
  simpa using hp.2)]
 by_cases h:k=n
 ·rw [if_pos h,if_pos h]
 ·rw [if_neg h,if_neg h]
  exact ZaM k n m h
theorem Z46 (x:List UInt8 × Int):∀ m:Ents,(eins x m).length=m.length+1
 | []=>rfl
 | q::r=>by
  unfold eins
  split
  ·rfl
  ·rw [List.length_cons,Z46 x r]
   rfl
theorem Z0R (m:Ents) (k:List UInt8) (v:Int):(eput m k v).length≤m.length+1:=by
 unfold eput
 rw [Z46]
 have:(edel m k).length≤m.length:=List.length_filter_le _ _
 omega
end Sg
