/- Texts put together by a program: JsnP JsnM Tree TreeB TreeC TreeD TreeE RevP. -/
import Derived.Test.YtophlopiigpbgaaGreatDoorCore
set_option linter.unusedVariables false
set_option linter.unusedSimpArgs false
/- JSON in plain Lean: words of a text, each with its end or its fault; values by going down; and a machine with a stack; both say the same. -/
namespace Sg
structure Nd where
 kind:Int
 key:List UInt8
 text:List UInt8
 whole:Bool
 int:Int
 kids:Int
inductive Gt (α:Type)
 | ok (at_:Nat) (v:α)
 | bad (code:Int) (at_:Nat)
def Gt.bind {α β:Type} (g:Gt α) (f:Nat→α→Gt β):Gt β:=match g with
 | .ok a v=>f a v
 | .bad c a=>.bad c a
def Z10 (c:UInt8):Bool:=c==32 || c==9 || c==10 || c==13
def ZA (c:UInt8):Bool:=decide (48≤c)&&decide (c≤57)
def Z4 (t:List UInt8) (p:Nat):Nat:=p+((t.drop p).takeWhile Z10).length
def Z1E (t:List UInt8) (p:Nat):Nat:=p+((t.drop p).takeWhile ZA).length
def Z0P (t:List UInt8) (p:Nat):Gt Unit:=if Z1E t p=p then .bad 31 p else .ok (Z1E t p) ()
def atB (t:List UInt8) (p:Nat) (c:UInt8):Bool:=t[p]?==some c
def Z1C (t:List UInt8) (p:Nat):Gt Unit:=if atB t p 48 then .ok (p+1) () else Z0P t p
def Z0w (t:List UInt8) (p:Nat):Gt Unit:=if atB t p 46 then Z0P t (p+1) else .ok p ()
def Z0g (t:List UInt8) (p:Nat):Nat:=if atB t p 43 || atB t p 45 then p+1 else p
def Z1N (t:List UInt8) (p:Nat):Gt Unit:=if atB t p 101 || atB t p 69 then Z0P t (Z0g t (p+1)) else .ok p ()
def numX (t:List UInt8) (p:Nat):Gt Unit :=
 (Z1C t (if atB t p 45 then p+1 else p)).bind fun a _=>(Z0w t a).bind fun b _=>Z1N t b
def Z0v (t:List UInt8) (p:Nat):List UInt8→Gt Unit
 | []=>.ok p ()
 | w::ws=>if atB t p w then Z0v t (p+1) ws else .bad 31 p
def hexN (c:UInt8):Option Nat :=
 if 48≤c∧c≤57 then some (c.toNat - 48) else if 97≤c∧c≤102 then some (c.toNat - 87) else if 65≤c∧c≤70 then some (c.toNat - 55) else none
def Z0u (low:Bool) (i u d:Nat):Bool:=(low&&((i==0&&d != 13) || (i==1&&decide (d < 12)))) || (!low&&i==1&&u==13&&decide (12≤d))
def Z01 (t:List UInt8) (low:Bool) (fr:Nat):Nat→Nat→Nat→Gt Nat
 | 0,p,u=>.ok p u
 | k+1,p,u=>match t[p]? with
  | none=>.bad 31 p
  | some c=>match hexN c with
   | none=>.bad 33 fr
   | some d=>if Z0u low (3 - k) u d then .bad 33 fr else Z01 t low fr k (p+1) (16*u+d)
def utfL (u:Nat):List UInt8 :=
 if u < 128 then [.ofNat u] else if u < 2048 then [.ofNat (192+u / 64),.ofNat (128+u % 64)] else
 if u < 65536 then [.ofNat (224+u / 4096),.ofNat (128+u / 64 % 64),.ofNat (128+u % 64)] else
 [.ofNat (240+u / 262144),.ofNat (128+u / 4096 % 64),.ofNat (128+u / 64 % 64),.ofNat (128+u % 64)]
def Z2C (t:List UInt8) (fr p:Nat) (c:UInt8):Gt Unit:=match t[p]? with
 | none=>.bad 31 p
 | some d=>if d=c then .ok (p+1) () else .bad 33 fr
def Z1M (t:List UInt8) (fr p:Nat):Gt Nat :=
 (Z01 t false fr 4 p 0).bind fun a hi=>if hi < 55296∨57343 < hi then .ok a hi else
  (Z2C t fr a 92).bind fun b _=>(Z2C t fr b 117).bind fun d _=>(Z01 t true fr 4 d 0).bind fun e lo=>.ok e (65536+1024*(hi - 55296)+lo - 56320)
def escS (c:UInt8):Option Nat :=
 if c=34 then some 34 else if c=92 then some 92 else if c=47 then some 47 else if c=98 then some 8 else if c=102 then some 12 else if c=110 then some 10 else if c=114 then some 13 else if c=116 then some 9 else none
def escX (t:List UInt8) (fr:Nat):Gt Nat:=match t[fr+1]? with
 | none=>.bad 31 (fr+1)
 | some c=>if c=117 then Z1M t fr (fr+2) else match escS c with
  | some u=>.ok (fr+2) u
  | none=>.bad 33 fr
def seqB (c:Nat):Option (Nat × Nat × Nat) :=
 if c < 194∨244 < c then none else if c < 224 then some (1,128,191) else if c=224 then some (2,160,191) else if c=237 then some (2,128,159) else
 if c < 240 then some (2,128,191) else if c=240 then some (3,144,191) else if c=244 then some (3,128,143) else some (3,128,191)
def seqX (t:List UInt8) (fr:Nat):Nat→Nat→Nat→Nat→Gt Unit
 | 0,p,_,_=>.ok p ()
 | k+1,p,lo,hi=>match t[p]? with
  | none=>.bad 31 p
  | some c=>if c.toNat < lo∨hi < c.toNat then .bad 32 fr else seqX t fr k (p+1) 128 191
def Z2D (t:List UInt8) (p:Nat) (c:UInt8):Gt Unit:=match seqB c.toNat with
 | none=>.bad 32 p
 | some (n,lo,hi)=>seqX t p n (p+1) lo hi
def ZD (t:List UInt8):Nat→Nat→List UInt8→Gt (List UInt8)
 | 0,p,_=>.bad 0 p
 | f+1,p,acc=>match t[p]? with
  | none=>.bad 31 p
  | some c =>
   if c < 32 then .bad 31 p else if c=34 then .ok (p+1) acc else
   if c=92 then (escX t p).bind fun a u=>ZD t f a (acc++utfL u) else
   if c < 128 then ZD t f (p+1) (acc++[c]) else
   (Z2D t p c).bind fun a _=>ZD t f a (acc++(t.drop p).take (a - p))
def ZL (t:List UInt8) (p:Nat):Gt (List UInt8):=ZD t (t.length+1 - p) p []
structure Wh where
 f:List UInt8→Int × Bool
def nd (k:Int):Nd:=⟨k,[],[],false,0,0⟩
def Nd.named (n:Nd) (k:List UInt8):Nd:={ n with key:=k }
def Nd.more (n:Nd):Nd:={ n with kids:=n.kids+1 }
def Z6 (l:List Nd) (k:List UInt8):List Nd:=match l with
 | []=>[]
 | n::r=>n.named k::r
def sl (t:List UInt8) (a b:Nat):List UInt8:=(t.drop a).take (b - a)
def ZT (wh:List UInt8→Int × Bool) (t:List UInt8) (p:Nat) (c:UInt8):Gt (List Nd) :=
 if c=34 then (ZL t (p+1)).bind fun a s=>.ok a [{ nd 5 with text:=s }] else
 if c=45∨ZA c=true then (numX t p).bind fun a _=>.ok a [{ nd 4 with text:=sl t p a,int:=(wh (sl t p a)).1,whole:=(wh (sl t p a)).2 }] else
 if c=110 then (Z0v t p [110,117,108,108]).bind fun a _=>.ok a [nd 1] else
 if c=102 then (Z0v t p [102,97,108,115,101]).bind fun a _=>.ok a [nd 2] else
 if c=116 then (Z0v t p [116,114,117,101]).bind fun a _=>.ok a [nd 3] else .bad 31 p
def ZB (obj:Bool):UInt8:=if obj then 125 else 93
def rowE (t:List UInt8) (obj:Bool) (again:Nat→Gt (List Nd)) (a:Nat) (l:List Nd):Gt (List Nd) :=
 if atB t (Z4 t a) (ZB obj) then .ok (Z4 t a+1) l else if atB t (Z4 t a) 44 then again (Z4 t (Z4 t a+1)) else .bad 31 (Z4 t a)
def Z0M (val:Nat→Gt (List Nd)) (t:List UInt8) (obj:Bool) (p:Nat) (names:List (List UInt8)):Gt (List Nd × List UInt8) :=
 if obj then
  if atB t p 34 then (ZL t (p+1)).bind fun a s=>if s∈names then .bad 34 p else
   if atB t (Z4 t a) 58 then (val (Z4 t (Z4 t a+1))).bind fun b l=>.ok b (Z6 l s,s) else .bad 31 (Z4 t a)
  else .bad 31 p
 else (val p).bind fun a l=>.ok a (l,[])
def rowX (val:Nat→Gt (List Nd)) (t:List UInt8) (obj:Bool):Nat→Nat→List (List UInt8)→Nd→List Nd→Gt (List Nd)
 | 0,p,_,_,_=>.bad 0 p
 | f+1,p,names,hd,out=>(Z0M val t obj p names).bind fun a g=>rowE t obj (fun p'=>rowX val t obj f p' (names++[g.2]) hd.more (out++g.1)) a (hd.more::(out++g.1))
def valX (wh:List UInt8→Int × Bool) (t:List UInt8):Nat→Nat→Gt (List Nd)
 | d,p=>match t[p]? with
  | none=>.bad 31 p
  | some c=>if c=91∨c=123 then (match d with
    | 0=>.bad 11 p
    | d+1=>if atB t (Z4 t (p+1)) (ZB (c=123)) then .ok (Z4 t (p+1)+1) [nd (if c=123 then 7 else 6)] else
      rowX (valX wh t d) t (c=123) (t.length+1) (Z4 t (p+1)) [] (nd (if c=123 then 7 else 6)) [])
   else ZT wh t p c
def Zy (wh:List UInt8→Int × Bool) (t:List UInt8):Gt (List Nd) :=
 if 262144 < t.length then .bad 10 0 else
 (valX wh t 32 (Z4 t 0)).bind fun a l=>if Z4 t a < t.length then .bad 31 (Z4 t a) else .ok (Z4 t a) l
end Sg
/- JSON, in plain Lean: the machine with a stack says what going down says. -/
namespace Sg
structure Cf where
 p:Nat
 s:Nat
 out:List Nd
 stk:List (Nat × Option (List (List UInt8)))
 key:List UInt8
inductive Nx
 | go (c:Cf)
 | stop (code:Int) (at_:Nat)
def bump (out:List Nd):List (Nat × Option (List (List UInt8)))→List Nd
 | []=>out
 | (i,_)::_=>out.modify i Nd.more
def Cf.lay (c:Cf) (n:Nd):Cf:={ c with key:=[],out:=bump c.out c.stk++[n.named c.key] }
def behS:List (Nat × Option (List (List UInt8)))→Nat
 | []=>6
 | _::_=>5
def Cf.behind (c:Cf):Cf:={ c with s:=behS c.stk }
def endC (c:Cf):Cf:=Cf.behind { c with p:=c.p+1,stk:=c.stk.tail }
def begC (c:Cf) (ch:UInt8):Nx :=
 if c.stk.length=32 then .stop 11 c.p else
 .go { p:=c.p+1,s:=if ch=123 then 3 else 1,out:=bump c.out c.stk++[(nd (if ch=123 then 7 else 6)).named c.key],stk:=((bump c.out c.stk).length,if ch=123 then some [] else none)::c.stk,key:=[] }
def valC (wh:List UInt8→Int × Bool) (t:List UInt8) (c:Cf) (ch:UInt8):Nx:=if ch=91∨ch=123 then begC c ch else
 match ZT wh t c.p ch with
 | .bad e a=>.stop e a
 | .ok a l=>.go (Cf.behind (Cf.lay { c with p:=a } (l.headD (nd 0))))
def namC (t:List UInt8) (c:Cf) (ch:UInt8):Nx:=if ch=34 then
  match ZL t (c.p+1) with
  | .bad e a=>.stop e a
  | .ok a s=>match c.stk with
   | (i,some ns)::r=>if s∈ns then .stop 34 c.p else .go { c with p:=a,s:=4,key:=s,stk:=(i,some (s::ns))::r }
   | _=>.stop 0 0
 else .stop 31 c.p
def Z1A:List (Nat × Option (List (List UInt8)))→Bool
 | (_,some _)::_=>true
 | _=>false
def morC (c:Cf) (ch:UInt8):Nx :=
 if ch=44 then .go { c with p:=c.p+1,s:=if Z1A c.stk then 2 else 0 } else
 if ch=(if Z1A c.stk then 125 else 93) then .go (endC c) else .stop 31 c.p
def Z2s (wh:List UInt8→Int × Bool) (t:List UInt8) (c:Cf) (ch:UInt8):Nx:=match c.s with
 | 0=>valC wh t c ch
 | 1=>if ch=93 then .go (endC c) else valC wh t c ch
 | 2=>namC t c ch
 | 3=>if ch=125 then .go (endC c) else namC t c ch
 | 4=>if ch=58 then .go { c with p:=c.p+1,s:=0 } else .stop 31 c.p
 | 5=>morC c ch
 | _=>.stop 31 c.p
def mach (wh:List UInt8→Int × Bool) (t:List UInt8):Nat→Cf→Gt (List Nd)
 | 0,_=>.bad 0 0
 | f+1,c=>match t[Z4 t c.p]? with
  | some ch=>match Z2s wh t { c with p:=Z4 t c.p } ch with
   | .go c'=>mach wh t f c'
   | .stop e a=>.bad e a
  | none=>if c.s=6 then .ok (Z4 t c.p) c.out else .bad 31 t.length
/- Ends. -/
theorem Z2l {f:UInt8→Bool}:∀ l:List UInt8,(l.drop (l.takeWhile f).length).takeWhile f=[]
 | []=>rfl
 | a::r=>by
  by_cases h:f a=true
  ·rw [List.takeWhile_cons_of_pos h]
   exact Z2l r
  ·rw [List.takeWhile_cons_of_neg h]
   exact List.takeWhile_cons_of_neg h
theorem Zm (t:List UInt8) (p:Nat):p≤Z4 t p:=Nat.le_add_right _ _
theorem Z1G {f:UInt8→Bool} (l:List UInt8):(l.takeWhile f).length≤l.length:=(List.takeWhile_prefix f).length_le
theorem Zw {t:List UInt8} {p:Nat} (h:p≤t.length):Z4 t p≤t.length:=by
 have:=Z1G (f:=Z10) (t.drop p)
 rw [List.length_drop] at this
 unfold Z4
 omega
theorem Zr (t:List UInt8) (p:Nat):Z4 t (Z4 t p)=Z4 t p:=by
 have:=Z2l (f:=Z10) (t.drop p)
 rw [List.drop_drop] at this
 unfold Z4
 rw [this]
 rfl
theorem ZaD (t:List UInt8) (p:Nat):p≤Z1E t p:=Nat.le_add_right _ _
theorem Zdf {t:List UInt8} {p:Nat} (h:p≤t.length):Z1E t p≤t.length:=by
 have:=Z1G (f:=ZA) (t.drop p)
 rw [List.length_drop] at this
 unfold Z1E
 omega
theorem Z00 {t:List UInt8} {p:Nat} {c:UInt8} (h:atB t p c=true):p < t.length:=by
 unfold atB at h
 rcases Nat.lt_or_ge p t.length with h1|h1
 ·exact h1
 ·rw [List.getElem?_eq_none h1] at h;simp at h
theorem Z1Z {t:List UInt8} {p:Nat} {c ch:UInt8} (h:t[p]?=some ch):atB t p c=true↔ch=c:=by
 unfold atB
 rw [h]
 simp
theorem Z3A {t:List UInt8} {p:Nat} {c:UInt8} (h:t[p]?=none):atB t p c=false:=by
 unfold atB
 rw [h]
 rfl
def Gt.fits {α:Type} (g:Gt α) (lo hi:Nat):Prop:=∀ a v,g=.ok a v→lo≤a∧a≤hi
theorem Gt.fits_bad {α:Type} {c:Int} {p lo hi:Nat}:(Gt.bad c p:Gt α).fits lo hi:=fun _ _ h=>by cases h
theorem Gt.fits_ok {α:Type} {p lo hi:Nat} {v:α} (h:lo≤p∧p≤hi):(Gt.ok p v).fits lo hi:=fun _ _ e=>by cases e;exact h
theorem Gt.fits_bind {α β:Type} {g:Gt α} {f:Nat→α→Gt β} {lo hi lo':Nat} (h:g.fits lo hi) (hf:∀ a v,lo≤a→a≤hi→(f a v).fits lo' hi):(g.bind f).fits lo' hi:=fun a v e=>by
 cases g with
 | bad c p=>cases e
 | ok b u=>exact hf b u (h b u rfl).1 (h b u rfl).2 a v e
theorem Z0c {t:List UInt8} {p:Nat} (h:p≤t.length):(Z0P t p).fits (p+1) t.length:=by
 unfold Z0P
 split
 ·exact Gt.fits_bad
 ·have:=ZaD t p
  exact Gt.fits_ok ⟨by omega,Zdf h⟩
theorem Z3Y {t:List UInt8} {p:Nat} (h:p≤t.length):(numX t p).fits (p+1) t.length:=by
 have mono:∀ {α:Type} {g:Gt α} {lo lo' hi:Nat},g.fits lo hi→lo'≤lo→g.fits lo' hi:=fun h hl a v e=>⟨Nat.le_trans hl (h a v e).1,(h a v e).2⟩
 unfold numX
 have h1:(Z1C t (if atB t p 45 then p+1 else p)).fits (p+1) t.length:=by
  unfold Z1C
  by_cases hm:atB t p 45=true
  ·have:=Z00 hm
   rw [if_pos hm]
   split
   ·rename_i h0
    have:=Z00 h0
    exact Gt.fits_ok ⟨by omega,by omega⟩
   ·exact mono (Z0c (by omega)) (by omega)
  ·rw [if_neg hm]
   split
   ·rename_i h0
    have:=Z00 h0
    exact Gt.fits_ok ⟨by omega,by omega⟩
   ·exact Z0c h
 refine Gt.fits_bind h1 fun a _ ha1 ha2=>?_
 have h2:(Z0w t a).fits (p+1) t.length:=by
  unfold Z0w
  split
  ·rename_i h0
   have:=Z00 h0
   exact mono (Z0c (by omega)) (by omega)
  ·exact Gt.fits_ok ⟨ha1,ha2⟩
 refine Gt.fits_bind h2 fun b _ hb1 hb2=>?_
 unfold Z1N
 split
 ·rename_i h0
  have hlt:b < t.length:=by
   rw [Bool.or_eq_true] at h0
   rcases h0 with h0|h0<;>exact Z00 h0
  have hs:b+1≤Z0g t (b+1)∧Z0g t (b+1)≤t.length:=by
   unfold Z0g
   split
   ·rename_i h3
    rw [Bool.or_eq_true] at h3
    have h4:b+1 < t.length:=by rcases h3 with h3|h3<;>exact Z00 h3
    omega
   ·omega
  exact mono (Z0c hs.2) (by omega)
 ·exact Gt.fits_ok ⟨hb1,hb2⟩
theorem Z18 {t:List UInt8}:∀ {ws:List UInt8} {p:Nat},p≤t.length→(Z0v t p ws).fits (p+ws.length) t.length
 | [],p,h=>by unfold Z0v;exact Gt.fits_ok ⟨Nat.le_refl _,h⟩
 | w::ws,p,h=>by
  unfold Z0v
  split
  ·rename_i h0
   have:=Z00 h0
   have h1:=Z18 (t:=t) (ws:=ws) (p:=p+1) (by omega)
   intro a v e
   have:=h1 a v e
   simp only [List.length_cons]
   omega
  ·exact Gt.fits_bad
theorem Z2e {t:List UInt8} {low:Bool} {fr:Nat}:∀ {k p u:Nat},p≤t.length→(Z01 t low fr k p u).fits (p+k) t.length
 | 0,p,u,h=>by unfold Z01;exact Gt.fits_ok ⟨Nat.le_refl _,h⟩
 | k+1,p,u,h=>by
  unfold Z01
  split
  ·exact Gt.fits_bad
  ·rename_i c hc
   have hlt:=(List.getElem?_eq_some_iff.1 hc).1
   split
   ·exact Gt.fits_bad
   ·split
    ·exact Gt.fits_bad
    ·intro a v e
     have:=Z2e (t:=t) (low:=low) (fr:=fr) (k:=k) (p:=p+1) (by omega) a v e
     omega
theorem Z4I {t:List UInt8} {fr p:Nat} {c:UInt8}:(Z2C t fr p c).fits (p+1) t.length:=by
 unfold Z2C
 split
 ·exact Gt.fits_bad
 ·rename_i d hd
  have hlt:=(List.getElem?_eq_some_iff.1 hd).1
  split
  ·exact Gt.fits_ok ⟨Nat.le_refl _,by omega⟩
  ·exact Gt.fits_bad
theorem Z1V {t:List UInt8} {fr:Nat}:(escX t fr).fits (fr+2) t.length:=by
 have mono:∀ {α:Type} {g:Gt α} {lo lo' hi:Nat},g.fits lo hi→lo'≤lo→g.fits lo' hi:=fun h hl a v e=>⟨Nat.le_trans hl (h a v e).1,(h a v e).2⟩
 unfold escX
 split
 ·exact Gt.fits_bad
 ·rename_i c hc
  have hlt:=(List.getElem?_eq_some_iff.1 hc).1
  split
  ·unfold Z1M
   refine Gt.fits_bind (Z2e (by omega)) fun a hi ha1 ha2=>?_
   split
   ·exact Gt.fits_ok ⟨by omega,ha2⟩
   ·refine Gt.fits_bind Z4I fun b _ hb1 hb2=>?_
    refine Gt.fits_bind Z4I fun d _ hd1 hd2=>?_
    refine Gt.fits_bind (Z2e hd2) fun e lo he1 he2=>?_
    exact Gt.fits_ok ⟨by omega,he2⟩
  ·split
   ·exact Gt.fits_ok ⟨Nat.le_refl _,by omega⟩
   ·exact Gt.fits_bad
theorem Z5X {t:List UInt8} {fr:Nat}:∀ {k p lo hi:Nat},p≤t.length→(seqX t fr k p lo hi).fits (p+k) t.length
 | 0,p,_,_,h=>by unfold seqX;exact Gt.fits_ok ⟨Nat.le_refl _,h⟩
 | k+1,p,lo,hi,h=>by
  unfold seqX
  split
  ·exact Gt.fits_bad
  ·rename_i c hc
   have hlt:=(List.getElem?_eq_some_iff.1 hc).1
   split
   ·exact Gt.fits_bad
   ·intro a v e
    have:=Z5X (t:=t) (fr:=fr) (k:=k) (p:=p+1) (by omega) a v e
    omega
theorem Z0E {t:List UInt8} {p:Nat} {c:UInt8} (h:p < t.length):(Z2D t p c).fits (p+1) t.length:=by
 unfold Z2D
 split
 ·exact Gt.fits_bad
 ·rename_i n lo hi _
  intro a v e
  have:=Z5X (t:=t) (fr:=p) (k:=n) (p:=p+1) (lo:=lo) (hi:=hi) (by omega) a v e
  omega
theorem Z24 {t:List UInt8}:∀ {f p:Nat} {acc:List UInt8},p≤t.length→(ZD t f p acc).fits (p+1) t.length
 | 0,p,acc,_=>by unfold ZD;exact Gt.fits_bad
 | f+1,p,acc,h=>by
  have mono:∀ {α:Type} {g:Gt α} {lo lo' hi:Nat},g.fits lo hi→lo'≤lo→g.fits lo' hi:=fun h hl a v e=>⟨Nat.le_trans hl (h a v e).1,(h a v e).2⟩
  unfold ZD
  split
  ·exact Gt.fits_bad
  ·rename_i c hc
   have hlt:=(List.getElem?_eq_some_iff.1 hc).1
   split
   ·exact Gt.fits_bad
   ·split
    ·exact Gt.fits_ok ⟨Nat.le_refl _,by omega⟩
    ·split
     ·exact Gt.fits_bind Z1V fun a u ha1 ha2=>mono (Z24 ha2) (by omega)
     ·split
      ·exact mono (Z24 (by omega)) (by omega)
      ·exact Gt.fits_bind (Z0E hlt) fun a u ha1 ha2=>mono (Z24 ha2) (by omega)
theorem ZP {t:List UInt8} {p:Nat} (h:p≤t.length):(ZL t p).fits (p+1) t.length:=Z24 h
theorem Z0H {wh:List UInt8→Int × Bool} {t:List UInt8} {p:Nat} {c:UInt8} (h:p < t.length):(ZT wh t p c).fits (p+1) t.length:=by
 have mono:∀ {α:Type} {g:Gt α} {lo lo' hi:Nat},g.fits lo hi→lo'≤lo→g.fits lo' hi:=fun h hl a v e=>⟨Nat.le_trans hl (h a v e).1,(h a v e).2⟩
 unfold ZT
 split
 ·exact Gt.fits_bind (ZP (by omega)) fun a _ h1 h2=>Gt.fits_ok ⟨by omega,h2⟩
 ·split
  ·exact Gt.fits_bind (Z3Y (by omega)) fun a _ h1 h2=>Gt.fits_ok ⟨by omega,h2⟩
  ·split
   ·exact Gt.fits_bind (Z18 (by omega)) fun a _ h1 h2=>Gt.fits_ok ⟨by simp at h1;omega,h2⟩
   ·split
    ·exact Gt.fits_bind (Z18 (by omega)) fun a _ h1 h2=>Gt.fits_ok ⟨by simp at h1;omega,h2⟩
    ·split
     ·exact Gt.fits_bind (Z18 (by omega)) fun a _ h1 h2=>Gt.fits_ok ⟨by simp at h1;omega,h2⟩
     ·exact Gt.fits_bad
theorem Z6u {wh:List UInt8→Int × Bool} {t:List UInt8} {p a:Nat} {c:UInt8} {l:List Nd} (h:ZT wh t p c=.ok a l):∃ n:Nd,l=[n]∧n.key=[]:=by
 have key:∀ {α:Type} {g:Gt α} {f:Nat→α→Nd} {a:Nat} {l:List Nd},(g.bind fun a v=>.ok a [f a v])=.ok a l→∃ b v,l=[f b v]:=fun {α g f a l} h=>by
  cases g with
  | bad c p=>cases h
  | ok b v=>cases h;exact ⟨_,_,rfl⟩
 unfold ZT at h
 split at h
 ·obtain ⟨b,v,rfl⟩:=key h;exact ⟨_,rfl,rfl⟩
 ·split at h
  ·obtain ⟨b,v,rfl⟩:=key h;exact ⟨_,rfl,rfl⟩
  ·split at h
   ·obtain ⟨b,v,rfl⟩:=key h;exact ⟨_,rfl,rfl⟩
   ·split at h
    ·obtain ⟨b,v,rfl⟩:=key h;exact ⟨_,rfl,rfl⟩
    ·split at h
     ·obtain ⟨b,v,rfl⟩:=key h;exact ⟨_,rfl,rfl⟩
     ·cases h
/- Where the machine is led. -/
def Leads (wh:List UInt8→Int × Bool) (t:List UInt8) (c:Cf) (R:Gt Cf):Prop:=∀ f,t.length < c.p+f→match R with
 | .bad e a=>mach wh t f c=.bad e a
 | .ok _ c'=>∃ f',t.length < c'.p+f'∧mach wh t f c=mach wh t f' c'
section
variable {wh:List UInt8→Int × Bool} {t:List UInt8} {c c':Cf} {R:Gt Cf}
theorem Leads.refl {a:Nat}:Leads wh t c (.ok a c):=fun f hf=>⟨f,hf,rfl⟩
theorem Leads.trans {a:Nat} (h1:Leads wh t c (.ok a c')) (h2:Leads wh t c' R):Leads wh t c R:=fun f hf=>by
 obtain ⟨f',hf',e⟩:=h1 f hf
 have:=h2 f' hf'
 cases R with
 | bad e' a'=>exact e.trans this
 | ok a' c'' =>
  obtain ⟨f'',h3,h4⟩:=this
  exact ⟨f'',h3,e.trans h4⟩
theorem Leads.skip (h:Leads wh t { c with p:=Z4 t c.p } R):Leads wh t c R:=fun f hf=>by
 have hg:=Zm t c.p
 have h1:=h f (show t.length < Z4 t c.p+f by omega)
 have e:mach wh t f { c with p:=Z4 t c.p }=mach wh t f c:=by
  cases f with
  | zero=>rfl
  | succ f=>simp only [mach,Zr]
 cases R with
 | bad e' a'=>rw [←e];exact h1
 | ok a' c''=>rw [←e];exact h1
theorem Leads.step {ch:UInt8} (hp:c.p≤t.length) (hs:Z4 t c.p=c.p) (hc:t[c.p]?=some ch) (hst:Z2s wh t c ch=.go c') (hlt:c.p < c'.p) (h:Leads wh t c' R):Leads wh t c R:=fun f hf=>by
 have h1:=h (f - 1) (by omega)
 obtain ⟨g,rfl⟩:∃ g,f=g+1:=⟨f - 1,by omega⟩
 have e:mach wh t (g+1) c=mach wh t g c':=by
  simp only [mach,hs,hc,hst]
 cases R with
 | bad e' a'=>rw [e];exact h1
 | ok a' c''=>rw [e];exact h1
theorem Leads.stop {ch:UInt8} {e:Int} {a:Nat} (hp:c.p≤t.length) (hs:Z4 t c.p=c.p) (hc:t[c.p]?=some ch) (hst:Z2s wh t c ch=.stop e a):Leads wh t c (.bad e a):=fun f hf=>by
 obtain ⟨g,rfl⟩:∃ g,f=g+1:=⟨f - 1,by omega⟩
 simp only [mach,hs,hc,hst]
theorem Leads.none (hp:c.p≤t.length) (hs:Z4 t c.p=c.p) (hc:t[c.p]?=none) (h6:c.s≠6):Leads wh t c (.bad 31 c.p):=fun f hf=>by
 obtain ⟨g,rfl⟩:∃ g,f=g+1:=⟨f - 1,by omega⟩
 have:c.p=t.length:=by
  have:=List.getElem?_eq_none_iff.1 hc
  omega
 simp only [mach,hs,hc,if_neg h6]
 rw [this]
end
def upd (c:Cf):Gt (List Nd)→Gt Cf
 | .bad e a=>.bad e a
 | .ok a l=>.ok a { p:=a,s:=behS c.stk,out:=bump c.out c.stk++Z6 l c.key,stk:=c.stk,key:=[] }
def Ze8 (wh:List UInt8→Int × Bool) (t:List UInt8) (d:Nat):Prop:=∀ c:Cf,c.stk.length+d=32→c.p≤t.length→Z4 t c.p=c.p→(c.s=0∨c.s=1∧t[c.p]?≠some 93) →
 Leads wh t c (upd c (valX wh t d c.p))∧∀ a l,valX wh t d c.p=.ok a l→c.p < a∧a≤t.length∧Z6 l []=l
theorem Z8i (o:List Nd) (hd:Nd) (items:List Nd) (nm:Option (List (List UInt8))) (stk:List (Nat × Option (List (List UInt8)))):bump (o++hd::items) ((o.length,nm)::stk)=o++hd.more::items:=by
 show (o++hd::items).modify o.length Nd.more=_
 induction o with
 | nil=>rfl
 | cons x o ih =>
  show x::(o++hd::items).modify o.length Nd.more=_
  rw [ih]
  rfl
def rowC (o:List Nd) (hd:Nd) (items:List Nd) (nm:Option (List (List UInt8))) (stk:List (Nat × Option (List (List UInt8)))) (p s:Nat) (key:List UInt8):Cf:={ p:=p,s:=s,out:=o++hd::items,stk:=(o.length,nm)::stk,key:=key }
def updR (o:List Nd) (stk:List (Nat × Option (List (List UInt8)))):Gt (List Nd)→Gt Cf
 | .bad e a=>.bad e a
 | .ok a l=>.ok a { p:=a,s:=behS stk,out:=o++l,stk:=stk,key:=[] }
theorem Z4O {wh:List UInt8→Int × Bool} {t:List UInt8} {o:List Nd} {stk:List (Nat × Option (List (List UInt8)))} {obj:Bool} {nm:Option (List (List UInt8))} {hd:Nd} {items:List Nd} {a:Nat} {again:Nat→Gt (List Nd)} (hnm:nm.isSome=obj) (ha:a≤t.length)
  (h:Z4 t a < t.length→Leads wh t (rowC o hd items nm stk (Z4 t (Z4 t a+1)) (if obj then 2 else 0) []) (updR o stk (again (Z4 t (Z4 t a+1))))) :
  Leads wh t (rowC o hd items nm stk a 5 []) (updR o stk (rowE t obj again a (hd::items))):=by
 have hq:=Zw ha
 have hqq:=Zr t a
 have htop:Z1A (((o.length,nm)::stk))=obj:=by
  cases nm with
  | none=>exact hnm
  | some x=>exact hnm
 refine Leads.skip ?_
 unfold rowE
 cases hc:t[Z4 t a]? with
 | none =>
  rw [Z3A hc,Z3A hc]
  simp only [Bool.false_eq_true,if_false,updR]
  exact Leads.none (c:=rowC o hd items nm stk (Z4 t a) 5 []) hq hqq hc (show (5:Nat)≠6 by decide)
 | some ch =>
  have h44:ZB obj≠44:=by cases obj<;>decide
  by_cases h1:ch=ZB obj
  ·rw [if_pos ((Z1Z hc).2 h1)]
   refine Leads.step (c:=rowC o hd items nm stk (Z4 t a) 5 []) (c':={ p:=Z4 t a+1,s:=behS stk,out:=o++hd::items,stk:=stk,key:=[] }) hq hqq hc ?_ (Nat.lt_succ_self _) Leads.refl
   show morC (rowC o hd items nm stk (Z4 t a) 5 []) ch=_
   unfold morC
   rw [if_neg (by rw [h1];exact h44)]
   have:Z1A (rowC o hd items nm stk (Z4 t a) 5 []).stk=obj:=htop
   rw [this,if_pos (by rw [h1];rfl)]
   rfl
  ·rw [if_neg (fun hh=>h1 ((Z1Z hc).1 hh))]
   by_cases h2:ch=44
   ·rw [if_pos ((Z1Z hc).2 h2)]
    refine Leads.step (c:=rowC o hd items nm stk (Z4 t a) 5 []) (c':=rowC o hd items nm stk (Z4 t a+1) (if obj then 2 else 0) []) hq hqq hc ?_ (Nat.lt_succ_self _) (Leads.skip (h (List.getElem?_eq_some_iff.1 hc).1))
    show morC (rowC o hd items nm stk (Z4 t a) 5 []) ch=_
    unfold morC
    rw [if_pos h2]
    have:Z1A (rowC o hd items nm stk (Z4 t a) 5 []).stk=obj:=htop
    rw [this]
    rfl
   ·rw [if_neg (fun hh=>h2 ((Z1Z hc).1 hh))]
    refine Leads.stop (c:=rowC o hd items nm stk (Z4 t a) 5 []) hq hqq hc ?_
    show morC (rowC o hd items nm stk (Z4 t a) 5 []) ch=_
    unfold morC
    rw [if_neg h2]
    have:Z1A (rowC o hd items nm stk (Z4 t a) 5 []).stk=obj:=htop
    have h1':¬ch=(if obj=true then 125 else 93):=h1
    rw [this,if_neg h1']
    rfl
theorem Z4N (val:Nat→Gt (List Nd)) (t:List UInt8) (obj:Bool) (k:List UInt8):∀ (f p:Nat) (names:List (List UInt8)) (hd:Nd) (items:List Nd),
  rowX val t obj f p names (hd.named k) items=(rowX val t obj f p names hd items).bind fun a l=>.ok a (Z6 l k)
 | 0,p,names,hd,items=>rfl
 | f+1,p,names,hd,items=>by
  unfold rowX
  cases hi:Z0M val t obj p names with
  | bad e a=>rfl
  | ok a g =>
   rw [show ∀ F:Nat→(List Nd × List UInt8)→Gt (List Nd),(Gt.ok a g).bind F=F a g from fun _=>rfl,show ∀ F:Nat→(List Nd × List UInt8)→Gt (List Nd),(Gt.ok a g).bind F=F a g from fun _=>rfl]
   unfold rowE
   split
   ·rfl
   ·split
    ·exact Z4N val t obj k f _ _ hd.more _
    ·rfl
theorem Z1e {wh:List UInt8→Int × Bool} {t:List UInt8} {d:Nat} (hv:Ze8 wh t d) {o:List Nd} {stk:List (Nat × Option (List (List UInt8)))} (hl:stk.length+1+d=32) (obj:Bool):∀ (f p:Nat) (names ns:List (List UInt8)) (hd:Nd) (items:List Nd) (s:Nat),(∀ x,x∈ns↔x∈names)→t.length < p+f→p≤t.length→Z4 t p=p →
  (obj=true∧(s=2∨s=3∧t[p]?≠some 125)∨obj=false∧(s=0∨s=1∧t[p]?≠some 93)) →
  Leads wh t (rowC o hd items (if obj then some ns else none) stk p s []) (updR o stk (rowX (valX wh t d) t obj f p names hd items))∧∀ a l,rowX (valX wh t d) t obj f p names hd items=.ok a l→p < a∧a≤t.length∧(hd.key=[]→Z6 l []=l)
 | 0,p,names,ns,hd,items,s,_,hf,hp,_,_=>by omega
 | f+1,p,names,ns,hd,items,s,hns,hf,hp,hsk,hs=>by
  have hend:∀ (a:Nat) (g:List Nd) (nn:List UInt8),p < a→a≤t.length→∀ a' l',rowE t obj (fun p'=>rowX (valX wh t d) t obj f p' (names++[nn]) hd.more (items++g)) a (hd.more::(items++g))=.ok a' l'→p < a'∧a'≤t.length∧(hd.key=[]→Z6 l' []=l'):=by
   intro a g nn h1 h2 a' l' h3
   have hg:=Zm t a
   have hq:=Zw h2
   unfold rowE at h3
   split at h3
   ·rename_i h4
    have:=Z00 h4
    cases h3
    refine ⟨by omega,by omega,fun hkey=>?_⟩
    show ({ hd.more with key:=[] }:Nd)::(items++g)=_
    congr 1
    cases hd
    simp only at hkey
    subst hkey
    rfl
   ·split at h3
    ·rename_i h4
     have:=Z00 h4
     have hg2:=Zm t (Z4 t a+1)
     by_cases ho:obj=true
     ·subst ho
      have:=(Z1e hv (o:=o) hl true f (Z4 t (Z4 t a+1)) (names++[nn]) (nn::ns) hd.more (items++g) 2 (fun x=>by rw [List.mem_cons,List.mem_append,List.mem_singleton,hns];exact or_comm) (by omega) (Zw (by omega)) (Zr _ _) (.inl ⟨rfl,.inl rfl⟩)).2 a' l' h3
      exact ⟨by omega,this.2⟩
     ·have ho':obj=false:=by simpa using ho
      subst ho'
      have:=(Z1e hv (o:=o) hl false f (Z4 t (Z4 t a+1)) (names++[nn]) (nn::ns) hd.more (items++g) 0 (fun x=>by rw [List.mem_cons,List.mem_append,List.mem_singleton,hns];exact or_comm) (by omega) (Zw (by omega)) (Zr _ _) (.inr ⟨rfl,.inl rfl⟩)).2 a' l' h3
      exact ⟨by omega,this.2⟩
    ·cases h3
  rcases hs with ⟨rfl,hs⟩|⟨rfl,hs⟩
  ·unfold rowX Z0M
   simp only [if_true]
   cases hc:t[p]? with
   | none =>
    rw [Z3A hc]
    simp only [Bool.false_eq_true,if_false]
    exact ⟨Leads.none (c:=rowC o hd items (some ns) stk p s []) hp hsk hc (show s≠6 by rcases hs with rfl|⟨rfl,_⟩<;>decide),fun a l h=>by cases h⟩
   | some ch =>
    have hst:Z2s wh t (rowC o hd items (some ns) stk p s []) ch=namC t (rowC o hd items (some ns) stk p s []) ch:=by
     rcases hs with rfl|⟨rfl,h3⟩
     ·rfl
     ·show (if ch=125 then _ else namC t _ ch)=_
      rw [if_neg (fun h=>h3 (by rw [hc,h]))]
    by_cases h34:ch=34
    ·rw [if_pos ((Z1Z hc).2 h34)]
     have hfit:=ZP (t:=t) (p:=p+1) (by have:=(List.getElem?_eq_some_iff.1 hc).1;omega)
     cases hqx:ZL t (p+1) with
     | bad e a =>
      refine ⟨Leads.stop (c:=rowC o hd items (some ns) stk p s []) hp hsk hc ?_,fun a l h=>by cases h⟩
      rw [hst]
      show namC t _ ch=_
      unfold namC
      rw [if_pos h34]
      show (match ZL t (p+1) with | .bad e a=>_ | .ok a s=>_)=_
      rw [hqx]
     | ok a nn =>
      obtain ⟨ha1,ha2⟩:=hfit a nn hqx
      show Leads wh t _ (updR o stk (Gt.bind (if nn∈names then _ else _) _))∧∀ a' l',Gt.bind (if nn∈names then _ else _) _=.ok a' l'→_
      have hnam:namC t (rowC o hd items (some ns) stk p s []) ch=if nn∈ns then .stop 34 p else .go (rowC o hd items (some (nn::ns)) stk a 4 nn):=by
       unfold namC
       rw [if_pos h34]
       show (match ZL t (p+1) with | .bad e a=>_ | .ok a s=>_)=_
       rw [hqx]
       rfl
      by_cases hm:nn∈names
      ·rw [if_pos hm]
       refine ⟨Leads.stop (c:=rowC o hd items (some ns) stk p s []) hp hsk hc ?_,fun a l h=>by cases h⟩
       rw [hst,hnam,if_pos ((hns nn).2 hm)]
      ·rw [if_neg hm]
       have hgo:Z2s wh t (rowC o hd items (some ns) stk p s []) ch=.go (rowC o hd items (some (nn::ns)) stk a 4 nn):=by rw [hst,hnam,if_neg (fun h=>hm ((hns nn).1 h))]
       have hq:=Zw ha2
       have hqg:=Zm t a
       cases hcc:t[Z4 t a]? with
       | none =>
        rw [Z3A hcc]
        simp only [Bool.false_eq_true,if_false]
        exact ⟨Leads.step (c:=rowC o hd items (some ns) stk p s []) hp hsk hc hgo (show p < a by omega) (Leads.skip (Leads.none (c:=rowC o hd items (some (nn::ns)) stk (Z4 t a) 4 nn) hq (Zr _ _) hcc (show (4:Nat)≠6 by decide))),fun a l h=>by cases h⟩
       | some c2 =>
        by_cases h58:c2=58
        ·rw [if_pos ((Z1Z hcc).2 h58)]
         have hlt2:=(List.getElem?_eq_some_iff.1 hcc).1
         have hq2:=Zw (t:=t) (p:=Z4 t a+1) (by omega)
         have hq2g:=Zm t (Z4 t a+1)
         obtain ⟨hv1,hv2⟩:=hv (rowC o hd items (some (nn::ns)) stk (Z4 t (Z4 t a+1)) 0 nn) hl hq2 (Zr _ _) (.inl rfl)
         have hto:Leads wh t (rowC o hd items (some ns) stk p s []) (upd (rowC o hd items (some (nn::ns)) stk (Z4 t (Z4 t a+1)) 0 nn) (valX wh t d (Z4 t (Z4 t a+1)))) :=
          Leads.step (c:=rowC o hd items (some ns) stk p s []) hp hsk hc hgo (show p < a by omega) (Leads.skip (Leads.step (c:=rowC o hd items (some (nn::ns)) stk (Z4 t a) 4 nn) (c':=rowC o hd items (some (nn::ns)) stk (Z4 t a+1) 0 nn) hq (Zr _ _) hcc (by
           show (if c2=58 then Nx.go _ else _)=_
           rw [if_pos h58]
           rfl) (Nat.lt_succ_self _) (Leads.skip hv1)))
         have hv2':∀ a' l,valX wh t d (Z4 t (Z4 t a+1))=.ok a' l→Z4 t (Z4 t a+1) < a'∧a'≤t.length∧Z6 l []=l:=hv2
         cases hvx:valX wh t d (Z4 t (Z4 t a+1)) with
         | bad e a' =>
          rw [hvx] at hto
          exact ⟨hto,fun a l h=>by cases h⟩
         | ok b l =>
          rw [hvx] at hto
          obtain ⟨hb1,hb2,hb3⟩:=hv2' b l hvx
          refine ⟨Leads.trans hto ?_,hend b (Z6 l nn) nn (by omega) hb2⟩
          have hbm:({ p:=b,s:=behS (rowC o hd items (some (nn::ns)) stk (Z4 t (Z4 t a+1)) 0 nn).stk,out:=bump (rowC o hd items (some (nn::ns)) stk (Z4 t (Z4 t a+1)) 0 nn).out (rowC o hd items (some (nn::ns)) stk (Z4 t (Z4 t a+1)) 0 nn).stk++Z6 l nn,stk:=(rowC o hd items (some (nn::ns)) stk (Z4 t (Z4 t a+1)) 0 nn).stk,key:=[] }:Cf)=rowC o hd.more (items++Z6 l nn) (some (nn::ns)) stk b 5 []:=by
           show ({ p:=b,s:=5,out:=bump (o++hd::items) ((o.length,some (nn::ns))::stk)++Z6 l nn,stk:=_,key:=[] }:Cf)=_
           rw [Z8i,List.append_assoc]
           rfl
          have hres:=Z4O (wh:=wh) (t:=t) (o:=o) (stk:=stk) (obj:=true) (nm:=some (nn::ns)) (hd:=hd.more) (items:=items++Z6 l nn) (a:=b) (again:=fun p'=>rowX (valX wh t d) t true f p' (names++[nn]) hd.more (items++Z6 l nn)) rfl hb2
           (fun hbl=>by
            have hg3:=Zm t b
            have hg4:=Zm t (Z4 t b+1)
            exact (Z1e hv hl true f (Z4 t (Z4 t b+1)) (names++[nn]) (nn::ns) hd.more (items++Z6 l nn) 2 (fun x=>by rw [List.mem_cons,List.mem_append,List.mem_singleton,hns];exact or_comm) (by omega) (Zw (by omega)) (Zr _ _) (.inl ⟨rfl,.inl rfl⟩)).1)
          rw [←hbm] at hres
          exact hres
        ·rw [if_neg (fun hh=>h58 ((Z1Z hcc).1 hh))]
         refine ⟨Leads.step (c:=rowC o hd items (some ns) stk p s []) hp hsk hc hgo (show p < a by omega) (Leads.skip (Leads.stop (c:=rowC o hd items (some (nn::ns)) stk (Z4 t a) 4 nn) hq (Zr _ _) hcc ?_)),fun a l h=>by cases h⟩
         show (if c2=58 then Nx.go _ else Nx.stop 31 (Z4 t a))=_
         rw [if_neg h58]
    ·rw [if_neg (fun hh=>h34 ((Z1Z hc).1 hh))]
     refine ⟨Leads.stop (c:=rowC o hd items (some ns) stk p s []) hp hsk hc ?_,fun a l h=>by cases h⟩
     rw [hst]
     unfold namC
     rw [if_neg h34]
     rfl
  ·unfold rowX Z0M
   simp only [Bool.false_eq_true,if_false]
   obtain ⟨hv1,hv2⟩:=hv (rowC o hd items none stk p s []) hl hp hsk hs
   have hv2':∀ a' l,valX wh t d p=.ok a' l→p < a'∧a'≤t.length∧Z6 l []=l:=hv2
   have hv1':Leads wh t (rowC o hd items none stk p s []) (upd (rowC o hd items none stk p s []) (valX wh t d p)):=hv1
   cases hvx:valX wh t d p with
   | bad e a' =>
    rw [hvx] at hv1'
    exact ⟨hv1',fun a l h=>by cases h⟩
   | ok b l =>
    rw [hvx] at hv1'
    obtain ⟨hb1,hb2,hb3⟩:=hv2' b l hvx
    refine ⟨Leads.trans hv1' ?_,hend b l [] (by omega) hb2⟩
    have hbm:({ p:=b,s:=behS (rowC o hd items none stk p s []).stk,out:=bump (rowC o hd items none stk p s []).out (rowC o hd items none stk p s []).stk++Z6 l (rowC o hd items none stk p s []).key,stk:=(rowC o hd items none stk p s []).stk,key:=[] }:Cf)=rowC o hd.more (items++l) none stk b 5 []:=by
     show ({ p:=b,s:=5,out:=bump (o++hd::items) ((o.length,none)::stk)++Z6 l [],stk:=_,key:=[] }:Cf)=_
     rw [Z8i,List.append_assoc,hb3]
     rfl
    have hres:=Z4O (wh:=wh) (t:=t) (o:=o) (stk:=stk) (obj:=false) (nm:=none) (hd:=hd.more) (items:=items++l) (a:=b) (again:=fun p'=>rowX (valX wh t d) t false f p' (names++[[]]) hd.more (items++l)) rfl hb2
     (fun hbl=>by
      have hg3:=Zm t b
      have hg4:=Zm t (Z4 t b+1)
      exact (Z1e hv hl false f (Z4 t (Z4 t b+1)) (names++[[]]) ([]::ns) hd.more (items++l) 0 (fun x=>by rw [List.mem_cons,List.mem_append,List.mem_singleton,hns];exact or_comm) (by omega) (Zw (by omega)) (Zr _ _) (.inr ⟨rfl,.inl rfl⟩)).1)
    rw [←hbm] at hres
    exact hres
theorem Z7w {wh:List UInt8→Int × Bool} {t:List UInt8} {c:Cf} {ch:UInt8} (hp:c.p≤t.length) (hs:Z4 t c.p=c.p) (hc:t[c.p]?=some ch) (hst:Z2s wh t c ch=valC wh t c ch) (hb:¬(ch=91∨ch=123)) :
  Leads wh t c (upd c (ZT wh t c.p ch))∧∀ a l,ZT wh t c.p ch=.ok a l→c.p < a∧a≤t.length∧Z6 l []=l:=by
 have hlt:=(List.getElem?_eq_some_iff.1 hc).1
 have hfit:=Z0H (wh:=wh) (c:=ch) hlt
 have hv:valC wh t c ch=(match ZT wh t c.p ch with
  | .bad e a=>.stop e a
  | .ok a l=>.go (Cf.behind (Cf.lay { c with p:=a } (l.headD (nd 0))))):=by
  unfold valC
  rw [if_neg hb]
 cases hx:ZT wh t c.p ch with
 | bad e a =>
  refine ⟨Leads.stop hp hs hc ?_,fun a l h=>by cases h⟩
  rw [hst,hv,hx]
 | ok a l =>
  obtain ⟨h1,h2⟩:=hfit a l hx
  obtain ⟨n,rfl,hk⟩:=Z6u hx
  refine ⟨Leads.step hp hs hc (c':=Cf.behind (Cf.lay { c with p:=a } n)) ?_ (show c.p < a by omega) Leads.refl,fun a' l' h=>?_⟩
  ·rw [hst,hv,hx]
   rfl
  ·cases h
   refine ⟨by omega,h2,?_⟩
   show [({ n with key:=[] }:Nd)]=[n]
   cases n
   simp only at hk
   subst hk
   rfl
theorem Zc9 (wh:List UInt8→Int × Bool) (t:List UInt8):∀ d,Ze8 wh t d:=by
 intro d
 induction d with
 | zero =>
  intro c hl hp hs hst
  have hs6:c.s≠6:=by rcases hst with h|⟨h,_⟩<;>omega
  rw [valX]
  cases hc:t[c.p]? with
  | none=>exact ⟨Leads.none hp hs hc hs6,fun a l h=>by cases h⟩
  | some ch =>
   have hstep:Z2s wh t c ch=valC wh t c ch:=by
    obtain ⟨p,s,out,stk,key⟩:=c
    rcases hst with h|⟨h,h3⟩
    ·simp only at h
     subst h
     rfl
    ·simp only at h
     subst h
     show (if ch=93 then _ else valC wh t _ ch)=_
     rw [if_neg (fun e=>h3 (by rw [←e];exact hc))]
   by_cases hb:ch=91∨ch=123
   ·simp only [hb,if_true]
    refine ⟨Leads.stop hp hs hc ?_,fun a l h=>by cases h⟩
    rw [hstep,valC,if_pos hb,begC,if_pos (by omega)]
   ·simp only [hb,if_false]
    exact Z7w hp hs hc hstep hb
 | succ d ih =>
  intro c hl hp hs hst
  have hs6:c.s≠6:=by rcases hst with h|⟨h,_⟩<;>omega
  rw [valX]
  cases hc:t[c.p]? with
  | none=>exact ⟨Leads.none hp hs hc hs6,fun a l h=>by cases h⟩
  | some ch =>
   have hlt:=(List.getElem?_eq_some_iff.1 hc).1
   have hstep:Z2s wh t c ch=valC wh t c ch:=by
    obtain ⟨p,s,out,stk,key⟩:=c
    rcases hst with h|⟨h,h3⟩
    ·simp only at h
     subst h
     rfl
    ·simp only at h
     subst h
     show (if ch=93 then _ else valC wh t _ ch)=_
     rw [if_neg (fun e=>h3 (by rw [←e];exact hc))]
   by_cases hb:ch=91∨ch=123
   ·simp only [hb,if_true]
    have hq:=Zw (t:=t) (p:=c.p+1) (by omega)
    have hqg:=Zm t (c.p+1)
    have key:∀ (obj:Bool) (k:Int) (s1:Nat),Z2s wh t c ch=.go (rowC (bump c.out c.stk) ((nd k).named c.key) [] (if obj then some [] else none) c.stk (c.p+1) s1 [])→(s1=if obj then 3 else 1) →
      Leads wh t c (upd c (if atB t (Z4 t (c.p+1)) (ZB obj) then .ok (Z4 t (c.p+1)+1) [nd k] else rowX (valX wh t d) t obj (t.length+1) (Z4 t (c.p+1)) [] (nd k) [])) ∧
      ∀ a l,(if atB t (Z4 t (c.p+1)) (ZB obj) then .ok (Z4 t (c.p+1)+1) [nd k] else rowX (valX wh t d) t obj (t.length+1) (Z4 t (c.p+1)) [] (nd k) [])=.ok a l→c.p < a∧a≤t.length∧Z6 l []=l:=by
     intro obj k s1 hgo hs1
     by_cases hcl:atB t (Z4 t (c.p+1)) (ZB obj)=true
     ·rw [if_pos hcl]
      have hlt2:=Z00 hcl
      refine ⟨Leads.step hp hs hc hgo (Nat.lt_succ_self _) (Leads.skip (Leads.step (c:=rowC (bump c.out c.stk) ((nd k).named c.key) [] (if obj then some [] else none) c.stk (Z4 t (c.p+1)) s1 []) (ch:=ZB obj) (c':={ p:=Z4 t (c.p+1)+1,s:=behS c.stk,out:=bump c.out c.stk++[(nd k).named c.key],stk:=c.stk,key:=[] }) hq (Zr _ _) ?_ ?_ (Nat.lt_succ_self _) Leads.refl)),fun a l h=>?_⟩
      ·unfold atB at hcl
       exact eq_of_beq hcl
      ·subst hs1
       cases obj<;>rfl
      ·cases h
       exact ⟨by omega,by omega,rfl⟩
     ·rw [if_neg hcl]
      have hcl':t[Z4 t (c.p+1)]?≠some (ZB obj):=fun h=>hcl (by unfold atB;rw [h];simp)
      have hcond:(obj=true∧(s1=2∨s1=3∧t[Z4 t (c.p+1)]?≠some 125)∨obj=false∧(s1=0∨s1=1∧t[Z4 t (c.p+1)]?≠some 93)):=by
       cases obj
       ·exact .inr ⟨rfl,.inr ⟨hs1,hcl'⟩⟩
       ·exact .inl ⟨rfl,.inr ⟨hs1,hcl'⟩⟩
      have h1:=(Z1e ih (o:=bump c.out c.stk) (stk:=c.stk) (by omega) obj (t.length+1) (Z4 t (c.p+1)) [] [] ((nd k).named c.key) [] s1 (fun _=>Iff.rfl) (by omega) hq (Zr _ _) hcond).1
      have h2:=(Z1e ih (o:=bump c.out c.stk) (stk:=c.stk) (by omega) obj (t.length+1) (Z4 t (c.p+1)) [] [] (nd k) [] s1 (fun _=>Iff.rfl) (by omega) hq (Zr _ _) hcond).2
      rw [Z4N] at h1
      generalize rowX (valX wh t d) t obj (t.length+1) (Z4 t (c.p+1)) [] (nd k) []=R at h1 h2 ⊢
      have h3:=Leads.step hp hs hc hgo (Nat.lt_succ_self _) (Leads.skip h1)
      refine ⟨?_,fun a l h=>?_⟩
      ·cases R<;>exact h3
      ·obtain ⟨h4,h5,h6⟩:=h2 a l h
       exact ⟨by omega,h5,h6 rfl⟩
    by_cases h123:ch=123
    ·have:=key true 7 3 (by
      rw [hstep,valC,if_pos hb,begC,if_neg (by omega)]
      simp only [h123,if_true]
      rfl) rfl
     simpa only [h123,if_true,decide_true] using this
    ·have:=key false 6 1 (by
      rw [hstep,valC,if_pos hb,begC,if_neg (by omega)]
      simp only [h123,if_false]
      rfl) rfl
     simpa only [h123,if_false,decide_false] using this
   ·simp only [hb,if_false]
    exact Z7w hp hs hc hstep hb
theorem Z8K {wh:List UInt8→Int × Bool} {t:List UInt8} (h:t.length≤262144):mach wh t (t.length+1) { p:=0,s:=0,out:=[],stk:=[],key:=[] }=Zy wh t:=by
 have h1:=Leads.skip (c:={ p:=0,s:=0,out:=[],stk:=[],key:=[] }) (Zc9 wh t 32 { p:=Z4 t 0,s:=0,out:=[],stk:=[],key:=[] } rfl (Zw (Nat.zero_le _)) (Zr _ _) (.inl rfl)).1
 have h2:=(Zc9 wh t 32 { p:=Z4 t 0,s:=0,out:=[],stk:=[],key:=[] } rfl (Zw (Nat.zero_le _)) (Zr _ _) (.inl rfl)).2
 have h3:=h1 (t.length+1) (show t.length < 0+(t.length+1) by omega)
 simp only at h2 h3
 unfold Zy
 rw [if_neg (by omega)]
 cases hv:valX wh t 32 (Z4 t 0) with
 | bad e a =>
  rw [hv] at h3
  exact h3
 | ok a l =>
  rw [hv] at h3
  obtain ⟨_,h5,h6⟩:=h2 a l hv
  obtain ⟨f',h7,h8⟩:=h3
  rw [h8]
  have h7':t.length < a+f':=h7
  obtain ⟨g,rfl⟩:∃ g,f'=g+1:=⟨f' - 1,by omega⟩
  have hq:=Zw h5
  show mach wh t (g+1) { p:=a,s:=6,out:=[]++Z6 l [],stk:=[],key:=[] }=_
  rw [h6,List.nil_append]
  simp only [mach,Gt.bind]
  by_cases hlt:Z4 t a < t.length
  ·rw [if_pos hlt,List.getElem?_eq_getElem hlt]
   rfl
  ·rw [if_neg hlt,List.getElem?_eq_none (by omega)]
   rfl
end Sg
/- Nodes in a row that stand for values: forests; what has been read from a text is one value. -/
namespace Sg
inductive Fo:Nat→List Nd→Prop
 | nil:Fo 0 []
 | node {n:Nd} {m k:Nat} {a b:List Nd}:n.kids=(m:Int)→Fo m a→Fo k b→Fo (k+1) (n::(a++b))
theorem Fo.app {j:Nat} {a:List Nd} (h:Fo j a) {k:Nat} {b:List Nd} (hb:Fo k b):Fo (j+k) (a++b):=by
 induction h with
 | nil=>simpa using hb
 | @node n m i x y hn hx _ _ ih =>
  have:=Fo.node (n:=n) hn hx ih
  rw [List.cons_append,List.append_assoc,show i+1+k=i+k+1 by omega]
  exact this
theorem Fo.one {n:Nd} {m:Nat} {a:List Nd} (hn:n.kids=(m:Int)) (ha:Fo m a):Fo 1 (n::a):=by
 have:=Fo.node hn ha Fo.nil
 simpa using this
theorem Fo.one_inv {l:List Nd} (h:Fo 1 l):∃ (n:Nd) (m:Nat) (a:List Nd),l=n::a∧n.kids=(m:Int)∧Fo m a:=by
 cases h with
 | node hn ha hb =>
  cases hb
  exact ⟨_,_,_,by simp,hn,ha⟩
theorem Fo.le {k:Nat} {l:List Nd} (h:Fo k l):k≤l.length:=by
 induction h with
 | nil=>exact Nat.le_refl _
 | node _ _ _ _ ih=>simp only [List.length_cons,List.length_append];omega
theorem Fo.list {k:Nat} {l:List Nd} (h:Fo k l):∃ xs:List (List Nd),xs.length=k∧l=xs.flatten∧∀ x∈xs,Fo 1 x:=by
 induction h with
 | nil=>exact ⟨[],rfl,rfl,fun x hx=>by cases hx⟩
 | @node n m i x y hn hx _ _ ih =>
  obtain ⟨xs,h1,h2,h3⟩:=ih
  refine ⟨(n::x)::xs,by simp [h1],by simp [h2],fun z hz=>?_⟩
  rcases List.mem_cons.1 hz with rfl|hz
  ·exact Fo.one hn hx
  ·exact h3 z hz
theorem Fo.of:∀ {xs:List (List Nd)},(∀ x∈xs,Fo 1 x)→Fo xs.length xs.flatten
 | [],_=>Fo.nil
 | x::r,h=>by
  have h1:=Fo.app (h x (List.mem_cons_self ..)) (Fo.of fun y hy=>h y (List.mem_cons_of_mem _ hy))
  rw [List.flatten_cons,List.length_cons,show r.length+1=1+r.length by omega]
  exact h1
theorem Fo.kids_le {k:Nat} {l:List Nd} (h:Fo k l):∀ n∈l,n.kids < (l.length:Int):=by
 induction h with
 | nil=>intro n hn;cases hn
 | node hn ha _ ih1 ih2 =>
  have:=ha.le
  intro x hx
  simp only [List.length_cons,List.length_append]
  rcases List.mem_cons.1 hx with rfl|hx
  ·omega
  ·rcases List.mem_append.1 hx with hx|hx
   ·have:=ih1 x hx;omega
   ·have:=ih2 x hx;omega
theorem Fo.named {l:List Nd} (h:Fo 1 l) (k:List UInt8):Fo 1 (Z6 l k):=by
 obtain ⟨n,m,a,rfl,h1,h2⟩:=h.one_inv
 exact Fo.one (n:=n.named k) h1 h2
theorem Z88 {wh:List UInt8→Int × Bool} {t:List UInt8} {p a:Nat} {c:UInt8} {l:List Nd} (h:ZT wh t p c=.ok a l):Fo 1 l:=by
 have key:∀ {α β:Type} {g:Gt α} {f:Nat→α→Gt β} {b:Nat} {y:β},(g.bind f=.ok b y)→∃ a v,g=.ok a v∧f a v=.ok b y:=fun {α β g f b y} h=>by
  cases g with
  | bad c' b'=>cases h
  | ok a v=>exact ⟨a,v,rfl,h⟩
 unfold ZT at h
 repeat' split at h
 all_goals first
  | (obtain ⟨b,v,-,h⟩:=key h;cases h;exact Fo.one (m:=0) rfl .nil)
  | cases h
def RowFo (hd:Nd) (out:List Nd):Prop:=∃ m:Nat,hd.kids=(m:Int)∧Fo m out
theorem RowFo.add {hd:Nd} {out l:List Nd} (h:RowFo hd out) (hl:Fo 1 l):RowFo hd.more (out++l):=by
 obtain ⟨m,h1,h2⟩:=h
 refine ⟨m+1,?_,h2.app hl⟩
 simp only [Nd.more,h1]
 omega
theorem Zd6 {val:Nat→Gt (List Nd)} (hv:∀ {p a l},val p=.ok a l→Fo 1 l) {t:List UInt8} {obj:Bool} {p a:Nat} {names:List (List UInt8)} {g:List Nd × List UInt8} (h:Z0M val t obj p names=.ok a g):Fo 1 g.1:=by
 have key:∀ {α β:Type} {g:Gt α} {f:Nat→α→Gt β} {b:Nat} {y:β},(g.bind f=.ok b y)→∃ a v,g=.ok a v∧f a v=.ok b y:=fun {α β g f b y} h=>by
  cases g with
  | bad c' b'=>cases h
  | ok a v=>exact ⟨a,v,rfl,h⟩
 unfold Z0M at h
 split at h
 ·split at h
  ·obtain ⟨b,s,-,h⟩:=key h
   split at h
   ·cases h
   ·split at h
    ·obtain ⟨d,v,h1,h⟩:=key h
     cases h
     exact (hv h1).named _
    ·cases h
  ·cases h
 ·obtain ⟨d,v,h1,h⟩:=key h
  cases h
  exact hv h1
theorem Zcd {val:Nat→Gt (List Nd)} (hv:∀ {p a l},val p=.ok a l→Fo 1 l) {t:List UInt8} {obj:Bool}:∀ {f p a:Nat} {names:List (List UInt8)} {hd:Nd} {out l:List Nd},rowX val t obj f p names hd out=.ok a l→RowFo hd out→Fo 1 l
 | 0,p,a,names,hd,out,l,h,_=>by rw [rowX] at h;cases h
 | f+1,p,a,names,hd,out,l,h,hr=>by
  rw [rowX] at h
  cases hi:Z0M val t obj p names with
  | bad c b=>rw [hi] at h;cases h
  | ok b g =>
   rw [hi] at h
   have hg:=Zd6 hv hi
   have hr2:=hr.add hg
   have h':rowE t obj (fun p'=>rowX val t obj f p' (names++[g.2]) hd.more (out++g.1)) b (hd.more::(out++g.1))=.ok a l:=h
   unfold rowE at h'
   split at h'
   ·cases h'
    obtain ⟨m,h1,h2⟩:=hr2
    exact Fo.one h1 h2
   ·split at h'
    ·exact Zcd hv h' hr2
    ·cases h'
theorem Z9i {wh:List UInt8→Int × Bool} {t:List UInt8}:∀ {d p a:Nat} {l:List Nd},valX wh t d p=.ok a l→Fo 1 l:=by
 intro d
 induction d with
 | zero =>
  intro p a l h
  rw [valX] at h
  split at h
  ·cases h
  ·split at h
   ·cases h
   ·exact Z88 h
 | succ d ih =>
  intro p a l h
  rw [valX] at h
  split at h
  ·cases h
  ·split at h
   ·rename_i c hc hb
    have h':(if atB t (Z4 t (p+1)) (ZB (decide (c=123)))=true then Gt.ok (Z4 t (p+1)+1) [nd (if c=123 then 7 else 6)] else rowX (valX wh t d) t (decide (c=123)) (t.length+1) (Z4 t (p+1)) [] (nd (if c=123 then 7 else 6)) [])=Gt.ok a l:=h
    split at h'
    ·cases h'
     exact Fo.one (m:=0) rfl .nil
    ·exact Zcd ih h' ⟨0,rfl,.nil⟩
   ·exact Z88 h
theorem Z1r {wh:List UInt8→Int × Bool} {t:List UInt8} {a:Nat} {l:List Nd} (h:Zy wh t=.ok a l):Fo 1 l:=by
 unfold Zy at h
 split at h
 ·cases h
 ·cases hv:valX wh t 32 (Z4 t 0) with
  | bad c b=>rw [hv] at h;cases h
  | ok b v =>
   rw [hv] at h
   have h':(if Z4 t b < t.length then Gt.bad 31 (Z4 t b) else .ok (Z4 t b) v)=.ok a l:=h
   split at h'
   ·cases h'
   ·cases h'
    exact Z9i hv
def offs:Nat→List (List Nd)→List Nat
 | _,[]=>[]
 | p,x::r=>p::offs (p+x.length) r
theorem Z1s:∀ (p:Nat) (xs:List (List Nd)),(offs p xs).length=xs.length
 | _,[]=>rfl
 | p,x::r=>by simp [offs,Z1s]
def Z3 (x:List Nd):Nd:=match x with
 | n::_=>n
 | []=>nd 0
def Z5p (p:Nat) (xs:List (List Nd)) (key:List UInt8):Int:=match xs with
 | [] => -1
 | x::r=>if (Z3 x).key=key then (p:Int) else Z5p (p+x.length) r key
end Sg
/- What has been read from a text: how long it is, its texts and kinds. -/
namespace Sg
theorem Zd {α β:Type} {g:Gt α} {f:Nat→α→Gt β} {b:Nat} {y:β} (h:g.bind f=.ok b y):∃ a v,g=.ok a v∧f a v=.ok b y:=by
 cases g with
 | bad c' b'=>cases h
 | ok a v=>exact ⟨a,v,rfl,h⟩
theorem Z9m (u:Nat):(utfL u).length≤4:=by
 unfold utfL
 split
 ·exact (show 1≤4 by decide)
 ·split
  ·exact (show 2≤4 by decide)
  ·split
   ·exact (show 3≤4 by decide)
   ·exact Nat.le_refl 4
theorem Z23 {t:List UInt8}:∀ {f p a:Nat} {acc s:List UInt8},p≤t.length→ZD t f p acc=.ok a s→acc.length≤4*p→s.length≤4*a
 | 0,p,a,acc,s,_,h,_=>by rw [ZD] at h;cases h
 | f+1,p,a,acc,s,hp,h,hl=>by
  rw [ZD] at h
  split at h
  ·cases h
  ·rename_i c hc
   have hlt:p < t.length:=(List.getElem?_eq_some_iff.1 hc).1
   split at h
   ·cases h
   ·split at h
    ·cases h
     omega
    ·split at h
     ·obtain ⟨b,u,h1,h2⟩:=Zd h
      have h3:=Z1V b u h1
      have h4:=Z9m u
      exact Z23 h3.2 h2 (by rw [List.length_append];omega)
     ·split at h
      ·exact Z23 hlt h (by rw [List.length_append,List.length_singleton];omega)
      ·obtain ⟨b,u,h1,h2⟩:=Zd h
       have h3:=Z0E hlt b u h1
       exact Z23 h3.2 h2 (by rw [List.length_append,List.length_take,List.length_drop];omega)
theorem Z3Q {t:List UInt8} {p a:Nat} {s:List UInt8} (hp:p≤t.length) (h:ZL t p=.ok a s):s.length≤4*t.length:=by
 have h1:=Z23 hp h (by simp)
 have h2:=(ZP hp a s h).2
 omega
structure NdOk (B:Nat) (n:Nd):Prop where
 text:n.text.length≤B
 key:n.key.length≤B
 kind:1≤n.kind∧n.kind≤7
theorem ZbP {wh:List UInt8→Int × Bool} {t:List UInt8} {p a:Nat} {c:UInt8} {l:List Nd} (hp:p < t.length) (h:ZT wh t p c=.ok a l):∀ n∈l,NdOk (4*t.length) n:=by
 unfold ZT at h
 split at h
 ·obtain ⟨b,s,h1,h⟩:=Zd h
  cases h
  intro n hn
  rw [List.mem_singleton.1 hn]
  exact ⟨Z3Q hp h1,Nat.zero_le _,(show (1:Int)≤5 by decide),(show (5:Int)≤7 by decide)⟩
 ·split at h
  ·obtain ⟨b,s,h1,h⟩:=Zd h
   cases h
   intro n hn
   rw [List.mem_singleton.1 hn]
   refine ⟨?_,Nat.zero_le _,(show (1:Int)≤4 by decide),(show (4:Int)≤7 by decide)⟩
   simp only
   unfold sl
   rw [List.length_take,List.length_drop]
   omega
  ·repeat' split at h
   all_goals first
    | (obtain ⟨b,v,-,h⟩:=Zd h;cases h;intro n hn;rw [List.mem_singleton.1 hn];exact ⟨Nat.zero_le _,Nat.zero_le _,by decide,by decide⟩)
    | cases h
def Z7s (t:List UInt8) (p a:Nat) (l:List Nd):Prop:=p+l.length≤a∧a≤t.length∧(∀ n∈l,NdOk (4*t.length) n)
theorem Z2J (l:List Nd) (k:List UInt8):(Z6 l k).length=l.length:=by cases l<;>rfl
theorem Zbx {B:Nat} {l:List Nd} {k:List UInt8} (h:∀ n∈l,NdOk B n) (hk:k.length≤B):∀ n∈Z6 l k,NdOk B n:=by
 cases l with
 | nil=>exact h
 | cons x r =>
  intro n hn
  rcases List.mem_cons.1 hn with rfl|hn
  ·have:=h x (List.mem_cons_self ..)
   exact ⟨this.text,hk,this.kind⟩
  ·exact h n (List.mem_cons_of_mem _ hn)
theorem Zd5 {val:Nat→Gt (List Nd)} {t:List UInt8} (hv:∀ {p a l},p≤t.length→val p=.ok a l→Z7s t p a l) {obj:Bool} {p a:Nat} {names:List (List UInt8)} {g:List Nd × List UInt8} (hp:p≤t.length) (h:Z0M val t obj p names=.ok a g):Z7s t p a g.1∧g.2.length≤4*t.length:=by
 unfold Z0M at h
 split at h
 ·split at h
  ·rename_i hq
   have hlt:=Z00 hq
   obtain ⟨b,s,h1,h⟩:=Zd h
   have hf:=ZP (t:=t) (p:=p+1) hlt b s h1
   have hs:=Z3Q (t:=t) (p:=p+1) hlt h1
   split at h
   ·cases h
   ·split at h
    ·rename_i hc
     have hlt2:=Z00 hc
     have h2:=Zm t b
     have h3:=Zm t (Z4 t b+1)
     have h4:=Zw (t:=t) (p:=Z4 t b+1) hlt2
     obtain ⟨d,v,h5,h⟩:=Zd h
     cases h
     obtain ⟨h6,h7,h8⟩:=hv h4 h5
     exact ⟨⟨by rw [Z2J];omega,h7,Zbx h8 hs⟩,hs⟩
    ·cases h
  ·cases h
 ·obtain ⟨d,v,h1,h⟩:=Zd h
  cases h
  exact ⟨hv hp h1,Nat.zero_le _⟩
theorem Zcc {val:Nat→Gt (List Nd)} {t:List UInt8} (hv:∀ {p a l},p≤t.length→val p=.ok a l→Z7s t p a l) {obj:Bool} {s:Nat}:∀ {f p a:Nat} {names:List (List UInt8)} {hd:Nd} {out l:List Nd},rowX val t obj f p names hd out=.ok a l→p≤t.length→s+1+out.length≤p→NdOk (4*t.length) hd→(∀ n∈out,NdOk (4*t.length) n)→Z7s t s a l
 | 0,p,a,names,hd,out,l,h,_,_,_,_=>by rw [rowX] at h;cases h
 | f+1,p,a,names,hd,out,l,h,hp,hl,hh,ho=>by
  rw [rowX] at h
  cases hi:Z0M val t obj p names with
  | bad c b=>rw [hi] at h;cases h
  | ok b g =>
   rw [hi] at h
   obtain ⟨⟨g1,g2,g3⟩,-⟩:=Zd5 hv hp hi
   have hh2:NdOk (4*t.length) hd.more:=⟨hh.text,hh.key,hh.kind⟩
   have ho2:∀ n∈out++g.1,NdOk (4*t.length) n:=fun n hn=>(List.mem_append.1 hn).elim (ho n) (g3 n)
   have h':rowE t obj (fun p'=>rowX val t obj f p' (names++[g.2]) hd.more (out++g.1)) b (hd.more::(out++g.1))=.ok a l:=h
   unfold rowE at h'
   have hb:=Zm t b
   split at h'
   ·rename_i hc
    have hlt:=Z00 hc
    cases h'
    refine ⟨?_,by omega,fun n hn=>(List.mem_cons.1 hn).elim (fun e=>e ▸ hh2) (ho2 n)⟩
    rw [List.length_cons,List.length_append]
    omega
   ·split at h'
    ·rename_i hc
     have hlt:=Z00 hc
     have h3:=Zm t (Z4 t b+1)
     have h4:=Zw (t:=t) (p:=Z4 t b+1) hlt
     exact Zcc hv h' h4 (by rw [List.length_append];omega) hh2 ho2
    ·cases h'
theorem ZdQ {B:Nat} {k:Int} (h:1≤k∧k≤7):NdOk B (nd k):=⟨Nat.zero_le _,Nat.zero_le _,h⟩
theorem Z7v {wh:List UInt8→Int × Bool} {t:List UInt8}:∀ {d p a:Nat} {l:List Nd},p≤t.length→valX wh t d p=.ok a l→Z7s t p a l:=by
 have flat:∀ {p a:Nat} {l:List Nd} {c:UInt8},t[p]?=some c→ZT wh t p c=.ok a l→Z7s t p a l:=by
  intro p a l c hc h
  have hlt:p < t.length:=(List.getElem?_eq_some_iff.1 hc).1
  have h1:=Z0H hlt a l h
  obtain ⟨n,h2,-⟩:=Z6u h
  refine ⟨?_,h1.2,ZbP hlt h⟩
  rw [h2,List.length_singleton]
  omega
 intro d
 induction d with
 | zero =>
  intro p a l hp h
  rw [valX] at h
  split at h
  ·cases h
  ·rename_i hc
   split at h
   ·cases h
   ·exact flat hc h
 | succ d ih =>
  intro p a l hp h
  rw [valX] at h
  split at h
  ·cases h
  ·rename_i c hc
   have hlt:p < t.length:=(List.getElem?_eq_some_iff.1 hc).1
   have hk:(1:Int)≤(if c=123 then 7 else 6)∧(if c=123 then 7 else 6:Int)≤7:=by split<;>decide
   split at h
   ·have h':(if atB t (Z4 t (p+1)) (ZB (decide (c=123)))=true then Gt.ok (Z4 t (p+1)+1) [nd (if c=123 then 7 else 6)] else rowX (valX wh t d) t (decide (c=123)) (t.length+1) (Z4 t (p+1)) [] (nd (if c=123 then 7 else 6)) [])=Gt.ok a l:=h
    clear h
    have h:=h'
    clear h'
    have h3:=Zm t (p+1)
    have h4:=Zw (t:=t) (p:=p+1) hlt
    split at h
    ·rename_i hq
     have hlt2:=Z00 hq
     cases h
     refine ⟨by rw [List.length_singleton];omega,by omega,fun n hn=>?_⟩
     rw [List.mem_singleton.1 hn]
     exact ZdQ hk
    ·exact Zcc ih h h4 (by simp only [List.length_nil];omega) (ZdQ hk) (fun n hn=>by cases hn)
   ·exact flat hc h
theorem Z3s {wh:List UInt8→Int × Bool} {t:List UInt8} {a:Nat} {l:List Nd} (h:Zy wh t=.ok a l):l.length≤t.length∧(∀ n∈l,NdOk (4*t.length) n)∧t.length≤262144:=by
 unfold Zy at h
 split at h
 ·cases h
 ·obtain ⟨b,v,hv,h⟩:=Zd h
  split at h
  ·cases h
  ·cases h
   obtain ⟨h1,h2,h3⟩:=Z7v (Zw (Nat.zero_le _)) hv
   exact ⟨by omega,h3,by omega⟩
end Sg
/- Faults of what is read from a text are never 0; a list's names are not asked. -/
namespace Sg
def Gt.named {α:Type} (g:Gt α):Prop:=∀ c b,g=.bad c b→c≠0
theorem Gt.named_bad {α:Type} {c:Int} {b:Nat} (h:c≠0):(Gt.bad c b:Gt α).named:=fun _ _ e=>by cases e;exact h
theorem Gt.named_ok {α:Type} {a:Nat} {v:α}:(Gt.ok a v).named:=fun _ _ e=>by cases e
theorem Gt.named_bind {α β:Type} {g:Gt α} {f:Nat→α→Gt β} (h:g.named) (hf:∀ a v,g=.ok a v→(f a v).named):(g.bind f).named:=fun c b e=>by
 cases g with
 | bad c' b'=>cases e;exact h _ _ rfl
 | ok a v=>exact hf a v rfl c b e
theorem Z2x {t:List UInt8} {p:Nat}:(Z0P t p).named:=by
 unfold Z0P
 split
 ·exact Gt.named_bad (by decide)
 ·exact Gt.named_ok
theorem Z68 {t:List UInt8} {p:Nat}:(Z1C t p).named:=by
 unfold Z1C
 split
 ·exact Gt.named_ok
 ·exact Z2x
theorem Z8D {t:List UInt8} {p:Nat}:(numX t p).named:=by
 unfold numX
 refine Gt.named_bind Z68 fun a _ _=>Gt.named_bind ?_ fun b _ _=>?_
 ·unfold Z0w
  split
  ·exact Z2x
  ·exact Gt.named_ok
 ·unfold Z1N
  split
  ·exact Z2x
  ·exact Gt.named_ok
theorem Z1l {t:List UInt8}:∀ {ws:List UInt8} {p:Nat},(Z0v t p ws).named
 | [],p=>Gt.named_ok
 | w::ws,p=>by
  rw [Z0v]
  split
  ·exact Z1l
  ·exact Gt.named_bad (by decide)
theorem Z2w {t:List UInt8} {low:Bool} {fr:Nat}:∀ {k p u:Nat},(Z01 t low fr k p u).named
 | 0,p,u=>Gt.named_ok
 | k+1,p,u=>by
  rw [Z01]
  split
  ·exact Gt.named_bad (by decide)
  ·split
   ·exact Gt.named_bad (by decide)
   ·split
    ·exact Gt.named_bad (by decide)
    ·exact Z2w
theorem Z3K {t:List UInt8} {fr p:Nat} {c:UInt8}:(Z2C t fr p c).named:=by
 unfold Z2C
 split
 ·exact Gt.named_bad (by decide)
 ·split
  ·exact Gt.named_ok
  ·exact Gt.named_bad (by decide)
theorem Z8W {t:List UInt8} {fr:Nat}:(escX t fr).named:=by
 unfold escX
 split
 ·exact Gt.named_bad (by decide)
 ·split
  ·unfold Z1M
   refine Gt.named_bind Z2w fun a v _=>?_
   split
   ·exact Gt.named_ok
   ·exact Gt.named_bind Z3K fun _ _ _=>Gt.named_bind Z3K fun _ _ _=>Gt.named_bind Z2w fun _ _ _=>Gt.named_ok
  ·split
   ·exact Gt.named_ok
   ·exact Gt.named_bad (by decide)
theorem Z4J {t:List UInt8} {fr:Nat}:∀ {k p lo hi:Nat},(seqX t fr k p lo hi).named
 | 0,p,lo,hi=>Gt.named_ok
 | k+1,p,lo,hi=>by
  rw [seqX]
  split
  ·exact Gt.named_bad (by decide)
  ·split
   ·exact Gt.named_bad (by decide)
   ·exact Z4J
theorem Z6R {t:List UInt8} {p:Nat} {c:UInt8}:(Z2D t p c).named:=by
 unfold Z2D
 split
 ·exact Gt.named_bad (by decide)
 ·exact Z4J
theorem Z1q {t:List UInt8}:∀ {f p:Nat} {acc:List UInt8},p≤t.length→t.length < p+f→(ZD t f p acc).named
 | 0,p,acc,h1,h2=>by omega
 | f+1,p,acc,h1,h2=>by
  rw [ZD]
  split
  ·exact Gt.named_bad (by decide)
  ·rename_i c hc
   have hlt:p < t.length:=(List.getElem?_eq_some_iff.1 hc).1
   split
   ·exact Gt.named_bad (by decide)
   ·split
    ·exact Gt.named_ok
    ·split
     ·refine Gt.named_bind Z8W fun a v hv=>?_
      have:=Z1V a v hv
      exact Z1q this.2 (by omega)
     ·split
      ·exact Z1q hlt (by omega)
      ·refine Gt.named_bind Z6R fun a v hv=>?_
       have:=Z0E hlt a v hv
       exact Z1q this.2 (by omega)
theorem Z3f {t:List UInt8} {p:Nat} (h:p≤t.length):(ZL t p).named:=Z1q h (by omega)
theorem Z4k {wh:List UInt8→Int × Bool} {t:List UInt8} {p:Nat} {c:UInt8} (h:p < t.length):(ZT wh t p c).named:=by
 unfold ZT
 split
 ·exact Gt.named_bind (Z3f h) fun _ _ _=>Gt.named_ok
 ·split
  ·exact Gt.named_bind Z8D fun _ _ _=>Gt.named_ok
  ·split
   ·exact Gt.named_bind Z1l fun _ _ _=>Gt.named_ok
   ·split
    ·exact Gt.named_bind Z1l fun _ _ _=>Gt.named_ok
    ·split
     ·exact Gt.named_bind Z1l fun _ _ _=>Gt.named_ok
     ·exact Gt.named_bad (by decide)
structure ValR (t:List UInt8) (val:Nat→Gt (List Nd)):Prop where
 fits:∀ p,p≤t.length→(val p).fits (p+1) t.length
 sz:∀ {p a l},p≤t.length→val p=.ok a l→Z7s t p a l
 fo:∀ {p a l},val p=.ok a l→Fo 1 l
 named:∀ p,p≤t.length→(val p).named
theorem Z6k {val:Nat→Gt (List Nd)} {t:List UInt8} (hv:ValR t val) {obj:Bool} {p:Nat} {names:List (List UInt8)} (hp:p≤t.length):(Z0M val t obj p names).fits (p+1) t.length:=by
 unfold Z0M
 split
 ·split
  ·rename_i hq
   have hlt:=Z00 hq
   refine Gt.fits_bind (ZP (t:=t) (p:=p+1) hlt) fun b s h1 h2=>?_
   split
   ·exact Gt.fits_bad
   ·split
    ·rename_i hc
     have hlt2:=Z00 hc
     have h3:=Zm t b
     have h4:=Zm t (Z4 t b+1)
     have h5:=Zw (t:=t) (p:=Z4 t b+1) hlt2
     intro a v h
     obtain ⟨d,l,h6,h7⟩:=Zd h
     cases h7
     have:=hv.fits _ h5 _ _ h6
     omega
    ·exact Gt.fits_bad
  ·exact Gt.fits_bad
 ·intro a v h
  obtain ⟨d,l,h6,h7⟩:=Zd h
  cases h7
  exact hv.fits _ hp _ _ h6
theorem Z8P {val:Nat→Gt (List Nd)} {t:List UInt8} (hv:ValR t val) {obj:Bool} {p:Nat} {names:List (List UInt8)} (hp:p≤t.length):(Z0M val t obj p names).named:=by
 unfold Z0M
 split
 ·split
  ·rename_i hq
   have hlt:=Z00 hq
   refine Gt.named_bind (Z3f (t:=t) (p:=p+1) hlt) fun b s h1=>?_
   split
   ·exact Gt.named_bad (by decide)
   ·split
    ·rename_i hc
     have hlt2:=Z00 hc
     exact Gt.named_bind (hv.named _ (Zw (t:=t) (p:=Z4 t b+1) hlt2)) fun _ _ _=>Gt.named_ok
    ·exact Gt.named_bad (by decide)
  ·exact Gt.named_bad (by decide)
 ·exact Gt.named_bind (hv.named _ hp) fun _ _ _=>Gt.named_ok
theorem Z61 {val:Nat→Gt (List Nd)} {t:List UInt8} (hv:ValR t val) {obj:Bool}:∀ {f p:Nat} {names:List (List UInt8)} {hd:Nd} {out:List Nd},p≤t.length→t.length < p+f→(rowX val t obj f p names hd out).named
 | 0,p,names,hd,out,h1,h2=>by omega
 | f+1,p,names,hd,out,h1,h2=>by
  rw [rowX]
  refine Gt.named_bind (Z8P hv h1) fun a g hg=>?_
  have h3:=Z6k hv h1 a g hg
  unfold rowE
  split
  ·exact Gt.named_ok
  ·split
   ·rename_i hc
    have hlt:=Z00 hc
    have h4:=Zm t a
    have h5:=Zm t (Z4 t a+1)
    have h6:=Zw (t:=t) (p:=Z4 t a+1) hlt
    exact Z61 hv h6 (by omega)
   ·exact Gt.named_bad (by decide)
theorem Z7G {val:Nat→Gt (List Nd)} {t:List UInt8} (hv:ValR t val) {obj:Bool}:∀ {f p:Nat} {names:List (List UInt8)} {hd:Nd} {out:List Nd},p≤t.length→(rowX val t obj f p names hd out).fits (p+1) t.length
 | 0,p,names,hd,out,h1=>by rw [rowX];exact Gt.fits_bad
 | f+1,p,names,hd,out,h1=>by
  rw [rowX]
  refine Gt.fits_bind (Z6k hv h1) fun a g h3 h4=>?_
  have h5:=Zm t a
  unfold rowE
  split
  ·rename_i hc
   have hlt:=Z00 hc
   exact Gt.fits_ok (by omega)
  ·split
   ·rename_i hc
    have hlt:=Z00 hc
    have h6:=Zm t (Z4 t a+1)
    have h7:=Zw (t:=t) (p:=Z4 t a+1) hlt
    intro b v h
    have:=Z7G hv h7 b v h
    omega
   ·exact Gt.fits_bad
theorem ZaY {wh:List UInt8→Int × Bool} {t:List UInt8}:∀ d,ValR t (valX wh t d):=by
 intro d
 induction d with
 | zero =>
  refine ⟨fun p hp=>?_,Z7v,Z9i,fun p hp=>?_⟩
  ·rw [valX]
   split
   ·exact Gt.fits_bad
   ·rename_i c hc
    split
    ·exact Gt.fits_bad
    ·exact Z0H (List.getElem?_eq_some_iff.1 hc).1
  ·rw [valX]
   split
   ·exact Gt.named_bad (by decide)
   ·rename_i c hc
    split
    ·exact Gt.named_bad (by decide)
    ·exact Z4k (List.getElem?_eq_some_iff.1 hc).1
 | succ d ih =>
  refine ⟨fun p hp=>?_,Z7v,Z9i,fun p hp=>?_⟩
  ·rw [valX]
   split
   ·exact Gt.fits_bad
   ·rename_i c hc
    have hlt:p < t.length:=(List.getElem?_eq_some_iff.1 hc).1
    split
    ·simp only
     have h3:=Zm t (p+1)
     have h4:=Zw (t:=t) (p:=p+1) hlt
     split
     ·rename_i hq
      have hlt2:=Z00 hq
      exact Gt.fits_ok (by omega)
     ·intro a v h
      have:=Z7G ih h4 a v h
      omega
    ·exact Z0H hlt
  ·rw [valX]
   split
   ·exact Gt.named_bad (by decide)
   ·rename_i c hc
    have hlt:p < t.length:=(List.getElem?_eq_some_iff.1 hc).1
    split
    ·simp only
     have h4:=Zw (t:=t) (p:=p+1) hlt
     split
     ·exact Gt.named_ok
     ·exact Z61 ih h4 (by omega)
    ·exact Z4k hlt
theorem Z4U {wh:List UInt8→Int × Bool} {t:List UInt8} {c:Int} {b:Nat} (h:Zy wh t=.bad c b):c≠0:=by
 unfold Zy at h
 split at h
 ·cases h
  decide
 ·cases hv:valX wh t 32 (Z4 t 0) with
  | bad c' b' =>
   rw [hv] at h
   cases h
   exact (ZaY (wh:=wh) (t:=t) 32).named _ (Zw (Nat.zero_le _)) _ _ hv
  | ok a v =>
   rw [hv] at h
   have h':(if Z4 t a < t.length then Gt.bad 31 (Z4 t a) else .ok (Z4 t a) v)=.bad c b:=h
   split at h'
   ·cases h'
    decide
   ·cases h'
end Sg
/- Where the values in a list or an object stand. -/
namespace Sg
theorem Z8Y {α:Type} {v a b:List α} {p:Nat} (h:v.drop p=a++b):v.drop (p+a.length)=b:=by
 rw [←List.drop_drop,h,List.drop_left]
theorem Z3a {α:Type} {v a b:List α} {p:Nat} (h:v.drop p=a++b) (ha:0 < a.length):p+a.length+b.length=v.length:=by
 have:=congrArg List.length h
 rw [List.length_drop,List.length_append] at this
 omega
theorem Z0j [Inhabited Nd] {v b:List Nd} {n:Nd} {p:Nat} (h:v.drop p=n::b):v.getD p default=n∧p < v.length:=by
 have h1:p < v.length:=by
  rcases Nat.lt_or_ge p v.length with h1|h1
  ·exact h1
  ·rw [List.drop_eq_nil_of_le h1] at h
   cases h
 rw [List.drop_eq_getElem_cons h1] at h
 injection h with h2 _
 exact ⟨by simp [List.getD,h1,h2],h1⟩
theorem Fo.pos {l:List Nd} (h:Fo 1 l):0 < l.length:=h.le
theorem Z9T (p:Nat) (x:List Nd) (r:List (List Nd)):offs p (x::r)=p::offs (p+x.length) r:=rfl
theorem Z67:∀ (p:Nat) (xs:List (List Nd)) (x:List Nd),offs p (xs++[x])=offs p xs++[p+xs.flatten.length]
 | p,[],x=>by simp [offs]
 | p,y::r,x=>by
  rw [List.cons_append,offs,offs,Z67]
  simp [Nat.add_assoc]
theorem Z2I:∀ {p:Nat} {xs:List (List Nd)} {i:Nat},i < xs.length→(offs p xs).getD i 0=p+(xs.take i).flatten.length
 | p,x::r,0,_=>by simp [offs]
 | p,x::r,i+1,h=>by
  have:=Z2I (p:=p+x.length) (xs:=r) (i:=i) (by simpa using h)
  rw [offs,List.getD_cons_succ,this,List.take_succ_cons,List.flatten_cons,List.length_append,Nat.add_assoc]
theorem Z4Z (p:Nat) (x:List Nd) (r:List (List Nd)) (key:List UInt8):Z5p p (x::r) key=if (Z3 x).key=key then (p:Int) else Z5p (p+x.length) r key:=rfl
structure At (v:List Nd) (p:Nat) (n:Nd) (xs:List (List Nd)) (r:List Nd):Prop where
 drop:v.drop p=n::(xs.flatten++r)
 kids:n.kids=(xs.length:Int)
 fo:∀ x∈xs,Fo 1 x
theorem At.of_fo {v x r:List Nd} {p:Nat} (h:v.drop p=x++r) (hx:Fo 1 x):∃ n xs,x=n::xs.flatten∧At v p n xs r:=by
 obtain ⟨n,m,a,rfl,h1,h2⟩:=hx.one_inv
 obtain ⟨xs,h3,rfl,h4⟩:=h2.list
 exact ⟨n,xs,rfl,⟨by simpa using h,by rw [h1,h3],h4⟩⟩
theorem At.kid {v r:List Nd} {p i:Nat} {n:Nd} {xs:List (List Nd)} (h:At v p n xs r) (hi:i < xs.length):v.drop (p+1+(xs.take i).flatten.length)=xs[i]++((xs.drop (i+1)).flatten++r):=by
 have h1:v.drop (p+1)=xs.flatten++r:=by
  rw [←List.drop_drop,h.drop]
  rfl
 have h2:xs.flatten=(xs.take i).flatten++(xs.drop i).flatten:=by rw [←List.flatten_append,List.take_append_drop]
 rw [h2,List.append_assoc] at h1
 rw [Z8Y h1,List.drop_eq_getElem_cons hi,List.flatten_cons,List.append_assoc]
theorem Z0p {xs:List (List Nd)} {i:Nat} (hi:i < xs.length):(xs.take (i+1)).flatten.length=(xs.take i).flatten.length+xs[i].length:=by
 rw [List.take_succ_eq_append_getElem hi,List.flatten_append,List.length_append]
 simp only [List.flatten_cons,List.flatten_nil,List.append_nil]
end Sg
/- Values in a row of nodes, reckoned: how far a value goes, what stands in it, its members. -/
namespace Sg
def runL:List Nd→Nat→Nat
 | _,0=>0
 | [],_+1=>0
 | n::r,k+1=>1+runL r (k+n.kids.toNat)
def Z5O:Nat→List Nd→List (List Nd)
 | 0,_=>[]
 | k+1,l=>l.take (runL l 1)::Z5O k (l.drop (runL l 1))
def Zz (v:List Nd) (p:Nat):Nd:=match v[p]? with
 | some n=>n
 | none=>nd 0
def kidsOf (v:List Nd) (p:Nat):List (List Nd):=Z5O (Zz v p).kids.toNat (v.drop (p+1))
theorem ZcO {k:Nat} {x:List Nd} (h:Fo k x):∀ (r:List Nd) (j:Nat),runL (x++r) (k+j)=x.length+runL r j:=by
 induction h with
 | nil=>intro r j;simp
 | @node n m i a b hn ha hb ih1 ih2 =>
  intro r j
  rw [List.cons_append,show i+1+j=(i+j)+1 by omega,runL,hn]
  have h1:((m:Int)).toNat=m:=by omega
  rw [h1,List.append_assoc,show i+j+m=m+(i+j) by omega,ih1,ih2]
  simp only [List.length_cons,List.length_append]
  omega
theorem Zbf {x:List Nd} (h:Fo 1 x) (r:List Nd):runL (x++r) 1=x.length:=by
 have:=ZcO h r 0
 simpa [runL] using this
theorem Z3H:∀ {xs:List (List Nd)} (r:List Nd),(∀ x∈xs,Fo 1 x)→Z5O xs.length (xs.flatten++r)=xs
 | [],r,_=>rfl
 | x::xs,r,h=>by
  have h1:=Zbf (h x (List.mem_cons_self ..)) (xs.flatten++r)
  rw [List.length_cons,Z5O,List.flatten_cons,List.append_assoc,h1,List.take_left,List.drop_left,Z3H r fun y hy=>h y (List.mem_cons_of_mem _ hy)]
theorem Z9Z {v b:List Nd} {p:Nat} {n:Nd} (h:v.drop p=n::b):Zz v p=n:=by
 have:Inhabited Nd:=⟨nd 0⟩
 obtain ⟨h1,h2⟩:=Z0j h
 unfold Zz
 rw [List.getElem?_eq_getElem h2]
 simpa [List.getD,h2] using h1
theorem Zc [Inhabited Nd] {v:List Nd} {p:Nat} (h:p < v.length):Zz v p=v.getD p default:=by
 unfold Zz
 rw [List.getElem?_eq_getElem h]
 simp [List.getD,h]
theorem At.node {v r:List Nd} {p:Nat} {n:Nd} {xs:List (List Nd)} (h:At v p n xs r):Zz v p=n:=Z9Z h.drop
theorem At.lt {v r:List Nd} {p:Nat} {n:Nd} {xs:List (List Nd)} (h:At v p n xs r):p < v.length:=by
 have:Inhabited Nd:=⟨nd 0⟩
 exact (Z0j h.drop).2
theorem At.kidsOf {v r:List Nd} {p:Nat} {n:Nd} {xs:List (List Nd)} (h:At v p n xs r):kidsOf v p=xs:=by
 unfold Sg.kidsOf
 have h1:v.drop (p+1)=xs.flatten++r:=by
  rw [←List.drop_drop,h.drop]
  rfl
 have h2:((xs.length:Nat):Int).toNat=xs.length:=by omega
 rw [h.node,h.kids,h1,h2,Z3H r h.fo]
def IsAt (v:List Nd) (p:Nat):Prop:=∃ r,At v p (Zz v p) (kidsOf v p) r
theorem At.is {v r:List Nd} {p:Nat} {n:Nd} {xs:List (List Nd)} (h:At v p n xs r):IsAt v p:=⟨r,by rw [h.node,h.kidsOf];exact h⟩
theorem IsAt.lt {v:List Nd} {p:Nat} (h:IsAt v p):p < v.length:=h.choose_spec.lt
def memI (v:List Nd) (p:Nat) (key:List UInt8):Int:=if (Zz v p).kind=7 then Z5p (p+1) (kidsOf v p) key else -1
theorem At.kidIs {v r:List Nd} {p i:Nat} {n:Nd} {xs:List (List Nd)} (h:At v p n xs r) (hi:i < xs.length):IsAt v (p+1+(xs.take i).flatten.length):=by
 obtain ⟨n2,xs2,-,h2⟩:=At.of_fo (h.kid hi) (h.fo _ (List.getElem_mem hi))
 exact h2.is
theorem IsAt.of_fo {v:List Nd} (h:Fo 1 v):IsAt v 0:=by
 obtain ⟨n,xs,-,h2⟩:=At.of_fo (v:=v) (p:=0) (x:=v) (r:=[]) (by simp) h
 exact h2.is
theorem IsAt.kids_len {v:List Nd} {p:Nat} (h:IsAt v p):(Zz v p).kids=((Sg.kidsOf v p).length:Int)∧(Sg.kidsOf v p).length < v.length:=by
 obtain ⟨r,h⟩:=h
 refine ⟨h.kids,?_⟩
 have h1:=(Fo.of h.fo).le
 have h2:=congrArg List.length h.drop
 simp only [List.length_drop,List.length_cons,List.length_append] at h2
 omega
end Sg
/- What a payload with hidden parts reveals, in plain Lean: values by going down, each disclosure opened where its digest is met first. -/
namespace Sg
structure Said where
 dig:List UInt8
 name:List UInt8
 member:Bool
 value:List Nd
abbrev Dg:=List UInt8
def sdN:List UInt8:=[95,115,100]
def ZJ:List UInt8:=[46,46,46]
def algN:List UInt8:=[95,115,100,95,97,108,103]
def Z0y (L:List Said) (d:Dg):Option Said:=L.find? fun s=>s.dig==d
def memV (x:List Nd) (key:List UInt8):Option (List Nd):=if (Z3 x).kind=7 then (kidsOf x 0).find? fun y=>(Z3 y).key==key else none
abbrev RevV:=List Dg→List Nd→List UInt8→Option (List Dg × List Nd)
def Zu (val:RevV) (L:List Said):List Dg→List (List Nd)→List (List Nd)→Option (List Dg × List (List Nd))
 | met,ys,[]=>some (met,ys)
 | met,ys,x::r=>match memV x ZJ with
  | none=>match val met x [] with
   | none=>none
   | some (m,y)=>Zu val L m (ys++[y]) r
  | some k=>if (Z3 x).kids=1∧(Z3 k).kind=5 then
    match Z0y L (Z3 k).text with
    | none=>Zu val L (met++[(Z3 k).text]) ys r
    | some s=>if s.member=true then none else if (Z3 k).text∈met then Zu val L (met++[(Z3 k).text]) ys r else
     match val (met++[(Z3 k).text]) s.value [] with
     | none=>none
     | some (m,y)=>Zu val L m (ys++[y]) r
   else none
def Zg (val:RevV) (top:Bool):List Dg→List (List Nd)→List (List Nd)→Option (List Dg × List (List Nd))
 | met,ys,[]=>some (met,ys)
 | met,ys,x::r=>if (Z3 x).key=sdN then Zg val top met ys r else if top=true∧(Z3 x).key=algN then Zg val top met ys r else
  match val met x (Z3 x).key with
  | none=>none
  | some (m,y)=>Zg val top m (ys++[y]) r
def Zq (val:RevV) (L:List Said):List Dg→List (List UInt8)→List (List Nd)→List (List Nd)→Option (List Dg × List (List Nd))
 | met,_,ys,[]=>some (met,ys)
 | met,ns,ys,x::r=>if (Z3 x).kind=5 then
   match Z0y L (Z3 x).text with
   | none=>Zq val L (met++[(Z3 x).text]) ns ys r
   | some s=>if s.member=true∧s.name∉ns then
     if (Z3 x).text∈met then Zq val L (met++[(Z3 x).text]) (ns++[s.name]) ys r else
     match val (met++[(Z3 x).text]) s.value s.name with
     | none=>none
     | some (m,y)=>Zq val L m (ns++[s.name]) (ys++[y]) r
    else none
  else none
def Z0x (xs:List (List Nd)):Option (List Nd):=(xs.filter fun x=>(Z3 x).key==sdN).getLast?
def ZX (xs:List (List Nd)):List (List UInt8):=(xs.map fun x=>(Z3 x).key).filter fun k=>!(k==sdN)
def rowN (kind:Int) (key:List UInt8) (ys:List (List Nd)):List Nd:=⟨kind,key,[],false,0,ys.length⟩::ys.flatten
def Nd.key_ (n:Nd) (key:List UInt8):Nd:={ n with key:=key }
def revV:Nat→List Said→Bool→RevV
 | 0,_,_=>fun _ _ _=>none
 | f+1,L,top=>fun met x key =>
  if (Z3 x).kind=7 then
   match memV x ZJ with
   | some _=>none
   | none=>match Zg (revV f L false) top met [] (kidsOf x 0) with
    | none=>none
    | some (m,ys)=>match Z0x (kidsOf x 0) with
     | none=>some (m,rowN 7 key ys)
     | some h=>if (Z3 h).kind=6 then
       match Zq (revV f L false) L m (ZX (kidsOf x 0)) ys (kidsOf h 0) with
       | none=>none
       | some (m',zs)=>some (m',rowN 7 key zs)
      else none
  else if (Z3 x).kind=6 then
   match Zu (revV f L false) L met [] (kidsOf x 0) with
   | none=>none
   | some (m,ys)=>some (m,rowN 6 key ys)
  else some (met,[(Z3 x).key_ key])
def Vl (x:List Nd):Prop:=Fo 1 x∧∀ n∈x,n.kind≠6→n.kind≠7→n.kids=0
theorem Vl.kids {x:List Nd} (h:Vl x):∀ y∈kidsOf x 0,Vl y:=by
 obtain ⟨n,xs,h1,h2⟩:=At.of_fo (v:=x) (p:=0) (x:=x) (r:=[]) (by simp) h.1
 rw [h2.kidsOf]
 subst h1
 exact fun y hy=>⟨h2.fo y hy,fun m hm=>h.2 m (List.mem_cons_of_mem _ (List.mem_flatten.2 ⟨y,hy,hm⟩))⟩
def pend (L:List Said) (met:List Dg):Nat:=(L.map fun s=>if s.dig∈met then 0 else s.value.length+1).sum
structure Books (L:List Said) (x:Nat) (met m:List Dg) (y:Nat):Prop where
 grow:∃ r,m=met++r
 size:y+m.length+pend L m≤x+met.length+pend L met
theorem ZE (L:List Said) (met r:List Dg):pend L (met++r)≤pend L met:=by
 unfold pend
 induction L with
 | nil=>exact Nat.le_refl _
 | cons s L ih =>
  simp only [List.map_cons,List.sum_cons]
  have:(if s.dig∈met++r then 0 else s.value.length+1)≤(if s.dig∈met then 0 else s.value.length+1):=by
   by_cases h:s.dig∈met
   ·rw [if_pos (List.mem_append_left _ h),if_pos h]
    exact Nat.le_refl _
   ·rw [if_neg h]
    split<;>omega
  omega
theorem Z0I {L:List Said} {d:Dg} {s:Said} (h:Z0y L d=some s):s∈L∧s.dig=d:=by
 refine ⟨List.mem_of_find?_eq_some h,?_⟩
 have:=List.find?_some h
 simpa using this
theorem Z0L {L:List Said} {met:List Dg} {s:Said} (hs:s∈L) (hm:s.dig∉met):s.value.length+1+pend L (met++[s.dig])≤pend L met:=by
 unfold pend
 induction L with
 | nil=>cases hs
 | cons t L ih =>
  simp only [List.map_cons,List.sum_cons]
  have hmono:=ZE L met [s.dig]
  unfold pend at hmono
  have hle:(if t.dig∈met++[s.dig] then 0 else t.value.length+1)≤(if t.dig∈met then 0 else t.value.length+1):=by
   by_cases h:t.dig∈met
   ·rw [if_pos (List.mem_append_left _ h),if_pos h]
    exact Nat.le_refl _
   ·rw [if_neg h]
    split<;>omega
  rcases List.mem_cons.1 hs with rfl|hs
  ·rw [if_pos (by simp),if_neg hm]
   omega
  ·have:=ih hs
   omega
theorem Zj {x:List Nd} (hx:Fo 1 x):(kidsOf x 0).flatten.length+1=x.length∧(∀ y∈kidsOf x 0,Fo 1 y)∧x=Z3 x::(kidsOf x 0).flatten∧(Z3 x).kids=((kidsOf x 0).length:Int):=by
 obtain ⟨n,xs,h1,h2⟩:=At.of_fo (v:=x) (p:=0) (x:=x) (r:=[]) (by simp) hx
 rw [h2.kidsOf]
 subst h1
 exact ⟨by simp,h2.fo,rfl,h2.kids⟩
theorem Z5 (x:List Nd) (r:List (List Nd)):(x::r).flatten.length=x.length+r.flatten.length:=by simp
theorem Z0B (ys:List (List Nd)) (y:List Nd):(ys++[y]).flatten.length=ys.flatten.length+y.length:=by simp
def Keeps (val:RevV) (L:List Said) (n:Nat):Prop:=∀ met x key m y,Vl x→x.length+pend L met < n→val met x key=some (m,y)→Books L x.length met m y.length∧Vl y
theorem Books.comp {L:List Said} {x x':Nat} {met m m':List Dg} {y y':Nat} (h:Books L x met m y) (h':Books L x' m m' y'):Books L (x+x') met m' (y+y'):=by
 obtain ⟨⟨r,rfl⟩,h2⟩:=h
 obtain ⟨⟨r',rfl⟩,h4⟩:=h'
 exact ⟨⟨r++r',by simp⟩,by omega⟩
theorem Books.more {L:List Said} {x x':Nat} {met m:List Dg} {y:Nat} (h:Books L x met m y) (hx:x≤x'):Books L x' met m y:=⟨h.grow,by have:=h.size;omega⟩
theorem Books.refl (L:List Said) (x:Nat) (met:List Dg):Books L x met met 0:=⟨⟨[],by simp⟩,by omega⟩
theorem Books.meet (L:List Said) (met:List Dg) (d:Dg):Books L 1 met (met++[d]) 0:=⟨⟨[d],rfl⟩,by have:=ZE L met [d];rw [List.length_append,List.length_singleton];omega⟩
theorem Books.open_ {L:List Said} {met m:List Dg} {s:Said} {y:Nat} (hs:s∈L) (hm:s.dig∉met) (h:Books L s.value.length (met++[s.dig]) m y):Books L 0 met m y:=by
 obtain ⟨⟨r,rfl⟩,h2⟩:=h
 have:=Z0L hs hm
 rw [show (met++[s.dig]).length=met.length+[s.dig].length from List.length_append ..,List.length_singleton] at h2
 exact ⟨⟨[s.dig]++r,by simp⟩,by omega⟩
theorem Z37 {val:RevV} {L:List Said} {n:Nat} (hv:Keeps val L n) (hL:∀ s∈L,Vl s.value):∀ (r:List (List Nd)) (met:List Dg) (ys:List (List Nd)) (m:List Dg) (zs:List (List Nd)),(∀ y∈r,Vl y)→(∀ y∈ys,Vl y)→r.flatten.length+pend L met < n →
  Zu val L met ys r=some (m,zs)→(∃ us,zs=ys++us∧Books L r.flatten.length met m us.flatten.length)∧∀ y∈zs,Vl y
 | [],met,ys,m,zs,_,hy,_,h=>by
  rw [Zu] at h
  cases h
  exact ⟨⟨[],by simp,.refl ..⟩,hy⟩
 | x::r,met,ys,m,zs,hr,hy,hn,h=>by
  have hx:=hr x (List.mem_cons_self ..)
  have hr':∀ y∈r,Vl y:=fun y h=>hr y (List.mem_cons_of_mem _ h)
  rw [Z5] at hn ⊢
  have hp:∀ d,pend L (met++[d])≤pend L met:=fun d=>ZE L met [d]
  have step:∀ {b y m1},Books L b met m1 y.length→b≤x.length→Vl y→Zu val L m1 (ys++[y]) r=some (m,zs)→(∃ us,zs=ys++us∧Books L (x.length+r.flatten.length) met m us.flatten.length)∧∀ y∈zs,Vl y:=by
   intro b y m1 h1 hb h2 h3
   have hsz:=h1.size
   obtain ⟨r1,hr1⟩:=h1.grow
   have hml:met.length≤m1.length:=by rw [hr1,List.length_append];omega
   obtain ⟨⟨us,h4,h5⟩,h6⟩:=Z37 hv hL r m1 (ys++[y]) m zs hr' (fun z hz=>by
    rcases List.mem_append.1 hz with hz|hz
    ·exact hy z hz
    ·obtain rfl:=List.mem_singleton.1 hz
     exact h2) (by omega) h3
   refine ⟨⟨y::us,by rw [h4];simp,?_⟩,h6⟩
   rw [Z5]
   exact (h1.more hb).comp h5
  have skip:∀ {d},Zu val L (met++[d]) ys r=some (m,zs)→(∃ us,zs=ys++us∧Books L (x.length+r.flatten.length) met m us.flatten.length)∧∀ y∈zs,Vl y:=by
   intro d h3
   have:=hp d
   obtain ⟨⟨us,h4,h5⟩,h6⟩:=Z37 hv hL r (met++[d]) ys m zs hr' hy (by omega) h3
   have h7:=(Books.meet L met d).comp h5
   have hx1:=hx.1.pos
   rw [Nat.zero_add] at h7
   exact ⟨⟨us,h4,h7.more (by omega)⟩,h6⟩
  rw [Zu] at h
  split at h
  ·split at h
   ·cases h
   ·rename_i m1 y h1
    obtain ⟨h2,h3⟩:=hv met x [] m1 y hx (by omega) h1
    exact step h2 (Nat.le_refl _) h3 h
  ·rename_i k hk
   split at h
   ·split at h
    ·exact skip h
    ·rename_i s hs
     obtain ⟨hs1,hs2⟩:=Z0I hs
     split at h
     ·cases h
     ·split at h
      ·exact skip h
      ·rename_i hm
       rw [←hs2] at h hm
       have ho:=Z0L hs1 hm
       split at h
       ·cases h
       ·rename_i m1 y h1
        obtain ⟨h2,h3⟩:=hv _ s.value [] m1 y (hL s hs1) (by omega) h1
        exact step (h2.open_ hs1 hm) (by omega) h3 h
   ·cases h
theorem Z0V {val:RevV} {L:List Said} {n:Nat} (hv:Keeps val L n) {top:Bool}:∀ (r:List (List Nd)) (met:List Dg) (ys:List (List Nd)) (m:List Dg) (zs:List (List Nd)),(∀ y∈r,Vl y)→(∀ y∈ys,Vl y)→r.flatten.length+pend L met < n →
  Zg val top met ys r=some (m,zs)→(∃ us,zs=ys++us∧Books L ((r.filter fun x=>!((Z3 x).key==sdN)).flatten.length) met m us.flatten.length)∧∀ y∈zs,Vl y
 | [],met,ys,m,zs,_,hy,_,h=>by
  rw [Zg] at h
  cases h
  exact ⟨⟨[],by simp,.refl ..⟩,hy⟩
 | x::r,met,ys,m,zs,hr,hy,hn,h=>by
  have hx:=hr x (List.mem_cons_self ..)
  have hr':∀ y∈r,Vl y:=fun y h=>hr y (List.mem_cons_of_mem _ h)
  rw [Z5] at hn
  rw [Zg] at h
  split at h
  ·rename_i hk
   have hf:((x::r).filter fun x=>!((Z3 x).key==sdN))=r.filter fun x=>!((Z3 x).key==sdN):=by rw [List.filter_cons_of_neg];simp [hk]
   rw [hf]
   exact Z0V hv r met ys m zs hr' hy (by omega) h
  ·rename_i hk
   have hf:((x::r).filter fun x=>!((Z3 x).key==sdN))=x::r.filter fun x=>!((Z3 x).key==sdN):=by rw [List.filter_cons_of_pos];simp [hk]
   rw [hf,Z5]
   split at h
   ·obtain ⟨⟨us,h4,h5⟩,h6⟩:=Z0V hv r met ys m zs hr' hy (by omega) h
    exact ⟨⟨us,h4,h5.more (by omega)⟩,h6⟩
   ·split at h
    ·cases h
    ·rename_i m1 y h1
     obtain ⟨h2,h3⟩:=hv met x _ m1 y hx (by omega) h1
     have hsz:=h2.size
     obtain ⟨r1,hr1⟩:=h2.grow
     have hml:met.length≤m1.length:=by rw [hr1,List.length_append];omega
     obtain ⟨⟨us,h4,h5⟩,h6⟩:=Z0V hv r m1 (ys++[y]) m zs hr' (fun z hz=>by
      rcases List.mem_append.1 hz with hz|hz
      ·exact hy z hz
      ·obtain rfl:=List.mem_singleton.1 hz
       exact h3) (by omega) h
     refine ⟨⟨y::us,by rw [h4];simp,?_⟩,h6⟩
     rw [Z5]
     exact h2.comp h5
theorem Z2f {val:RevV} {L:List Said} {n:Nat} (hv:Keeps val L n) (hL:∀ s∈L,Vl s.value):∀ (r:List (List Nd)) (met:List Dg) (ns:List (List UInt8)) (ys:List (List Nd)) (m:List Dg) (zs:List (List Nd)),(∀ y∈r,Vl y)→(∀ y∈ys,Vl y)→pend L met < n →
  Zq val L met ns ys r=some (m,zs)→(∃ us,zs=ys++us∧Books L r.flatten.length met m us.flatten.length)∧∀ y∈zs,Vl y
 | [],met,ns,ys,m,zs,_,hy,_,h=>by
  rw [Zq] at h
  cases h
  exact ⟨⟨[],by simp,.refl ..⟩,hy⟩
 | x::r,met,ns,ys,m,zs,hr,hy,hn,h=>by
  have hx1:=(hr x (List.mem_cons_self ..)).1.pos
  have hr':∀ y∈r,Vl y:=fun y h=>hr y (List.mem_cons_of_mem _ h)
  rw [Z5]
  have hp:∀ d,pend L (met++[d])≤pend L met:=fun d=>ZE L met [d]
  have skip:∀ {d ns'},Zq val L (met++[d]) ns' ys r=some (m,zs)→(∃ us,zs=ys++us∧Books L (x.length+r.flatten.length) met m us.flatten.length)∧∀ y∈zs,Vl y:=by
   intro d ns' h3
   have:=hp d
   obtain ⟨⟨us,h4,h5⟩,h6⟩:=Z2f hv hL r (met++[d]) ns' ys m zs hr' hy (by omega) h3
   have h7:=(Books.meet L met d).comp h5
   rw [Nat.zero_add] at h7
   exact ⟨⟨us,h4,h7.more (by omega)⟩,h6⟩
  rw [Zq] at h
  split at h
  ·split at h
   ·exact skip h
   ·rename_i s hs
    obtain ⟨hs1,hs2⟩:=Z0I hs
    split at h
    ·split at h
     ·exact skip h
     ·rename_i hm
      rw [←hs2] at h hm
      have ho:=Z0L hs1 hm
      split at h
      ·cases h
      ·rename_i m1 y h1
       obtain ⟨h2,h3⟩:=hv _ s.value _ m1 y (hL s hs1) (by omega) h1
       have h4:=h2.open_ hs1 hm
       have hsz:=h4.size
       obtain ⟨r1,hr1⟩:=h4.grow
       have hml:met.length≤m1.length:=by rw [hr1,List.length_append];omega
       obtain ⟨⟨us,h5,h6⟩,h7⟩:=Z2f hv hL r m1 _ (ys++[y]) m zs hr' (fun z hz=>by
        rcases List.mem_append.1 hz with hz|hz
        ·exact hy z hz
        ·obtain rfl:=List.mem_singleton.1 hz
         exact h3) (by omega) h
       refine ⟨⟨y::us,by rw [h5];simp,?_⟩,h7⟩
       rw [Z5]
       exact (h4.more (Nat.zero_le _)).comp h6
    ·cases h
  ·cases h
theorem Z6V {kind:Int} {key:List UInt8} {ys:List (List Nd)} (hk:kind=6∨kind=7) (h:∀ y∈ys,Vl y):Vl (rowN kind key ys):=⟨Fo.one (m:=ys.length) rfl (Fo.of fun y hy=>(h y hy).1),fun n hn a b=>by
 rcases List.mem_cons.1 hn with rfl|hn
 ·rcases hk with rfl|rfl
  ·exact (a rfl).elim
  ·exact (b rfl).elim
 ·obtain ⟨y,h1,h2⟩:=List.mem_flatten.1 hn
  exact (h y h1).2 n h2 a b⟩
theorem Z1U (g:List Nd→Bool):∀ r:List (List Nd),(r.filter g).flatten.length+(r.filter fun x=>!(g x)).flatten.length=r.flatten.length
 | []=>rfl
 | x::r=>by
  have:=Z1U g r
  rw [Z5]
  cases h:g x with
  | true=>rw [List.filter_cons_of_pos h,List.filter_cons_of_neg (by simp [h]),Z5];omega
  | false=>rw [List.filter_cons_of_neg (by simp [h]),List.filter_cons_of_pos (by simp [h]),Z5];omega
theorem ZR {x:List Nd}:∀ {r:List (List Nd)},x∈r→x.length≤r.flatten.length
 | y::r,h=>by
  rw [Z5]
  rcases List.mem_cons.1 h with rfl|h
  ·omega
  ·have:=ZR h
   omega
theorem Z4d {xs:List (List Nd)} {h:List Nd} (hx:∀ y∈xs,Vl y) (hh:Z0x xs=some h):Vl h∧(Z3 h).key=sdN∧h∈xs∧(xs.filter fun x=>!((Z3 x).key==sdN)).flatten.length+(kidsOf h 0).flatten.length+1≤xs.flatten.length:=by
 have hm:=List.mem_of_getLast? hh
 obtain ⟨h1,h2⟩:=List.mem_filter.1 hm
 have h3:=hx h h1
 have h4:=(Zj h3.1).1
 have h5:=ZR hm
 have h6:=Z1U (fun x=>(Z3 x).key==sdN) xs
 exact ⟨h3,by simpa using h2,h1,by omega⟩
theorem Z16 (g:List Nd→Bool):∀ r:List (List Nd),(r.filter g).flatten.length≤r.flatten.length
 | []=>Nat.le_refl _
 | x::r=>by
  have:=Z16 g r
  rw [Z5]
  cases h:g x with
  | true=>rw [List.filter_cons_of_pos h,Z5];omega
  | false=>rw [List.filter_cons_of_neg (by simp [h])];omega
theorem Z0J {L:List Said} (hL:∀ s∈L,Vl s.value):∀ (f:Nat) (top:Bool),Keeps (revV f L top) L f
 | 0,top=>fun met x key m y _ h _=>by omega
 | f+1,top=>fun met x key m y hx hn h=>by
  obtain ⟨k1,-,k3,k4⟩:=Zj hx.1
  have k2:=hx.kids
  have ih:=Z0J hL f false
  rw [revV] at h
  simp only at h
  split at h
  ·split at h
   ·cases h
   ·split at h
    ·cases h
    ·rename_i m1 ys h1
     obtain ⟨⟨us,h2,h3⟩,h4⟩:=Z0V ih (kidsOf x 0) met [] m1 ys k2 (fun y hy=>by cases hy) (by omega) h1
     rw [List.nil_append] at h2
     subst h2
     have hle:=Z16 (fun x=>!((Z3 x).key==sdN)) (kidsOf x 0)
     have hsz:=h3.size
     split at h
     ·cases h
      refine ⟨⟨h3.grow,?_⟩,Z6V (by simp) h4⟩
      simp only [rowN,List.length_cons]
      omega
     ·rename_i hh hk
      split at h
      ·split at h
       ·cases h
       ·rename_i m2 zs h5
        obtain ⟨q1,-,-,q4⟩:=Z4d k2 hk
        obtain ⟨r1,hr1⟩:=h3.grow
        have hml:met.length≤m1.length:=by rw [hr1,List.length_append];omega
        obtain ⟨⟨vs,h6,h7⟩,h8⟩:=Z2f ih hL (kidsOf hh 0) m1 _ ys m2 zs q1.kids h4 (by omega) h5
        cases h
        have h9:=h3.comp h7
        refine ⟨⟨h9.grow,?_⟩,Z6V (by simp) h8⟩
        have:=h9.size
        simp only [rowN,List.length_cons,h6,List.flatten_append,List.length_append]
        omega
      ·cases h
  ·split at h
   ·split at h
    ·cases h
    ·rename_i m1 ys h1
     obtain ⟨⟨us,h2,h3⟩,h4⟩:=Z37 ih hL (kidsOf x 0) met [] m1 ys k2 (fun y hy=>by cases hy) (by omega) h1
     rw [List.nil_append] at h2
     subst h2
     cases h
     refine ⟨⟨h3.grow,?_⟩,Z6V (by simp) h4⟩
     have:=h3.size
     simp only [rowN,List.length_cons]
     omega
   ·rename_i n1 n2
    cases h
    have h0:=hx.2 (Z3 x) (by rw [k3];exact List.mem_cons_self ..) n2 n1
    refine ⟨⟨⟨[],by simp⟩,by simp;omega⟩,Fo.one (m:=0) h0 .nil,fun n hn a b=>?_⟩
    obtain rfl:=List.mem_singleton.1 hn
    exact h0
end Sg
