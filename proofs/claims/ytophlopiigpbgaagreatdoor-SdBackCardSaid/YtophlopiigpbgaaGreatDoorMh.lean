/- Texts put together by a program: ShpA ShpB RevB RevC. -/
import Derived.Test.YtophlopiigpbgaaGreatDoorMg
import Derived.Test.YtophlopiigpbgaaGreatDoorMb
import Derived.Test.YtophlopiigpbgaaGreatDoorMf
set_option linter.unusedVariables false
set_option linter.unusedSimpArgs false
/- The walks of the program's looks at values: may a node stand there. -/
namespace Go.Proofs.YtophlopiigpbgaaGreatDoor
open Sg Go.IntWalk
set_option maxRecDepth 100000
set_option maxHeartbeats 4000000
section
variable {F:World} {M:List Nat} {H:List Res}
theorem Z06 (hT:Tabs F M) {s:List UInt8} (hl:s.length≤9223372036854775807):Meets Tryz.prog 47 [sV s] F M H (fun e H'=>e=.returned (.bool (Lib.validD s))∧H'=H):=fun w hw =>
 (Tryz.utf8_ValidString (ByteArray.mk s.toArray) w (by simpa [ByteArray.size] using hl) (hT.met hw)).mono fun e w' ⟨h1,h2⟩=>⟨H,⟨h1,rfl⟩,hw.below h2⟩
theorem Z4Q (hT:Tabs F M) {n:Nd} (hl:n.kind=4→n.text.length≤2200000) (hl2:n.text.length≤9223372036854775807):Meets Tryz.prog 46 [.agg ⟨ndV n⟩] F M H (fun e H'=>e=.returned (.bool (Zl Lib.validD n))∧H'=H):=by
 refine Meets.enter Tryz.func46 rfl rfl ?_
 unfold Zl
 by_cases h1:n.kind < 1∨7 < n.kind∨n.kids < 0∨(0 < n.kids∧n.kind≠6∧n.kind≠7)
 ·rw [if_pos h1]
  by_cases a1:n.kind < 1
  ·repeat' (first|(apply T.box;apply rfl;apply rfl;intro nb)|refine Sg.Y3 ?_|(apply T.gcase;apply rfl;apply rfl;all_goals intro _)|fail)
   exact ⟨_,PSub.drop (PSub.refl _),rfl,rfl⟩
  by_cases a2:7 < n.kind
  ·repeat' (first|(apply T.box;apply rfl;apply rfl;intro nb)|refine Sg.Y3 ?_|(apply T.gcase;apply rfl;apply rfl;all_goals intro _)|fail)
   exact ⟨_,PSub.drop (PSub.refl _),rfl,rfl⟩
  by_cases a3:n.kids < 0
  ·repeat' (first|(apply T.box;apply rfl;apply rfl;intro nb)|refine Sg.Y3 ?_|(apply T.gcase;apply rfl;apply rfl;all_goals intro _)|fail)
   exact ⟨_,PSub.drop (PSub.refl _),rfl,rfl⟩
  have a4:0 < n.kids:=by omega
  have a5:¬n.kind=6:=by omega
  have a6:¬n.kind=7:=by omega
  repeat' (first|(apply T.box;apply rfl;apply rfl;intro nb)|refine Sg.Y3 ?_|(apply S.condQ;apply rfl;all_goals intro _)|(apply T.gcase;apply rfl;apply rfl;all_goals intro _)|fail)
  exact ⟨_,PSub.drop (PSub.refl _),rfl,rfl⟩
 rw [if_neg h1]
 have b1:¬n.kind < 1:=fun h=>h1 (.inl h)
 have b2:¬7 < n.kind:=fun h=>h1 (.inr (.inl h))
 have b3:¬n.kids < 0:=fun h=>h1 (.inr (.inr (.inl h)))
 have b4:¬0 < n.kids∨n.kind=6∨n.kind=7:=by omega
 by_cases c1:n.kind=4
 ·rw [if_pos c1]
  have c6:¬n.kind=6:=by omega
  have c7:¬n.kind=7:=by omega
  have c0:¬0 < n.kids:=by omega
  repeat' (first|(apply T.box;apply rfl;apply rfl;intro nb)|refine Sg.Y3 ?_|(apply S.condQ;apply rfl;all_goals intro _)|(apply T.gcase;apply rfl;apply rfl;all_goals intro _)|fail)
  refine T.call rfl rfl (Z4G (hl c1)) ?_
  rintro _ _ ⟨rfl,rfl⟩
  repeat' (first|refine Sg.Y1 ?_|fail)
  refine T.call rfl rfl (Z8o (hl c1)) ?_
  rintro _ _ ⟨rfl,rfl⟩
  cases d1:(numP n.text).isSome with
  | false =>
   repeat' (first|refine Sg.Y2 ?_|fail)
   exact ⟨_,PSub.drop (PSub.refl _),rfl,rfl⟩
  | true =>
   repeat' (first|refine Sg.Y2 ?_|fail)
   cases w1:n.whole<;>cases w2:(Zb n.text).2
   all_goals
    by_cases w3:n.int=(Zb n.text).1
    ·repeat' (first|(apply T.eqlB;(iterate 3 apply rfl);first|rw [show (true==true)=true from rfl]|rw [show (false==false)=true from rfl]|rw [show (true==false)=false from rfl]|rw [show (false==true)=false from rfl])|refine Sg.Y2 ?_|fail)
     all_goals
      refine ⟨_,PSub.drop (PSub.refl _),?_,rfl⟩
      first|(simp [w3];done)|simp
    ·repeat' (first|(apply T.eqlB;(iterate 3 apply rfl);first|rw [show (true==true)=true from rfl]|rw [show (false==false)=true from rfl]|rw [show (true==false)=false from rfl]|rw [show (false==true)=false from rfl])|refine Sg.Y2 ?_|fail)
     all_goals
      refine ⟨_,PSub.drop (PSub.refl _),?_,rfl⟩
      first|(simp [w3];done)|simp
 ·rw [if_neg c1]
  by_cases c2:n.whole=true
  ·rw [if_pos (.inl c2)]
   by_cases c6:n.kind=6
   ·repeat' (first|(apply T.box;apply rfl;apply rfl;intro nb)|refine Sg.Y3 ?_|(apply S.condQ;apply rfl;all_goals intro _)|(apply T.gcase;apply rfl;apply rfl;all_goals intro _)|fail)
    all_goals
     rw [c2]
     repeat' (first|refine Sg.Y1 ?_|fail)
     exact ⟨_,PSub.drop (PSub.refl _),rfl,rfl⟩
   by_cases c7:n.kind=7
   ·repeat' (first|(apply T.box;apply rfl;apply rfl;intro nb)|refine Sg.Y3 ?_|(apply S.condQ;apply rfl;all_goals intro _)|(apply T.gcase;apply rfl;apply rfl;all_goals intro _)|fail)
    all_goals
     rw [c2]
     repeat' (first|refine Sg.Y1 ?_|fail)
     exact ⟨_,PSub.drop (PSub.refl _),rfl,rfl⟩
   have c0:¬0 < n.kids:=by omega
   repeat' (first|(apply T.box;apply rfl;apply rfl;intro nb)|refine Sg.Y3 ?_|(apply S.condQ;apply rfl;all_goals intro _)|(apply T.gcase;apply rfl;apply rfl;all_goals intro _)|fail)
   all_goals
    rw [c2]
    repeat' (first|refine Sg.Y1 ?_|fail)
    exact ⟨_,PSub.drop (PSub.refl _),rfl,rfl⟩
  have c2':n.whole=false:=by simpa using c2
  by_cases c3:n.int=0
  ·rw [if_neg (fun h=>h.elim c2 (fun h=>h c3))]
   by_cases c5:n.kind=5
   ·rw [if_pos c5]
    have c6:¬n.kind=6:=by omega
    have c7:¬n.kind=7:=by omega
    have c0:¬0 < n.kids:=by omega
    repeat' (first|(apply T.box;apply rfl;apply rfl;intro nb)|refine Sg.Y3 ?_|(apply S.condQ;apply rfl;all_goals intro _)|(apply T.gcase;apply rfl;apply rfl;all_goals intro _)|fail)
    rw [c2']
    repeat' (first|refine Sg.Y3 ?_|(apply S.condQ;apply rfl;all_goals intro _)|fail)
    refine T.call rfl rfl (Z06 hT (by omega)) ?_
    rintro _ _ ⟨rfl,rfl⟩
    repeat' (first|refine Sg.Y2 ?_|fail)
    exact ⟨_,PSub.drop (PSub.refl _),rfl,rfl⟩
   rw [if_neg c5]
   by_cases c6:n.kind=6
   ·repeat' (first|(apply T.box;apply rfl;apply rfl;intro nb)|refine Sg.Y3 ?_|(apply S.condQ;apply rfl;all_goals intro _)|(apply T.gcase;apply rfl;apply rfl;all_goals intro _)|fail)
    all_goals
     rw [c2']
     repeat' (first|refine Sg.Y3 ?_|(apply S.condQ;apply rfl;all_goals intro _)|fail)
     exact ⟨_,PSub.drop (PSub.refl _),rfl,rfl⟩
   by_cases c7:n.kind=7
   ·repeat' (first|(apply T.box;apply rfl;apply rfl;intro nb)|refine Sg.Y3 ?_|(apply S.condQ;apply rfl;all_goals intro _)|(apply T.gcase;apply rfl;apply rfl;all_goals intro _)|fail)
    all_goals
     rw [c2']
     repeat' (first|refine Sg.Y3 ?_|(apply S.condQ;apply rfl;all_goals intro _)|fail)
     exact ⟨_,PSub.drop (PSub.refl _),rfl,rfl⟩
   have c0:¬0 < n.kids:=by omega
   repeat' (first|(apply T.box;apply rfl;apply rfl;intro nb)|refine Sg.Y3 ?_|(apply S.condQ;apply rfl;all_goals intro _)|(apply T.gcase;apply rfl;apply rfl;all_goals intro _)|fail)
   all_goals
    rw [c2']
    repeat' (first|refine Sg.Y3 ?_|(apply S.condQ;apply rfl;all_goals intro _)|fail)
    exact ⟨_,PSub.drop (PSub.refl _),rfl,rfl⟩
  ·rw [if_pos (.inr c3)]
   by_cases c6:n.kind=6
   ·repeat' (first|(apply T.box;apply rfl;apply rfl;intro nb)|refine Sg.Y3 ?_|(apply S.condQ;apply rfl;all_goals intro _)|(apply T.gcase;apply rfl;apply rfl;all_goals intro _)|fail)
    all_goals
     rw [c2']
     repeat' (first|refine Sg.Y3 ?_|(apply S.condQ;apply rfl;all_goals intro _)|fail)
     exact ⟨_,PSub.drop (PSub.refl _),rfl,rfl⟩
   by_cases c7:n.kind=7
   ·repeat' (first|(apply T.box;apply rfl;apply rfl;intro nb)|refine Sg.Y3 ?_|(apply S.condQ;apply rfl;all_goals intro _)|(apply T.gcase;apply rfl;apply rfl;all_goals intro _)|fail)
    all_goals
     rw [c2']
     repeat' (first|refine Sg.Y3 ?_|(apply S.condQ;apply rfl;all_goals intro _)|fail)
     exact ⟨_,PSub.drop (PSub.refl _),rfl,rfl⟩
   have c0:¬0 < n.kids:=by omega
   repeat' (first|(apply T.box;apply rfl;apply rfl;intro nb)|refine Sg.Y3 ?_|(apply S.condQ;apply rfl;all_goals intro _)|(apply T.gcase;apply rfl;apply rfl;all_goals intro _)|fail)
   all_goals
    rw [c2']
    repeat' (first|refine Sg.Y3 ?_|(apply S.condQ;apply rfl;all_goals intro _)|fail)
    exact ⟨_,PSub.drop (PSub.refl _),rfl,rfl⟩
end
end Go.Proofs.YtophlopiigpbgaaGreatDoor
/- The stack of levels that the program's look at a value keeps: its row, its maps. -/
namespace Sg
open Go Go.RowKit
theorem Z5T {w:World} {E:TypeId} {n cp sz:Nat} {a:Option Addr} {xs vs:List Value} (hz:vs.length=sz) (h:w.ownsRow 0 E sz (.slice a (n+1) cp) (n+1) (xs++vs)):w.ownsRow 0 E sz (.slice a n cp) n xs:=by
 obtain ⟨h1,h2⟩:=h
 have h3:xs.length=n*sz:=by
  rw [List.length_append,hz,Nat.add_mul,Nat.one_mul] at h1
  omega
 refine ⟨h3,?_⟩
 rcases h2 with ⟨_,h0⟩|⟨g,cap,cur,hv,hg,hh,hn,hm,hs,ht⟩
 ·omega
 ·simp only [Value.slice.injEq] at hv
  obtain ⟨rfl,_,rfl⟩:=hv
  refine .inr ⟨g,cp,cur,rfl,hg,hh,by omega,hm,hs,?_⟩
  have:=congrArg (List.take (n*sz)) ht
  rw [List.take_take,Nat.min_eq_left (Nat.mul_le_mul_right _ (Nat.le_succ n))] at this
  rw [this,List.take_append_of_le_length (by omega),List.take_of_length_le (by omega)]
theorem St.shrinkN {F:World} {M:List Nat} {w:World} {H:List Res} {a:Option Addr} {cp n sz:Nat} {E:TypeId} {xs vs:List Value} (hz:vs.length=sz) (h:St F M w (.row a cp E sz (n+1) (xs++vs)::H)):St F M w (.row a cp E sz n xs::H) :=
 h.turn rfl rfl rfl (Nat.le_refl _) (fun _ _ _=>rfl) (Z5T hz (h.res _ (List.mem_cons_self ..))) (fun b hb=>.inl hb) (by cases a<;>simp [Res.foot])
section
variable {c:Ctx} {ds:List Deferred} {H:List Res} {ops:Array Oper} {l:List Oper} {κ:List Res→Env→Prop} {q:Mode} {e:Env} {ty:TypeId} {pos:String} {aft:Array Edge}
theorem T.nilCheckS {x:Operand} {d:Tmp} {g:Addr} {i sz f:Nat} (hx:ev e x=some (.pointer (faddr (some g) i sz f))) (hlt:Nat.blt d c.fn.ntmps=true) (hk:Sr q c ds H ops l κ ((d,.pointer (faddr (some g) i sz f))::e)):Sr q c ds H ops (⟨some d,.nilCheck x,ty,pos,aft,none⟩::l) κ e :=
 Sr.p (Pu.nilCheck (show ev e x=some (.pointer (some _)) from hx)) rfl hlt rfl hk
theorem T.fieldAddrS {x:Operand} {d:Tmp} {b o i sz f fi fo:Nat} {t:TypeId} [HFd c.P t fi fo] (hx:ev e x=some (.pointer (faddr (some ⟨b,o,none⟩) i sz f))) (hlt:Nat.blt d c.fn.ntmps=true) (hk:Sr q c ds H ops l κ ((d,.pointer (faddr (some ⟨b,o,none⟩) i sz (f+fo)))::e)) :
  Sr q c ds H ops (⟨some d,.fieldAddr t x fi,ty,pos,aft,none⟩::l) κ e:=by
 have h0:∀ k,faddr (some ⟨b,o,none⟩) i sz k=some ⟨b,o+(i*sz+k),none⟩:=fun k=>by simp [faddr,eaddr,Zo]
 rw [h0] at hx hk
 have h:Pu c H e ⟨some d,.fieldAddr t x fi,ty,pos,aft,none⟩ (.pointer (some ⟨b,o+(i*sz+f)+fo,none⟩)):=Pu.fieldAddr hx
 rw [show (⟨b,o+(i*sz+f)+fo,none⟩:Addr)=⟨b,o+(i*sz+(f+fo)),none⟩ by rw [Nat.add_assoc,Nat.add_assoc]] at h
 exact Sr.p h rfl hlt rfl hk
end
theorem S.rowSome {c:Ctx} {ds:List Deferred} {H:List Res} {k:List Item} {e:Env} {a:Option Addr} {cp n sz:Nat} {E:TypeId} {xs:List Value} (hn:n≠0) (h:∀ g,a=some ⟨g,0,none⟩→S c ds (.row a cp E sz n xs::H) k e):S c ds (.row a cp E sz n xs::H) k e:=by
 unfold S at h ⊢
 intro w ac hw ha hd
 obtain ⟨_,h2⟩:w.ownsRow 0 E sz (.slice a n cp) n xs:=hw.res _ (List.mem_cons_self ..)
 rcases h2 with ⟨_,h0⟩|⟨g,cap,cur,hv,_⟩
 ·exact absurd h0 hn
 ·simp only [Value.slice.injEq] at hv
  exact h g hv.1 w ac hw ha hd
def KN (m:Ents) (ns:List (List UInt8)):Prop:=∀ k,(eget m k).getD 0=if k∈ns then 1 else 0
theorem KN.nil:KN [] []:=fun k=>by simp [eget]
theorem KN.put {m:Ents} {ns:List (List UInt8)} (h:KN m ns) (k:List UInt8):KN (eput m k 1) (k::ns):=fun n=>by
 rw [Z1u]
 by_cases e:k=n
 ·subst e;simp
 ·rw [if_neg e,h n]
  have:n≠k:=fun h=>e h.symm
  simp [this]
end Sg
namespace Go.Proofs.YtophlopiigpbgaaGreatDoor
open Sg
def lvV (x:Nat × Option (Nat × Ents)):List Value:=[.int .i64 (x.1:Int),mpV x]
abbrev lvR (a:Option Addr) (cp:Nat) (st:Stk):Res:=.row a cp 98 2 st.length (st.reverse.flatMap lvV)
theorem Zd2 (a:Option Addr) (cp:Nat) (x:Nat × Option (Nat × Ents)) (st:Stk):lvR a cp (x::st)=.row a cp 98 2 (st.length+1) (st.reverse.flatMap lvV++lvV x):=by
 simp only [lvR,List.reverse_cons,List.flatMap_append,List.length_cons,List.flatMap_cons,List.flatMap_nil,List.append_nil]
theorem ZdL {F:World} {M:List Nat} {H:List Res} {w:World} {a:Option Addr} {cp:Nat} {x:Nat × Option (Nat × Ents)} {r:Stk} (h:St F M w (lvR a cp (x::r)::ZC (x::r) H)):St F M w (lvR a cp r::ZC r H):=by
 rw [Zd2] at h
 have h1:St F M w (lvR a cp r::ZC (x::r) H):=h.shrinkN rfl
 obtain ⟨i,x2⟩:=x
 cases x2 with
 | none=>exact h1
 | some y=>exact St.midDrop (A:=[lvR a cp r]) (q:=mpR y.1 y.2) h1
inductive LvOf:Stk→List Lv→Prop
 | nil:LvOf [] []
 | list {k:Nat} {st:Stk} {l:List Lv} (h:LvOf st l):LvOf ((k,none)::st) ((k,none)::l)
 | obj {k b:Nat} {m:Ents} {ns:List (List UInt8)} {st:Stk} {l:List Lv} (hk:KN m ns) (h:LvOf st l):LvOf ((k,some (b,m))::st) ((k,some ns)::l)
theorem LvOf.inv {y:Nat × Option (Nat × Ents)} {s:Stk} {l:List Lv} (h:LvOf (y::s) l):∃ nm l',l=(y.1,nm)::l'∧LvOf s l'∧((y.2=none∧nm=none)∨∃ b m ns,y.2=some (b,m)∧nm=some ns∧KN m ns):=by
 cases h with
 | list h=>exact ⟨none,_,rfl,h,.inl ⟨rfl,rfl⟩⟩
 | obj hk h=>exact ⟨_,_,rfl,h,.inr ⟨_,_,_,rfl,rfl,hk⟩⟩
theorem LvOf.len {st:Stk} {l:List Lv} (h:LvOf st l):st.length=l.length:=by induction h<;>simp_all
end Go.Proofs.YtophlopiigpbgaaGreatDoor
/- The walks of the revealing: lists. -/
/- ptrs -/
namespace Go.Proofs.YtophlopiigpbgaaGreatDoor
open Sg Go.IntWalk
set_option maxRecDepth 100000
set_option maxHeartbeats 4000000
section
variable {F:World} {M:List Nat} {H:List Res} {p bb sb:Nat} {B E:Ents} {met:List Dg} {oa:Option Addr} {oc:Nat} {o:List Nd} {ds:List Dc} {d:Dg}
theorem ZdJ {a:Option Addr} {vs:List Value}:∀ (ds:List Dc),Rd F M H a vs→Rd F M (dcR met ds H) a vs
 | [],h=>h
 | _::r,h=>have:=ZdJ r h;Rd.tl
instance Rd.dc {a:Option Addr} {vs:List Value} [h:Rd F M H a vs]:Rd F M (dcR met ds H) a vs:=ZdJ ds h
theorem Z2g (x:Res) (H:List Res):∀ ds:List Dc,(x::dcR met ds H).Perm (dcR met ds (x::H))
 | []=>List.Perm.refl _
 | _::r=>(List.Perm.swap _ _ _).trans ((Z2g x H r).cons _)
theorem Z3b (x:Res) (H:List Res) (ds:List Dc):PSub (dcR met ds H) (dcR met ds (x::H)):=⟨[x],(Z2g x H ds).symm.trans (List.perm_append_comm (l₁:=[x]))⟩
def RevO (p bb sb:Nat) (B:Ents) (ds:List Dc) (H:List Res) (o:List Nd):Option (List Dg × List Nd)→Ending→List Res→Prop
 | some (m,y)=>fun e H'=>∃ E' oa' oc',Bk2 B E' ds m∧e=.returned (.tuple ⟨[]⟩)∧H'=wkR p bb sb B E' m oa' oc' (o++y) ds H
 | none=>fun e H'=>e=.panicked [Z3M]∧H'=H
def ValS (F:World) (M:List Nat) (p bb sb:Nat) (B:Ents) (ds:List Dc) (f:Nat):Prop:=∀ (H:List Res) (E:Ents) (met:List Dg) (oa:Option Addr) (oc:Nat) (o v:List Nd) (va:Option Addr) (vc q:Nat) (key:List UInt8) (top:Bool),
 Rd F M H va (v.flatMap ndV)→NGood v→IsAt v q→key.length≤maxLen→(∀ x∈ds,Rd F M H x.va (x.s.value.flatMap ndV))→Bk2 B E ds met→(Z8 v q).length+pend (ds.map (·.s)) met < f→o.length+(Z8 v q).length+met.length+pend (ds.map (·.s)) met≤1000000000 →
 Meets Tryz.prog 25 [.pointer (some ⟨p,0,none⟩),.slice va v.length vc,.int .i64 q,sV key,.bool top] F M (wkR p bb sb B E met oa oc o ds H) (RevO p bb sb B ds H o (revV f (ds.map (·.s)) top met (Z8 v q) key))
abbrev hdN (k:Int) (key:List UInt8):Nd:=⟨k,key,[],false,0,0⟩
abbrev kiR (v:List Nd) (q:Nat) (ka:Option Addr) (kc:Nat):Res:=.row ka kc 3 1 (kidsOf v q).length ((offs (q+1) (kidsOf v q)).map nV)
theorem Zaa {f:Nat} (hv:ValS F M p bb sb B ds f) (hG:∀ x∈ds,NGood x.s.value∧Fo 1 x.s.value) {v:List Nd} {va:Option Addr} {vc q:Nat} {key:List UInt8} (hR:Rd F M H va (v.flatMap ndV)) (hg:NGood v) (ha:IsAt v q) (hkl:key.length≤maxLen) (hD:∀ x∈ds,Rd F M H x.va (x.s.value.flatMap ndV)) (hB:Bk2 B E ds met)
  (hf:(Z8 v q).length+pend (ds.map (·.s)) met < f+1) (hn:o.length+(Z8 v q).length+met.length+pend (ds.map (·.s)) met≤1000000000) :
  Meets Tryz.prog 50 [.pointer (some ⟨p,0,none⟩),.slice va v.length vc,.int .i64 q,sV key] F M (wkR p bb sb B E met oa oc o ds H)
   (RevO p bb sb B ds H o (rowO key (Zu (revV f (ds.map (·.s)) false) (ds.map (·.s)) met [] (kidsOf v q)))):=by
 refine Meets.enter Tryz.func50 rfl rfl ?_
 have hlt:=ha.lt
 have hvl:=hg.len
 obtain ⟨hk1,hk2⟩:=ha.kids_len
 generalize hL:ds.map (·.s)=L at *
 have hLv:∀ s∈L,Vl s.value:=fun s hs=>by
  rw [←hL] at hs
  obtain ⟨x,hx,rfl⟩:=List.mem_map.1 hs
  exact ⟨(hG x hx).2,(hG x hx).1.flat⟩
 have hval:(Z8 v q).length=(kidsOf v q).flatten.length+1:=rfl
 generalize hQ:Zu (revV f L false) L met [] (kidsOf v q)=Q
 unfold wkR
 repeat' (first|(apply Sr.same;refine T.appendF (g:=ndV) (hdN 6 key) rfl rfl rfl inferInstance (fun _=>rfl) rfl rfl rfl (by constructor<;>omega) rfl ?_;intro oa' oc')|(apply T.bsL;(iterate 5 apply rfl);intro nb)|refine Sg.Y9 ?_|fail)
 have hol:(o++[hdN 6 key]).length=o.length+1:=by simp
 refine T.call rfl rfl (Z0G rfl hvl ha) ?_
 rintro _ _ ⟨ka,kc,rfl,rfl⟩
 dsimp only [wkV,List.set_cons_zero,List.set_cons_succ]
 repeat' (first|refine Sg.Y9 ?_|fail)
 refine S.perm ?_ (((((List.Perm.swap _ _ _).trans (((List.Perm.swap _ _ _).trans (((List.Perm.swap _ _ _).trans (((List.Perm.swap _ _ _).trans ((Z2g _ H ds).cons _)).cons _)).cons _)).cons _)))))
 have hRd:∀ x∈ds,Rd F M (kiR v q ka kc::H) x.va (x.s.value.flatMap ndV):=fun x hx=>by
  have:=hD x hx
  exact Rd.tl
 have hRv:Rd F M (kiR v q ka kc::H) va (v.flatMap ndV):=Rd.tl
 have hK:∃ K,K=(kidsOf v q).flatten.length+met.length+pend L met:=⟨_,rfl⟩
 obtain ⟨K,hK⟩:=hK
 refine S.loopE 4 [0,1,8,33,34] (fun R b' μ H' e=>∃ (i k:Nat) (E':Ents) (mt:List Dg) (xa:Option Addr) (xc:Nat) (ys:List (List Nd)),H'=wkR p bb sb B E' mt xa xc (o++hdN 6 key::ys.flatten) ds (kiR v q ka kc::H)∧e=(9,.int .i64 k)::(35,.int .i64 i)::b' ∧
  (i≤(kidsOf v q).length∧k≤i∧ys.length=k∧Bk2 B E' ds mt∧Zu (revV f L false) L mt ys ((kidsOf v q).drop i)=Q∧ys.flatten.length+((kidsOf v q).drop i).flatten.length+mt.length+pend L mt≤K∧((kidsOf v q).drop i).flatten.length+pend L mt < f)∧μ=(kidsOf v q).length - i) rfl rfl ?_ _ _
  ⟨0,0,E,met,oa',oc',[],by simp,rfl,⟨Nat.zero_le _,Nat.le_refl _,rfl,hB,by simpa using hQ,by rw [List.drop_zero,List.flatten_nil,List.length_nil];omega,by rw [List.drop_zero];omega⟩,rfl⟩ (by repeat' first|exact trivial|refine And.intro rfl ?_)
 rintro _ _ _ ⟨i,k,E',mt,xa,xc,ys,rfl,rfl,⟨g1,g2,g7,g3,g4,g5,g6⟩,rfl⟩ ih
 have hoy:(o++hdN 6 key::ys.flatten).length=o.length+1+ys.flatten.length:=by simp;omega
 by_cases h1:i < (kidsOf v q).length
 ·rw [Z5u ha h1] at g4 g5 g6
  rw [Z5] at g5 g6
  have hol2:(offs (q+1) (kidsOf v q)).length=(kidsOf v q).length:=Z1s ..
  have hi2:=Z52 ha h1
  have hvx:=hg.vl hi2
  unfold wkR
  repeat' (first|refine Sg.Y8 ?_|(apply S.condQ;apply rfl;all_goals intro _)|fail)
  generalize (offs (q+1) (kidsOf v q)).getD i 0=qi at *
  have hqlt:=hi2.lt
  refine T.call rfl rfl (Z0W (v:=v) (key:=ZJ) rfl hvl hi2) ?_
  rintro _ _ ⟨rfl,rfl⟩
  rcases Z28 hi2 ZJ with ⟨m1,m2⟩|⟨qd,m1,md,m2⟩
  ·rw [Zu,m2] at g4
   simp only at g4
   rw [m1]
   repeat' (first|refine Sg.Y9 ?_|fail)
   have hc:=hv _ E' mt xa xc (o++hdN 6 key::ys.flatten) v va vc qi [] false hRv hg hi2 (by simp [maxLen]) hRd g3 (by rw [hL];omega) (by rw [hL];omega)
   rw [hL] at hc
   refine T.call rfl rfl hc ?_
   clear hc
   cases hr:revV f L false mt (Z8 v qi) [] with
   | none =>
    rw [hr] at g4
    simp only at g4
    rintro _ _ ⟨rfl,rfl⟩
    rw [←g4]
    repeat' (first|(with_reducible apply T.diesW)|(with_reducible apply T.ofPan)|fail)
    exact ⟨_,PSub.drop (PSub.refl _),rfl,rfl⟩
   | some my =>
    obtain ⟨m,y⟩:=my
    rw [hr] at g4
    simp only at g4
    obtain ⟨b1,b2⟩:=Z0J hLv f false mt _ _ m y hvx (by omega) hr
    have b3:=b1.size
    obtain ⟨r1,b4⟩:=b1.grow
    have b5:=ZE L mt r1
    rw [←b4] at b5
    rintro _ _ ⟨E2,ya,yc,k1,rfl,rfl⟩
    have hys:=Z0B ys y
    have hyl:(ys++[y]).length=ys.length+1:=List.length_append
    have hmt:mt.length≤m.length:=by rw [b4,List.length_append];omega
    repeat' (first|refine Sg.Y9 ?_|fail)
    rw [show o++hdN 6 key::ys.flatten++y=o++hdN 6 key::(ys++[y]).flatten by simp]
    exact ih _ _ _ _ ⟨i+1,k+1,E2,m,ya,yc,ys++[y],rfl,rfl,⟨by omega,by omega,by omega,k1,g4,by omega,by omega⟩,rfl⟩ (by omega) (by repeat' first|exact trivial|refine And.intro rfl ?_)
  ·have e1:Z3 (Z8 v qi)=v.getD qi default:=Zc hqlt
   have e2:Z3 (Z8 v qd)=v.getD qd default:=Zc md.lt
   have hqd:=md.lt
   have hvl1:(Z8 v qi).length=(kidsOf v qi).flatten.length+1:=rfl
   rw [m1]
   by_cases c1:(v.getD qi default).kids=1
   ·by_cases c2:(v.getD qd default).kind=5
    ·repeat' (first|refine Sg.Y8 ?_|(apply S.condQ;apply rfl;all_goals intro _)|(apply T.gcase;apply rfl;apply rfl;all_goals intro _)|fail)
     rw [decide_eq_true c2]
     refine T.call rfl rfl Z0t ?_
     rintro _ _ ⟨rfl,rfl⟩
     repeat' (first|refine Sg.Y9 ?_|fail)
     have htl:=(hg.texts _ (Z26 hqd)).2
     rw [Zc hqd] at htl
     generalize hdg:(v.getD qd default).text=dg at *
     refine T.call rfl rfl (Z6a g3 (by simpa [maxLen] using htl) (by omega)) ?_
     rintro _ _ ⟨E2,k1,rfl,rfl⟩
     have hml:(mt++[dg]).length=mt.length+1:=List.length_append
     have hpm:=ZE L mt [dg]
     have hfs:=Z6w ds dg
     rw [hL] at hfs
     cases hfd:Z1T ds dg with
     | none =>
      rw [hfd] at hfs
      rw [Z4b e1 m2 e2 ⟨c1,c2⟩ (by rw [hdg];exact hfs),hdg] at g4
      repeat' (first|refine Sg.Y9 ?_|fail)
      refine T.call rfl rfl Z0t ?_
      rintro _ _ ⟨rfl,rfl⟩
      repeat' (first|refine Sg.Y9 ?_|fail)
      exact ih _ _ _ _ ⟨i+1,k,E2,_,xa,xc,ys,rfl,rfl,⟨by omega,by omega,g7,k1,g4,by omega,by omega⟩,rfl⟩ (by omega) (by repeat' first|exact trivial|refine And.intro rfl ?_)
     | some x =>
      rw [hfd] at hfs
      have hfs2:Z0y L dg=some x.s:=hfs
      obtain ⟨hx1,hx2⟩:=Z1i hfd
      haveI hI:InB (dcR (mt++[dg]) ds (kiR v q ka kc::H)) x.b (dcV (mt++[dg]) x) 64:=⟨Z69 hx1⟩
      cases hmb:x.s.member with
      | true =>
       rw [Z5v e1 m2 e2 ⟨c1,c2⟩ (by rw [hdg];exact hfs2) hmb] at g4
       rw [←g4]
       repeat' (first|refine Sg.Y9 ?_|fail)
       rw [hmb]
       refine T.call rfl rfl Z0a ?_
       rintro _ _ ⟨rfl,rfl⟩
       repeat' (first|(with_reducible apply T.diesW)|(with_reducible apply T.ofPan)|fail)
       exact ⟨_,PSub.trans (PSub.drop (PSub.refl _)) (PSub.drop (PSub.drop (PSub.drop (PSub.drop (Z0k _ _ _))))),rfl,rfl⟩
      | false =>
       by_cases hdm:dg∈mt
       ·rw [Z6j e1 m2 e2 ⟨c1,c2⟩ (by rw [hdg];exact hfs2) hmb (by rw [hdg];exact hdm),hdg] at g4
        repeat' (first|refine Sg.Y9 ?_|fail)
        rw [hmb]
        refine T.call rfl rfl Z0t ?_
        rintro _ _ ⟨rfl,rfl⟩
        repeat' (first|refine Sg.Y8 ?_|(apply S.condQ;apply rfl;all_goals intro _)|fail)
        rw [decide_eq_false (fun h=>h hdm)]
        skip
        exact ih _ _ _ _ ⟨i+1,k,E2,_,xa,xc,ys,rfl,rfl,⟨by omega,by omega,g7,k1,g4,by omega,by omega⟩,rfl⟩ (by omega) (by repeat' first|exact trivial|refine And.intro rfl ?_)
       ·rw [Z4a e1 m2 e2 ⟨c1,c2⟩ (by rw [hdg];exact hfs2) hmb (by rw [hdg];exact hdm),hdg] at g4
        have hxL:x.s∈L:=by rw [←hL];exact List.mem_map_of_mem hx1
        have hpo:=Z0L hxL (by rw [hx2];exact hdm)
        rw [hx2] at hpo
        obtain ⟨q1,q2⟩:=hG x hx1
        have hv0:=ZV q2
        repeat' (first|refine Sg.Y9 ?_|fail)
        rw [hmb]
        refine T.call rfl rfl Z0t ?_
        rintro _ _ ⟨rfl,rfl⟩
        repeat' (first|refine Sg.Y8 ?_|(apply S.condQ;apply rfl;all_goals intro _)|fail)
        rw [decide_eq_true hdm]
        skip
        have hc:=hv _ E2 (mt++[dg]) xa xc (o++hdN 6 key::ys.flatten) x.s.value x.va x.vc 0 [] false (hRd x hx1) q1 (IsAt.of_fo q2) (by simp [maxLen]) hRd k1 (by rw [hL,hv0];omega) (by rw [hL,hv0];omega)
        rw [hL,hv0] at hc
        refine T.call rfl rfl hc ?_
        clear hc
        cases hr:revV f L false (mt++[dg]) x.s.value [] with
        | none =>
         rw [hr] at g4
         simp only at g4
         rintro _ _ ⟨rfl,rfl⟩
         rw [←g4]
         repeat' (first|(with_reducible apply T.diesW)|(with_reducible apply T.ofPan)|fail)
         exact ⟨_,PSub.drop (PSub.refl _),rfl,rfl⟩
        | some my =>
         obtain ⟨m,y⟩:=my
         rw [hr] at g4
         simp only at g4
         obtain ⟨b1,b2⟩:=Z0J hLv f false (mt++[dg]) _ _ m y ⟨q2,q1.flat⟩ (by omega) hr
         have b3:=b1.size
         obtain ⟨r1,b4⟩:=b1.grow
         have b5:=ZE L (mt++[dg]) r1
         rw [←b4] at b5
         rintro _ _ ⟨E3,ya,yc,k2,rfl,rfl⟩
         have hys:=Z0B ys y
         have hyl:(ys++[y]).length=ys.length+1:=List.length_append
         have hmt:mt.length+1≤m.length:=by rw [b4,List.length_append,hml];omega
         repeat' (first|refine Sg.Y10 ?_|fail)
         rw [show o++hdN 6 key::ys.flatten++y=o++hdN 6 key::(ys++[y]).flatten by simp]
         exact ih _ _ _ _ ⟨i+1,k+1,E3,m,ya,yc,ys++[y],rfl,rfl,⟨by omega,by omega,by omega,k2,g4,by omega,by omega⟩,rfl⟩ (by omega) (by repeat' first|exact trivial|refine And.intro rfl ?_)
    ·rw [Z53 e1 m2 e2 (fun h=>c2 h.2)] at g4
     rw [←g4]
     repeat' (first|refine Sg.Y8 ?_|(apply S.condQ;apply rfl;all_goals intro _)|(apply T.gcase;apply rfl;apply rfl;all_goals intro _)|fail)
     rw [decide_eq_false c2]
     refine T.call rfl rfl Z0a ?_
     rintro _ _ ⟨rfl,rfl⟩
     repeat' (first|(with_reducible apply T.diesW)|(with_reducible apply T.ofPan)|fail)
     exact ⟨_,PSub.trans (PSub.drop (PSub.refl _)) (PSub.drop (PSub.drop (PSub.drop (PSub.drop (Z0k _ _ _))))),rfl,rfl⟩
   ·rw [Z53 e1 m2 e2 (fun h=>c1 h.1)] at g4
    rw [←g4]
    repeat' (first|refine Sg.Y8 ?_|(apply S.condQ;apply rfl;all_goals intro _)|(apply T.gcase;apply rfl;apply rfl;all_goals intro _)|fail)
    refine T.call rfl rfl Z0a ?_
    rintro _ _ ⟨rfl,rfl⟩
    repeat' (first|(with_reducible apply T.diesW)|(with_reducible apply T.ofPan)|fail)
    exact ⟨_,PSub.trans (PSub.drop (PSub.refl _)) (PSub.drop (PSub.drop (PSub.drop (PSub.drop (Z0k _ _ _))))),rfl,rfl⟩
 ·obtain rfl:i=(kidsOf v q).length:=by omega
  clear ih
  rw [List.drop_length] at g4
  have hq2:Q=some (mt,ys):=g4.symm
  subst hq2
  subst g7
  have hgi:(o++hdN 6 key::ys.flatten)[o.length]?=some (hdN 6 key):=by simp
  have hse:(o++hdN 6 key::ys.flatten).set o.length ⟨6,key,[],false,0,(ys.length:Int)⟩=o++rowN 6 key ys:=by simp [rowN]
  unfold wkR
  repeat' (first|(apply Sr.same;refine T.storeF (g:=ndV) ⟨6,key,[],false,0,(ys.length:Int)⟩ rfl rfl inferInstance (fun _=>rfl) rfl hgi rfl rfl ?_)|refine Sg.Y8 ?_|(apply S.condQ;apply rfl;all_goals intro _)|fail)
  rw [hse,show (o++hdN 6 key::ys.flatten).length=(o++rowN 6 key ys).length by simp [rowN]]
  exact ⟨_,PSub.take Z0 (PSub.take Z0 (PSub.take Z0 (PSub.take Z0 (Z3b _ _ _)))),E',xa,xc,g3,rfl,rfl⟩
end
end Go.Proofs.YtophlopiigpbgaaGreatDoor
/- The walks of the revealing: the members that are told. -/
/- ptrs -/
namespace Go.Proofs.YtophlopiigpbgaaGreatDoor
open Sg Go.IntWalk
set_option maxRecDepth 100000
set_option maxHeartbeats 4000000
structure Nm2 (N:Ents) (ns:List (List UInt8)):Prop where
 get:∀ n,(eget N n).getD 0=(ns.count n:Int)
 len:N.length≤ns.length
theorem Zcj {N:Ents} {ns:List (List UInt8)} (hB:Nm2 N ns) (d:List UInt8):Nm2 (eput N d ((ns.count d:Int)+1)) (ns++[d]):=by
 refine ⟨fun n=>?_,?_⟩
 ·rw [Z1u]
  by_cases h:d=n
  ·subst h
   rw [if_pos rfl,Option.getD_some,List.count_append]
   simp
  ·rw [if_neg h,hB.get,List.count_append]
   have:List.count n [d]=0:=by simp [List.count_singleton,h]
   omega
 ·have:=Z0O N d ((ns.count d:Int)+1)
  have:=hB.len
  rw [List.length_append,List.length_singleton]
  omega
abbrev nmE (nb:Nat) (N:Ents):Res:=.ex nb (mapQ Tryz.prog 9 3 N.length (mapD N))
section
variable {F:World} {M:List Nat} {H:List Res} {p bb sb nb:Nat} {B E N:Ents} {met:List Dg} {oa:Option Addr} {oc:Nat} {o:List Nd} {ds:List Dc} {d:Dg} {ns:List (List UInt8)}
theorem Zck {b:Nat} {Q:Obj→Prop}:∀ ds:List Dc,InE H b Q→InE (dcR met ds H) b Q
 | [],h=>h
 | _::r,h=>⟨List.mem_cons_of_mem _ (Zck r h).h⟩
instance InE.dc {b:Nat} {Q:Obj→Prop} [h:InE H b Q]:InE (dcR met ds H) b Q:=Zck ds h
theorem Zcn {b:Nat} {Q:Obj→Prop} {g:Res→List Res}:∀ ds:List Dc,AtE H b Q g→AtE (dcR met ds H) b Q (fun r=>dcR met ds (g r))
 | [],h=>h
 | _::r,h=>by
  have:=Zcn r h
  exact AtE.tl
instance AtE.dc {b:Nat} {Q:Obj→Prop} {g:Res→List Res} [h:AtE H b Q g]:AtE (dcR met ds H) b Q (fun r=>dcR met ds (g r)):=Zcn ds h
def DisO (p bb sb nb:Nat) (B:Ents) (ds:List Dc) (H:List Res) (o:List Nd):Option (List Dg × List (List Nd))→Ending→List Res→Prop
 | some (m,us)=>fun e H'=>∃ E' oa' oc' N',Bk2 B E' ds m∧e=.returned (.int .i64 us.length)∧H'=wkR p bb sb B E' m oa' oc' (o++us.flatten) ds (nmE nb N'::H)
 | none=>fun e H'=>e=.panicked [Z3M]∧H'=H
theorem Z4C {f:Nat} (hv:ValS F M p bb sb B ds f) (hG:∀ x∈ds,NGood x.s.value∧Fo 1 x.s.value) (hGn:∀ x∈ds,x.s.name.length≤maxLen) {v:List Nd} {va:Option Addr} {vc q:Nat} (hR:Rd F M H va (v.flatMap ndV)) (hg:NGood v) (ha:IsAt v q) (hD:∀ x∈ds,Rd F M H x.va (x.s.value.flatMap ndV)) (hB:Bk2 B E ds met) (hN:Nm2 N ns)
  (hf:pend (ds.map (·.s)) met < f) (hn:o.length+(kidsOf v q).flatten.length+met.length+pend (ds.map (·.s)) met≤1000000000) (hns:ns.length≤1000000000) :
  Meets Tryz.prog 78 [.pointer (some ⟨p,0,none⟩),.slice va v.length vc,.int .i64 q,.map (some nb)] F M (wkR p bb sb B E met oa oc o ds (nmE nb N::H))
   (DisO p bb sb nb B ds H o (if (Zz v q).kind=6 then Zq (revV f (ds.map (·.s)) false) (ds.map (·.s)) met ns [] (kidsOf v q) else none)):=by
 refine Meets.enter Tryz.func78 rfl rfl ?_
 have hlt:=ha.lt
 have hvl:=hg.len
 obtain ⟨hk1,hk2⟩:=ha.kids_len
 generalize hL:ds.map (·.s)=L at *
 have hLv:∀ s∈L,Vl s.value:=fun s hs=>by
  rw [←hL] at hs
  obtain ⟨x,hx,rfl⟩:=List.mem_map.1 hs
  exact ⟨(hG x hx).2,(hG x hx).1.flat⟩
 have e1:=Zc (v:=v) hlt
 by_cases c1:(v.getD q default).kind=6
 ·rw [if_pos (by rw [e1];exact c1)]
  generalize hQ:Zq (revV f L false) L met ns [] (kidsOf v q)=Q
  unfold wkR
  repeat' (first|refine Sg.Y1 ?_|fail)
  rw [decide_eq_true c1]
  refine T.call rfl rfl Z0t ?_
  rintro _ _ ⟨rfl,rfl⟩
  repeat' (first|refine Sg.Y1 ?_|fail)
  refine T.call rfl rfl (Z0G rfl hvl ha) ?_
  rintro _ _ ⟨ka,kc,rfl,rfl⟩
  repeat' (first|refine Sg.Y1 ?_|fail)
  refine S.perm ?_ (((((List.Perm.swap _ _ _).trans (((List.Perm.swap _ _ _).trans (((List.Perm.swap _ _ _).trans (((List.Perm.swap _ _ _).trans ((Z2g _ _ ds).cons _)).cons _)).cons _)).cons _)))))
  have hRd:∀ N',∀ x∈ds,Rd F M (kiR v q ka kc::nmE nb N'::H) x.va (x.s.value.flatMap ndV):=fun N' x hx=>by
   have:=hD x hx
   exact Rd.tl
  obtain ⟨K,hK⟩:∃ K,K=(kidsOf v q).flatten.length+met.length+pend L met:=⟨_,rfl⟩
  refine S.loopE 4 [0,1,3,23,24] (fun R b' μ H' e=>∃ (i k:Nat) (E' N':Ents) (mt:List Dg) (nx:List (List UInt8)) (xa:Option Addr) (xc:Nat) (us:List (List Nd)),H'=wkR p bb sb B E' mt xa xc (o++us.flatten) ds (kiR v q ka kc::nmE nb N'::H)∧e=(9,.int .i64 k)::(25,.int .i64 i)::b' ∧
   (i≤(kidsOf v q).length∧k≤i∧us.length=k∧Bk2 B E' ds mt∧Nm2 N' nx∧nx.length≤ns.length+i∧Zq (revV f L false) L mt nx us ((kidsOf v q).drop i)=Q∧us.flatten.length+((kidsOf v q).drop i).flatten.length+mt.length+pend L mt≤K∧pend L mt < f)∧μ=(kidsOf v q).length - i) rfl rfl ?_ _ _
   ⟨0,0,E,N,met,ns,oa,oc,[],by simp,rfl,⟨Nat.zero_le _,Nat.le_refl _,rfl,hB,hN,Nat.le_refl _,by simpa using hQ,by rw [List.drop_zero,List.flatten_nil,List.length_nil];omega,hf⟩,rfl⟩ (by repeat' first|exact trivial|refine And.intro rfl ?_)
  rintro _ _ _ ⟨i,k,E',N',mt,nx,xa,xc,us,rfl,rfl,⟨g1,g2,g7,g3,g8,g9,g4,g5,g6⟩,rfl⟩ ih
  have hoy:(o++us.flatten).length=o.length+us.flatten.length:=List.length_append
  by_cases h1:i < (kidsOf v q).length
  ·rw [Z5u ha h1] at g4 g5
   rw [Z5] at g5
   have hol2:(offs (q+1) (kidsOf v q)).length=(kidsOf v q).length:=Z1s ..
   have hi2:=Z52 ha h1
   have hvx:=hg.vl hi2
   unfold wkR
   repeat' (first|refine Sg.Y3 ?_|(apply S.condQ;apply rfl;all_goals intro _)|fail)
   generalize (offs (q+1) (kidsOf v q)).getD i 0=qi at *
   have hqlt:=hi2.lt
   have e2:Z3 (Z8 v qi)=v.getD qi default:=Zc hqlt
   have hvl1:(Z8 v qi).length=(kidsOf v qi).flatten.length+1:=rfl
   by_cases c2:(v.getD qi default).kind=5
   ·repeat' (first|refine Sg.Y2 ?_|fail)
    rw [decide_eq_true c2]
    refine T.call rfl rfl Z0t ?_
    rintro _ _ ⟨rfl,rfl⟩
    repeat' (first|refine Sg.Y1 ?_|fail)
    have htl:=(hg.texts _ (Z26 hqlt)).2
    rw [Zc hqlt] at htl
    generalize hdg:(v.getD qi default).text=dg at *
    refine T.call rfl rfl (Z6a g3 (by simpa [maxLen] using htl) (by omega)) ?_
    rintro _ _ ⟨E2,k1,rfl,rfl⟩
    obtain ⟨fr,hfr⟩:∃ fr,decide (dg∉mt)=fr:=⟨_,rfl⟩
    rw [hfr]
    have hml:(mt++[dg]).length=mt.length+1:=List.length_append
    have hpm:=ZE L mt [dg]
    have hfs:=Z6w ds dg
    rw [hL] at hfs
    cases hfd:Z1T ds dg with
    | none =>
     rw [hfd] at hfs
     rw [Z4p e2 c2 (by rw [hdg];exact hfs),hdg] at g4
     repeat' (first|refine Sg.Y1 ?_|fail)
     exact ih _ _ _ _ ⟨i+1,k,E2,N',_,nx,xa,xc,us,rfl,rfl,⟨by omega,by omega,g7,k1,g8,by omega,g4,by omega,by omega⟩,rfl⟩ (by omega) (by repeat' first|exact trivial|refine And.intro rfl ?_)
    | some x =>
     rw [hfd] at hfs
     have hfs2:Z0y L dg=some x.s:=hfs
     obtain ⟨hx1,hx2⟩:=Z1i hfd
     have hnl:=hGn x hx1
     haveI hI:InB (dcR (mt++[dg]) ds (kiR v q ka kc::nmE nb N'::H)) x.b (dcV (mt++[dg]) x) 64:=⟨Z69 hx1⟩
     have hgn:=g8.get x.s.name
     have hcn:nx.count x.s.name≤nx.length:=List.count_le_length
     have hNl:=g8.len
     have hNm:maxLen=9223372036854775807:=rfl
     cases hmb:x.s.member with
     | false =>
      rw [Z6B e2 c2 (by rw [hdg];exact hfs2) (fun h=>by rw [hmb] at h;cases h.1)] at g4
      rw [←g4]
      repeat' (first|refine Sg.Y1 ?_|fail)
      rw [hmb]
      repeat' (first|(apply T.pickF;(iterate 3 apply rfl))|(apply T.skip;apply rfl;(first|with_reducible rfl|decide);apply rfl)|fail)
      refine T.call rfl rfl Z0a ?_
      rintro _ _ ⟨rfl,rfl⟩
      repeat' (first|(with_reducible apply T.diesW)|(with_reducible apply T.ofPan)|fail)
      exact ⟨_,PSub.trans (PSub.drop (PSub.drop (PSub.refl _))) (PSub.drop (PSub.drop (PSub.drop (PSub.drop (Z0k _ _ _))))),rfl,rfl⟩
     | true =>
      by_cases hnn:x.s.name∈nx
      ·rw [Z6B e2 c2 (by rw [hdg];exact hfs2) (fun h=>h.2 hnn)] at g4
       rw [←g4]
       have hz:decide ((eget N' x.s.name).getD 0=0)=false:=by
        have:=List.count_pos_iff.2 hnn
        rw [decide_eq_false_iff_not]
        omega
       repeat' (first|refine Sg.Y1 ?_|fail)
       rw [hmb]
       repeat' (first|refine Sg.Y2 ?_|fail)
       rw [hz]
       refine T.call rfl rfl Z0a ?_
       rintro _ _ ⟨rfl,rfl⟩
       repeat' (first|(with_reducible apply T.diesW)|(with_reducible apply T.ofPan)|fail)
       exact ⟨_,PSub.trans (PSub.drop (PSub.drop (PSub.refl _))) (PSub.drop (PSub.drop (PSub.drop (PSub.drop (Z0k _ _ _))))),rfl,rfl⟩
      ·have hz:decide ((eget N' x.s.name).getD 0=0)=true:=by
        have:=List.count_eq_zero.2 hnn
        rw [decide_eq_true_iff]
        omega
       have hnp:=Zcj g8 x.s.name
       have hnx:(nx++[x.s.name]).length=nx.length+1:=List.length_append
       repeat' (first|refine Sg.Y1 ?_|fail)
       rw [hmb]
       repeat' (first|refine Sg.Y2 ?_|fail)
       rw [hz]
       refine T.call rfl rfl Z0t ?_
       rintro _ _ ⟨rfl,rfl⟩
       repeat' (first|refine Sg.Y1 ?_|fail)
       rw [hgn]
       repeat' (first|(apply Sr.same;refine T.mapPutA (z:=(nx.count x.s.name:Int)+1) rfl rfl rfl inferInstance hnl (by omega) (Z9d (by constructor<;>omega)) ?_)|refine Sg.Y1 ?_|fail)
       dsimp only
       generalize eput N' x.s.name ((nx.count x.s.name:Int)+1)=N2 at hnp ⊢
       cases fr with
       | false =>
        have hdm:dg∈mt:=by simpa using hfr
        rw [Z6C e2 c2 (by rw [hdg];exact hfs2) ⟨hmb,hnn⟩ (by rw [hdg];exact hdm),hdg] at g4
        repeat' (first|refine Sg.Y2 ?_|fail)
        exact ih _ _ _ _ ⟨i+1,k,E2,N2,_,_,xa,xc,us,rfl,rfl,⟨by omega,by omega,g7,k1,hnp,by omega,g4,by omega,by omega⟩,rfl⟩ (by omega) (by repeat' first|exact trivial|refine And.intro rfl ?_)
       | true =>
        have hdm:dg∉mt:=by simpa using hfr
        rw [Z4o e2 c2 (by rw [hdg];exact hfs2) ⟨hmb,hnn⟩ (by rw [hdg];exact hdm),hdg] at g4
        have hxL:x.s∈L:=by rw [←hL];exact List.mem_map_of_mem hx1
        have hpo:=Z0L hxL (by rw [hx2];exact hdm)
        rw [hx2] at hpo
        obtain ⟨q1,q2⟩:=hG x hx1
        have hv0:=ZV q2
        have hc:=hv _ E2 (mt++[dg]) xa xc (o++us.flatten) x.s.value x.va x.vc 0 x.s.name false (hRd N2 x hx1) q1 (IsAt.of_fo q2) hnl (hRd N2) k1 (by rw [hL,hv0];omega) (by rw [hL,hv0];omega)
        rw [hL,hv0] at hc
        haveI hI2:InB (dcR (mt++[dg]) ds (kiR v q ka kc::nmE nb N2::H)) x.b (dcV (mt++[dg]) x) 64:=⟨Z69 hx1⟩
        repeat' (first|with_reducible refine S.seq ?_|(apply S.condTV;apply rfl;(first|with_reducible rfl|decide))|fail)
        (apply S.drawL;(case Hs=>exact dcR (mt++[dg]) ds (kiR v q ka kc::nmE nb N2::H));(case es=>exact  [9]);(case lt=>exact  [9]);(case n=>exact  10);(case hn=>rfl))
        cases hr:revV f L false (mt++[dg]) x.s.value x.s.name with
        | none =>
         rw [hr] at g4 hc
         simp only at g4
         rw [←g4]
         repeat' (first|(apply SA.qn;(iterate 4 apply rfl);kernel_rfl)|refine Sg.Y2 ?_|fail)
         refine T.call rfl rfl hc ?_
         rintro _ _ ⟨rfl,rfl⟩
         repeat' (first|(with_reducible apply T.diesW)|(with_reducible apply T.ofPan)|fail)
         exact ⟨_,PSub.drop (PSub.drop (PSub.refl _)),rfl,rfl⟩
        | some my =>
         obtain ⟨m,y⟩:=my
         rw [hr] at g4 hc
         simp only at g4
         obtain ⟨b1,b2⟩:=Z0J hLv f false (mt++[dg]) _ _ m y ⟨q2,q1.flat⟩ (by omega) hr
         have b3:=b1.size
         obtain ⟨r1,b4⟩:=b1.grow
         have b5:=ZE L (mt++[dg]) r1
         rw [←b4] at b5
         have hys:=Z0B us y
         have hyl:(us++[y]).length=us.length+1:=List.length_append
         have hmt:mt.length+1≤m.length:=by rw [b4,List.length_append,hml];omega
         repeat' (first|(apply SA.qn;(iterate 4 apply rfl);kernel_rfl)|refine Sg.Y2 ?_|fail)
         refine T.call rfl rfl hc ?_
         rintro _ _ ⟨E3,ya,yc,k2,rfl,rfl⟩
         repeat' (first|(apply SA.done;apply rfl;kernel_rfl)|(apply SK.late;decide)|refine Sg.Y2 ?_|fail)
         rw [show o++us.flatten++y=o++(us++[y]).flatten by simp]
         exact ih _ _ _ _ ⟨i+1,k+1,E3,N2,m,_,ya,yc,us++[y],rfl,rfl,⟨by omega,by omega,by omega,k2,hnp,by omega,g4,by omega,by omega⟩,rfl⟩ (by omega) (by repeat' first|exact trivial|refine And.intro rfl ?_)
   ·rw [Z8Z e2 c2] at g4
    rw [←g4]
    repeat' (first|refine Sg.Y2 ?_|fail)
    rw [decide_eq_false c2]
    refine T.call rfl rfl Z0a ?_
    rintro _ _ ⟨rfl,rfl⟩
    repeat' (first|(with_reducible apply T.diesW)|(with_reducible apply T.ofPan)|fail)
    exact ⟨_,PSub.trans (PSub.drop (PSub.drop (PSub.refl _))) (PSub.drop (PSub.drop (PSub.drop (PSub.drop (Z0k _ _ _))))),rfl,rfl⟩
  ·obtain rfl:i=(kidsOf v q).length:=by omega
   clear ih
   rw [List.drop_length] at g4
   have hq2:Q=some (mt,us):=g4.symm
   subst hq2
   subst g7
   repeat' (first|refine Sg.Y3 ?_|(apply S.condQ;apply rfl;all_goals intro _)|fail)
   exact ⟨_,PSub.take Z0 (PSub.take Z0 (PSub.take Z0 (PSub.take Z0 (Z3b _ _ _)))),E',xa,xc,N',g3,rfl,rfl⟩
 ·rw [if_neg (by rw [e1];exact c1)]
  repeat' (first|refine Sg.Y1 ?_|fail)
  rw [decide_eq_false c1]
  refine T.call rfl rfl Z0a ?_
  rintro _ _ ⟨rfl,rfl⟩
  repeat' (first|(with_reducible apply T.diesW)|(with_reducible apply T.ofPan)|fail)
  exact ⟨_,PSub.trans (PSub.drop (PSub.refl _)) (PSub.drop (PSub.drop (PSub.drop (PSub.drop (Z0k _ _ _))))),rfl,rfl⟩
end
end Go.Proofs.YtophlopiigpbgaaGreatDoor
