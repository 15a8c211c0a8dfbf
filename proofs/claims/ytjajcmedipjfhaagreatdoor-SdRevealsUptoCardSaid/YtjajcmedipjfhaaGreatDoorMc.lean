/- Texts put together by a program: MapP JsnU JsnQ JsnA Rune JsnB JsnR JsnC. -/
import Derived.Test.YtjajcmedipjfhaaGreatDoorMa
import Derived.Test.YtjajcmedipjfhaaGreatDoorMb
import Derived.Lib.DecodeNEq
import Derived.Test.YtjajcmedipjfhaaGreatDoorFacts
/- Maps from texts to pointers that the call owns: a list of entries by rising names; a pointer is its block's number, nil is - 1. -/
namespace Sg
open Go Go.RowKit Go.ChangeMaps Go.MapKept
open Go.WideElems (Fit rd rg)
open Go.Maps (Keyed)
def ptrE (v:Value):Option (D0 × List MemPlace):=match v with
 | .pointer (some ⟨b,0,none⟩)=>some (.lit (.int .i64 b),[])
 | .pointer none=>some (.lit (.int .i64 (-1)),[])
 | _=>none
def pV (z:Int):Value:=if z < 0 then .pointer none else .pointer (some ⟨z.toNat,0,none⟩)
theorem Z4Q (b:Nat):pV (b:Int)=.pointer (some ⟨b,0,none⟩):=by
 unfold pV
 rw [if_neg (by omega)]
 rfl
theorem ZcQ (b:Nat):ptrE (.pointer (some ⟨b,0,none⟩))=some (.lit (.int .i64 b),[]):=rfl
theorem Z8a {v:Value} {z:D0 × List MemPlace} (h:ptrE v=some z):∃ n:Int,v=pV n∧z=(.lit (.int .i64 n),[]):=by
 unfold ptrE at h
 split at h
 ·cases h
  exact ⟨_,(Z4Q _).symm,rfl⟩
 ·cases h
  exact ⟨-1,rfl,rfl⟩
 ·cases h
def ptrQ (P:Program) (k:TypeId) (n:Nat) (D:D0) (o:Obj):Prop :=
 ∃ es clock,o=.map es clock∧Fit P k ptrE es clock∧es.size≤n∧D=.map ((es.toList.map (rg P k ptrE)).foldr DataW.insert [])
theorem ptrQ_iff {P:Program} {w:World} {k:TypeId} {b n:Nat} {D:D0}:(Res.ex b (ptrQ P k n D)).holds w↔w.ownsMap P k ptrE b n D :=
 ⟨fun ⟨_,h1,es,clock,h2,h3⟩=>by subst h2;exact ⟨es,clock,h1,h3⟩,fun ⟨es,clock,h1,h3⟩=>⟨_,h1,es,clock,rfl,h3⟩⟩
def Z3a (P:Program) (k:TypeId) (b n:Nat) (D:D0) (left:Lit→Bool) (cnt:Nat) (o o':Obj):Prop :=
 ∃ es clock since seen c0,o=.map es clock∧Fit P k ptrE es clock∧es.size≤n∧D=.map ((es.toList.map (rg P k ptrE)).foldr DataW.insert []) ∧
  o'=.mapIter (some b) since seen c0∧(∀ x∈es.toList,x.born < since)∧(leftOf es seen).size=cnt ∧
  (∀ x∈es.toList,left (rg P k ptrE x).1=!seen.contains x.born)∧(∀ kl,left kl=true→∃ x∈es.toList,(rg P k ptrE x).1=kl)∧since≤c0∧since≤clock
theorem ptrRQ_iff {P:Program} {w:World} {k:TypeId} {b r n:Nat} {D:D0} {left:Lit→Bool} {cnt:Nat}:(Res.ex2 b r (Z3a P k b n D left cnt)).holds w↔w.ranges P k ptrE b r n D left cnt :=
 ⟨fun ⟨_,_,h1,h2,es,clock,since,seen,c0,e1,f1,f2,f3,e2,f4⟩=>by subst e1 e2;exact ⟨es,clock,since,seen,c0,h1,f1,f2,f3,h2,f4⟩,
 fun ⟨es,clock,since,seen,c0,h1,f1,f2,f3,h2,f4⟩=>⟨_,_,h1,h2,es,clock,since,seen,c0,rfl,f1,f2,f3,rfl,f4⟩⟩
section
variable {c:Ctx} {dr:Bool} {ds:List Deferred} {H:List Res} {e:Env} {ops:Array Oper} {l:List Oper} {κ:List Res→Env→Prop} {ty:TypeId} {pos:String} {aft:Array Edge} {q:Mode}
theorem T.ptrLook {x y:Operand} {d:Tmp} {b n:Nat} {m:Ents} {kk:List UInt8} {t k E:TypeId} [HU c.P t (.map k E)] [HU c.P k .string] {sz by_:Nat} [HI c.P E (.pointer none) sz by_] (hx:ev e x=some (.map (some b))) (hy:ev e y=some (sV kk)) (hm:InE H b (ptrQ c.P k n (mapD m))) (hl:kk.length≤maxLen) (hlt:Nat.blt d c.fn.ntmps=true)
  (hk:Sr q c ds H ops l κ ((d,pV ((eget m kk).getD (-1)))::e)):Sr q c ds H ops (⟨some d,.lookup t x y false,ty,pos,aft,none⟩::l) κ e :=
 Sr.p (fun w a hw ha=>by
  have hown:=ptrQ_iff.1 (hw.res _ hm.h)
  obtain ⟨v,ps,hrun,hv⟩:=hown.lookup (Maps.string_keyed HU.h) (HU.h (P:=c.P) (t:=t)) (Z1l (t:=E) w) (zd:=.lit (.int .i64 (-1))) (zp:=[]) rfl (Z63 (P:=c.P) (k:=k) HU.h hl)
  obtain ⟨z,rfl,hz⟩:=Z8a hv
  rw [Z8i] at hz
  have h2:z=(eget m kk).getD (-1):=by
   cases hg:eget m kk with
   | none=>rw [hg] at hz;simp only [Prod.mk.injEq,DataW.lit.injEq,Lit.int.injEq,true_and] at hz;exact hz.1.symm
   | some u=>rw [hg] at hz;simp only [Prod.mk.injEq,DataW.lit.injEq,Lit.int.injEq,true_and] at hz;exact hz.1.symm
  rw [←h2]
  simp [execOp,ha.ev hx,ha.ev hy,hrun]) rfl hlt rfl hk
theorem T.ptrMake {d:Tmp} {t k E:TypeId} [HU c.P t (.map k E)] (hlt:Nat.blt d c.fn.ntmps=true) (hk:∀ b,Sr (.eff dr) c ds (.ex b (ptrQ c.P k 0 (mapD []))::H) ops l κ ((d,.map (some b))::e)):Sr (.eff dr) c ds H ops (⟨some d,.makeMap t none,ty,pos,aft,none⟩::l) κ e :=
 Sr.eff (K:=fun v H'=>∃ b,v=.map (some b)∧H'=.ex b (ptrQ c.P k 0 (mapD []))::H) (fun w a hw ha=>by
  refine ⟨.map (some w.heap.size),w.alloc (.map #[] 0),_,.inl ?_,?_,w.heap.size,rfl,rfl⟩
  ·simp [execOp,run_makeMap]
  ·exact hw.fresh rfl rfl rfl (by simp) (fun j hj=>Below.heap_alloc _ _ _ hj) (ptrQ_iff.2 (World.ownsMap_made w c.P k ptrE)) (by simp [Res.foot]) (by simp [Res.foot])) hlt rfl fun v H' ⟨b,hv,hH⟩=>by
  subst hv hH
  exact hk b
theorem Z8R {P:Program} {k:TypeId} {n:Nat} {m:Ents} {o:Obj} (h:ptrQ P k n (mapD m) o):ptrQ P k m.length (mapD m) o:=by
 obtain ⟨es,clock,h1,h2,h3,h4⟩:=h
 refine ⟨es,clock,h1,h2,?_,h4⟩
 have h5:Maps.size (mapD m)=es.size:=by
  rw [h4]
  simp [Maps.size,length_sorted]
 rw [Z3Q] at h5
 omega
theorem T.ptrPut {x y u:Operand} {b n p:Nat} {m:Ents} {kk:List UInt8} {t k E:TypeId} [HU c.P t (.map k E)] [HU c.P k .string] (hx:ev e x=some (.map (some b))) (hy:ev e y=some (sV kk)) (hu:ev e u=some (.pointer (some ⟨p,0,none⟩))) (hl:kk.length≤maxLen) (hn:n < maxLen)
  (hk:Sr (.eff dr) c ds (.ex b (ptrQ c.P k (eput m kk p).length (mapD (eput m kk p)))::H) ops l κ e):Sr (.eff dr) c ds (.ex b (ptrQ c.P k n (mapD m))::H) ops (⟨none,.mapUpdate t x y u,ty,pos,aft,none⟩::l) κ e :=
 Sr.eff (K:=fun v H'=>v=undef∧H'=.ex b (ptrQ c.P k (eput m kk p).length (mapD (eput m kk p)))::H) (fun w a hw ha=>by
  have hown:=ptrQ_iff.1 (hw.res _ (List.mem_cons_self ..))
  obtain ⟨w',hrun,hown',hg⟩:=hown.update (Maps.string_keyed HU.h) (HU.h (P:=c.P) (t:=t)) hn (Z63 (P:=c.P) (k:=k) HU.h hl) (ZcQ p)
  rw [Z8g] at hown'
  obtain ⟨o,ho,hq⟩:=ptrQ_iff.2 hown'
  refine ⟨undef,w',_,.inr ⟨?_,rfl⟩,St.turnMap hw hg ⟨o,ho,Z8R hq⟩,rfl,rfl⟩
  simp [execOp,ha.ev hx,ha.ev hy,ha.ev hu,hrun]) rfl rfl fun v H' ⟨hv,hH⟩=>by
  subst hv hH
  exact hk
theorem T.ptrRange {x:Operand} {d:Tmp} {b n:Nat} {m:Ents} {t k E:TypeId} [HU c.P t (.map k E)] [HU c.P k .string] (hx:ev e x=some (.map (some b))) (hlt:Nat.blt d c.fn.ntmps=true)
  (hk:∀ r,Sr (.eff dr) c ds (.ex2 b r (Z3a c.P k b n (mapD m) (Maps.has (mapD m)) m.length)::H) ops l κ ((d,.pointer (some ⟨r,0,none⟩))::e)):Sr (.eff dr) c ds (.ex b (ptrQ c.P k n (mapD m))::H) ops (⟨some d,.range t x,ty,pos,aft,none⟩::l) κ e :=
 Sr.eff (K:=fun v H'=>∃ r,v=.pointer (some ⟨r,0,none⟩)∧H'=.ex2 b r (Z3a c.P k b n (mapD m) (Maps.has (mapD m)) m.length)::H) (fun w a hw ha=>by
  have hown:=ptrQ_iff.1 (hw.res _ (List.mem_cons_self ..))
  obtain ⟨w',hrun,hr,hg,hsz⟩:=hown.range (Maps.string_keyed HU.h) (HU.h (P:=c.P) (t:=t))
  rw [Z3Q] at hr
  refine ⟨_,w',_,.inl ?_,?_,w.heap.size,rfl,rfl⟩
  ·simp [execOp,ha.ev hx,hrun]
  ·have hne:=hr.ne
   refine hw.turn hg.os hg.tape hg.output hg.size (fun j hj _=>hg.block j hj (by simp)) (ptrRQ_iff.2 hr) (fun q hq=>?_) ?_
   ·simp only [Res.foot,List.mem_cons,List.not_mem_nil,or_false] at hq
    rcases hq with rfl|rfl
    ·exact .inl (by simp [Res.foot])
    ·exact .inr (Nat.le_refl _)
   ·simp only [Res.foot,List.nodup_cons,List.mem_cons,List.not_mem_nil,or_false,not_false_eq_true,List.nodup_nil,and_true]
    exact fun h=>hne h.symm) hlt rfl fun v H' ⟨r,hv,hH⟩=>by
  subst hv hH
  exact hk r
def Z7d (P:Program) (k:TypeId) (b r n:Nat) (D:D0) (left:Lit→Bool) (cnt:Nat) (kk:List UInt8) (z:Int) (o o':Obj):Prop :=
 Z3a P k b n D left cnt o o'∧∀ w:World,w.heap[b]?=some o→w.heap[r]?=some o'→(Instr.entry (.pointer (some ⟨r,0,none⟩))).run P w=.ok (.tuple ⟨[sV kk,pV z]⟩) w
theorem T.ptrNext {x:Operand} {d:Tmp} {b r n:Nat} {m:Ents} {left:Lit→Bool} {cnt:Nat} {k:TypeId} [HU c.P k .string] (hx:ev e x=some (.pointer (some ⟨r,0,none⟩))) (hlt:Nat.blt d c.fn.ntmps=true)
  (h0:(∀ kl,left kl=false)→Sr (.eff dr) c ds (.ex2 b r (Z3a c.P k b n (mapD m) left cnt)::H) ops l κ ((d,.tuple #[.bool false])::e))
  (h1:∀ kk z cnt',left (.string kk)=true→eget m kk=some z→cnt' < cnt→Sr (.eff dr) c ds (.ex2 b r (Z7d c.P k b r n (mapD m) (fun l=>left l&&!l.sameKey (.string kk)) cnt' kk z)::H) ops l κ ((d,.tuple #[.bool true,sV kk,pV z])::e)) :
  Sr (.eff dr) c ds (.ex2 b r (Z3a c.P k b n (mapD m) left cnt)::H) ops (⟨some d,.next x false,ty,pos,aft,none⟩::l) κ e :=
 Sr.eff (K:=fun v H'=>(v=.tuple #[.bool false]∧(∀ kl,left kl=false)∧H'=.ex2 b r (Z3a c.P k b n (mapD m) left cnt)::H) ∨
   ∃ kk z cnt',v=.tuple #[.bool true,sV kk,pV z]∧left (.string kk)=true∧eget m kk=some z∧cnt' < cnt∧H'=.ex2 b r (Z7d c.P k b r n (mapD m) (fun l=>left l&&!l.sameKey (.string kk)) cnt' kk z)::H) (fun w a hw ha=>by
  have hrng:=ptrRQ_iff.1 (hw.res _ (List.mem_cons_self ..))
  rcases hrng.next (Maps.string_keyed HU.h) ty with ⟨_,hl,hrun⟩|⟨key,v,kl,y,w',cnt',hkey,hleft,hv,hat,hrun,hr',hc,hg,hsz,hent⟩
  ·exact ⟨_,w,_,.inl (by simp [execOp,ha.ev hx,hrun]),hw,.inl ⟨rfl,hl,rfl⟩⟩
  ·obtain ⟨s,rfl,rfl,hsl⟩:=WideMaps.string_of_keyOf (HU.h (P:=c.P) (t:=k)) hkey
   obtain ⟨z,rfl,rfl⟩:=Z8a hv
   have hget:eget m s.data.toList=some z:=by
    have h:=hat .nil
    rw [Z8i] at h
    cases hm:eget m s.data.toList with
    | none=>rw [hm] at h;cases h
    | some z'=>rw [hm] at h;simp only [DataW.lit.injEq,Lit.int.injEq,true_and] at h;rw [h]
   rw [Zds s] at hrun hent
   refine ⟨_,w',_,.inl (by simp [execOp,ha.ev hx,hrun]),?_,.inr ⟨s.data.toList,z,cnt',rfl,hleft,hget,hc,rfl⟩⟩
   have hcur:(Res.ex2 b r (Z7d c.P k b r n (mapD m) (fun l=>left l&&!l.sameKey (.string s.data.toList)) cnt' s.data.toList z)).holds w':=by
    obtain ⟨o,o',h1,h2,h3⟩:=ptrRQ_iff.2 hr'
    refine ⟨o,o',h1,h2,h3,fun u hu1 hu2=>?_⟩
    obtain ⟨es,clock,since,seen,c0,rfl,_,_,_,rfl,_⟩:=h3
    exact Z9f h1 h2 hu1 hu2 hent
   have hnd:=hw.nd
   refine hw.turn hg.os hg.tape hg.output hg.size (fun j hj hn=>hg.block j hj (fun h=>hn (by simp only [Option.some.injEq] at h;simp [Res.foot,h]))) hcur (fun q hq=>.inl (by simpa [Res.foot] using hq)) ?_
   simp only [feet,List.flatMap_cons,List.nodup_append] at hnd
   exact hnd.1) hlt rfl fun v H' hK=>by
  rcases hK with ⟨hv,hl,hH⟩|⟨kk,z,cnt',hv,a1,a2,a4,hH⟩
  ·subst hv hH
   exact h0 hl
  ·subst hv hH
   exact h1 kk z cnt' a1 a2 a4
theorem T.ptrEntry {x:Operand} {d:Tmp} {b r n:Nat} {D:D0} {left:Lit→Bool} {cnt:Nat} {kk:List UInt8} {z:Int} {k:TypeId} (hx:ev e x=some (.pointer (some ⟨r,0,none⟩))) (hlt:Nat.blt d c.fn.ntmps=true)
  (hk:Sr q c ds (.ex2 b r (Z7d c.P k b r n D left cnt kk z)::H) ops l κ ((d,.tuple ⟨[sV kk,pV z]⟩)::e)):Sr q c ds (.ex2 b r (Z7d c.P k b r n D left cnt kk z)::H) ops (⟨some d,.entry x,ty,pos,aft,none⟩::l) κ e:=Sr.p (fun w a hw ha=>by
 obtain ⟨o,o',h1,h2,_,h3⟩:=hw.res _ (List.mem_cons_self ..)
 have hrun:=h3 w h1 h2
 simp [execOp,ha.ev hx,hrun]) rfl hlt rfl hk
theorem St.ptrUncur {P:Program} {F:World} {M:List Nat} {w:World} {b r n:Nat} {D:D0} {left:Lit→Bool} {cnt:Nat} {kk:List UInt8} {z:Int} {k:TypeId} (h:St F M w (.ex2 b r (Z7d P k b r n D left cnt kk z)::H)):St F M w (.ex2 b r (Z3a P k b n D left cnt)::H) :=
 h.weakB (fun _ h=>h) h.nd fun q hq=>by
  rcases List.mem_cons.1 hq with rfl|hq
  ·obtain ⟨o,o',h1,h2,h3,_⟩:=h.res _ (List.mem_cons_self ..)
   exact ⟨o,o',h1,h2,h3⟩
  ·exact h.res q (List.mem_cons_of_mem _ hq)
theorem S.ptrUncur {k':List Item} {b r n:Nat} {D:D0} {left:Lit→Bool} {cnt:Nat} {kk:List UInt8} {z:Int} {k:TypeId} (h:S c ds (.ex2 b r (Z3a c.P k b n D left cnt)::H) k' e):S c ds (.ex2 b r (Z7d c.P k b r n D left cnt kk z)::H) k' e:=h.weaken fun _ hw=>hw.ptrUncur
theorem St.ptrUnrange {P:Program} {F:World} {M:List Nat} {w:World} {b r n:Nat} {D:D0} {left:Lit→Bool} {cnt:Nat} {k:TypeId} (h:St F M w (.ex2 b r (Z3a P k b n D left cnt)::H)):St F M w (.ex b (ptrQ P k n D)::H):=by
 have hnd:=h.nd
 simp only [feet,List.flatMap_cons] at hnd
 refine h.weakB (fun q hq=>?_) ?_ fun q hq=>?_
 ·simp only [feet,List.flatMap_cons,List.mem_append,Res.foot,List.mem_cons,List.not_mem_nil,or_false] at hq ⊢
  rcases hq with hq|hq
  ·exact .inl (.inl hq)
  ·exact .inr hq
 ·simp only [feet,List.flatMap_cons]
  refine hnd.sublist ?_
  exact List.Sublist.append_right (List.Sublist.cons_cons b (List.nil_sublist _)) _
 ·rcases List.mem_cons.1 hq with rfl|hq
  ·exact ptrQ_iff.2 (ptrRQ_iff.1 (h.res _ (List.mem_cons_self ..))).owns
  ·exact h.res q (List.mem_cons_of_mem _ hq)
theorem Sr.ptrUnrange {b r n:Nat} {D:D0} {left:Lit→Bool} {cnt:Nat} {k:TypeId} (h:Sr (.eff dr) c ds (.ex b (ptrQ c.P k n D)::H) ops l κ e):Sr (.eff dr) c ds (.ex2 b r (Z3a c.P k b n D left cnt)::H) ops l κ e:=h.weaken fun _ hw=>hw.ptrUnrange
class AtE (H:List Res) (b:Nat) (Q:outParam (Obj→Prop)) (f:outParam (Res→List Res)):Prop where
 h:∃ rest,H.Perm (.ex b Q::rest)∧∀ r,(r::rest).Perm (f r)
instance AtE.hd {H:List Res} {b:Nat} {Q:Obj→Prop}:AtE (.ex b Q::H) b Q (fun r=>r::H):=⟨H,.refl _,fun _=>.refl _⟩
instance AtE.tl {H:List Res} {b:Nat} {Q:Obj→Prop} {q:Res} {f:Res→List Res} [h:AtE H b Q f]:AtE (q::H) b Q (fun r=>q::f r):=by
 obtain ⟨rest,h1,h2⟩:=h.h
 exact ⟨q::rest,(h1.cons q).trans (.swap _ _ _),fun r=>(List.Perm.swap q r rest).trans ((h2 r).cons q)⟩
theorem T.mapPutA {x y u:Operand} {b n:Nat} {m:Ents} {kk:List UInt8} {z:Int} {t k E:TypeId} {f:Res→List Res} [HU c.P t (.map k E)] [HU c.P k .string] [HU c.P E (.int .i64)] (hx:ev e x=some (.map (some b))) (hy:ev e y=some (sV kk)) (hu:ev e u=some (.int .i64 z)) (hm:AtE H b (mapQ c.P k E n (mapD m)) f) (hl:kk.length≤maxLen) (hn:n < maxLen) (hz:(Lit.int .i64 z).wf=true)
  (hk:Sr (.eff dr) c ds (f (.ex b (mapQ c.P k E (eput m kk z).length (mapD (eput m kk z))))) ops l κ e):Sr (.eff dr) c ds H ops (⟨none,.mapUpdate t x y u,ty,pos,aft,none⟩::l) κ e:=by
 obtain ⟨rest,h1,h2⟩:=hm.h
 exact Sr.perm (T.mapPutT (k:=k) (E:=E) hx hy hu hl hn hz (Sr.perm hk (h2 _))) h1
theorem T.ptrPutA {x y u:Operand} {b n p:Nat} {m:Ents} {kk:List UInt8} {t k E:TypeId} {f:Res→List Res} [HU c.P t (.map k E)] [HU c.P k .string] (hx:ev e x=some (.map (some b))) (hy:ev e y=some (sV kk)) (hu:ev e u=some (.pointer (some ⟨p,0,none⟩))) (hm:AtE H b (ptrQ c.P k n (mapD m)) f) (hl:kk.length≤maxLen) (hn:n < maxLen)
  (hk:Sr (.eff dr) c ds (f (.ex b (ptrQ c.P k (eput m kk p).length (mapD (eput m kk p))))) ops l κ e):Sr (.eff dr) c ds H ops (⟨none,.mapUpdate t x y u,ty,pos,aft,none⟩::l) κ e:=by
 obtain ⟨rest,h1,h2⟩:=hm.h
 exact Sr.perm (T.ptrPut (k:=k) (E:=E) hx hy hu hl hn (Sr.perm hk (h2 _))) h1
end
end Sg
/- UTF-8, in plain Lean: what the library's decoder says of a sequence, and what the document's reading says. -/
namespace Sg
open Go.Lib
def Z4o (n b0 b1 b2:Nat):Bool:=decide (firstT b0 % 8≤n) || ((decide (1 < n)&&(decide (b1 < accLo (firstT b0 / 16)) || decide (accHi (firstT b0 / 16) < b1))) || (decide (2 < n)&&(decide (b2 < 128) || decide (191 < b2))))
theorem Z9S {b:Nat} (h:128≤b) (hs:seqB b=none):firstT b=241:=by
 unfold seqB at hs
 split at hs
 ·unfold firstT
  repeat' split
  all_goals omega
 ·repeat' split at hs
  all_goals cases hs
theorem Z9R {b k lo hi:Nat} (hs:seqB b=some (k,lo,hi)):firstT b < 240∧firstT b % 8=k+1∧accLo (firstT b / 16)=lo∧accHi (firstT b / 16)=hi∧1≤k∧k≤3∧lo≤hi:=by
 have key:∀ {f:Nat},firstT b=f→f < 240→f % 8=k+1→accLo (f / 16)=lo→accHi (f / 16)=hi→1≤k→k≤3→lo≤hi→firstT b < 240∧firstT b % 8=k+1∧accLo (firstT b / 16)=lo∧accHi (firstT b / 16)=hi∧1≤k∧k≤3∧lo≤hi:=by
  intro f h1 h2 h3 h4 h5 h6 h7 h8
  rw [h1]
  exact ⟨h2,h3,h4,h5,h6,h7,h8⟩
 unfold seqB at hs
 repeat' split at hs
 all_goals first|cases hs|(simp only [Option.some.injEq,Prod.mk.injEq] at hs;obtain ⟨rfl,rfl,rfl⟩:=hs)
 ·exact key (firstT_C2 (by omega)) (by decide) rfl rfl rfl (by decide) (by decide) (by decide)
 ·exact key (firstT_E0 (by omega)) (by decide) rfl rfl rfl (by decide) (by decide) (by decide)
 ·exact key (firstT_ED (by omega)) (by decide) rfl rfl rfl (by decide) (by decide) (by decide)
 ·exact key (firstT_E1 (by omega)) (by decide) rfl rfl rfl (by decide) (by decide) (by decide)
 ·exact key (firstT_F0 (by omega)) (by decide) rfl rfl rfl (by decide) (by decide) (by decide)
 ·exact key (firstT_F4 (by omega)) (by decide) rfl rfl rfl (by decide) (by decide) (by decide)
 ·exact key (firstT_F1 (by omega)) (by decide) rfl rfl rfl (by decide) (by decide) (by decide)
def bAt (t:List UInt8) (j:Nat):Nat:=(t.getD j 0).toNat
theorem Z2k (t:List UInt8) (j:Nat):bAt t j < 256:=(t.getD j 0).toNat_lt
theorem Z3p {t:List UInt8} {j:Nat} {c:UInt8} (h:t[j]?=some c):bAt t j=c.toNat∧j < t.length:=⟨by simp [bAt,List.getD,h],(List.getElem?_eq_some_iff.1 h).1⟩
def Z30 (t:List UInt8) (p:Nat) (n b0 b1 b2 b3:Nat):Gt Unit→Prop
 | .ok a _=>(decodeN n b0 b1 b2 b3).2=a - p∧p+2≤a∧a≤t.length
 | .bad e q=>decodeN n b0 b1 b2 b3=(65533,1)∧(e=31∧q=t.length∧Z4o n b0 b1 b2=false∨e=32∧q=p∧Z4o n b0 b1 b2=true)
theorem Z5o {t:List UInt8} {p:Nat} {c:UInt8} (hc:t[p]?=some c) (h:128≤c.toNat):Z30 t p (t.length - p) c.toNat (bAt t (p+1)) (bAt t (p+2)) (bAt t (p+3)) (Z0G t p c):=by
 have hp:=(List.getElem?_eq_some_iff.1 hc).1
 have l1:=Z2k t (p+1)
 have l2:=Z2k t (p+2)
 have l3:=Z2k t (p+3)
 unfold Z0G
 cases hs:seqB c.toNat with
 | none =>
  have h1:=Z9S h hs
  refine ⟨bad_eq _ _ _ _ _ c.toNat_lt h1,.inr ⟨rfl,rfl,?_⟩⟩
  unfold Z4o
  rw [h1,decide_eq_true (show 241 % 8≤t.length - p by omega),Bool.true_or]
 | some v =>
  obtain ⟨k,lo,hi⟩:=v
  obtain ⟨h1,h2,h3,h4,h5,h6,h7⟩:=Z9R hs
  have hd:=slow_eq (t.length - p) c.toNat _ _ _ (by omega) l1 l2 l3 h1
  rw [h2,h3,h4] at hd
  have hf:Z4o (t.length - p) c.toNat (bAt t (p+1)) (bAt t (p+2))=(decide (k+1≤t.length - p) || ((decide (1 < t.length - p)&&(decide (bAt t (p+1) < lo) || decide (hi < bAt t (p+1)))) || (decide (2 < t.length - p)&&(decide (bAt t (p+2) < 128) || decide (191 < bAt t (p+2)))))):=by
   unfold Z4o
   rw [h2,h3,h4]
  show Z30 _ _ _ _ _ _ _ (seqX t p k (p+1) lo hi)
  have stop31:∀ q,q=t.length→t.length - p≤k→((1 < t.length - p→¬(bAt t (p+1) < lo∨hi < bAt t (p+1)))∧(2 < t.length - p→¬(bAt t (p+2) < 128∨191 < bAt t (p+2))))→Z30 t p (t.length - p) c.toNat (bAt t (p+1)) (bAt t (p+2)) (bAt t (p+3)) (.bad 31 q):=by
   intro q hq hn hb
   refine ⟨?_,.inl ⟨rfl,hq,?_⟩⟩
   ·rw [←hd]
    unfold slowN
    rw [if_pos (by omega)]
   ·rw [hf,decide_eq_false (by omega),Bool.false_or,Bool.or_eq_false_iff]
    refine ⟨?_,?_⟩
    ·by_cases h1n:1 < t.length - p
     ·have:=hb.1 h1n
      rw [decide_eq_false (show ¬bAt t (p+1) < lo by omega),decide_eq_false (show ¬hi < bAt t (p+1) by omega)]
      simp
     ·rw [decide_eq_false h1n,Bool.false_and]
    ·by_cases h1n:2 < t.length - p
     ·have:=hb.2 h1n
      rw [decide_eq_false (show ¬bAt t (p+2) < 128 by omega),decide_eq_false (show ¬191 < bAt t (p+2) by omega)]
      simp
     ·rw [decide_eq_false h1n,Bool.false_and]
  have stop32:(1 < t.length - p∧(bAt t (p+1) < lo∨hi < bAt t (p+1))∨2 < t.length - p∧2≤k∧(bAt t (p+2) < 128∨191 < bAt t (p+2))∨3 < t.length - p∧3≤k∧(bAt t (p+3) < 128∨191 < bAt t (p+3)))→Z30 t p (t.length - p) c.toNat (bAt t (p+1)) (bAt t (p+2)) (bAt t (p+3)) (.bad 32 p):=by
   intro hb
   refine ⟨?_,.inr ⟨rfl,rfl,?_⟩⟩
   ·rw [←hd]
    unfold slowN
    repeat' split
    all_goals first|rfl|omega
   ·rw [hf]
    simp only [Bool.or_eq_true,Bool.and_eq_true,decide_eq_true_eq]
    omega
  have good:∀ a,a=p+k+1→k < t.length - p→(lo≤bAt t (p+1)∧bAt t (p+1)≤hi)→(2≤k→128≤bAt t (p+2)∧bAt t (p+2)≤191)→(3≤k→128≤bAt t (p+3)∧bAt t (p+3)≤191)→Z30 t p (t.length - p) c.toNat (bAt t (p+1)) (bAt t (p+2)) (bAt t (p+3)) (.ok a ()):=by
   intro a ha hn b1 b2 b3
   refine ⟨?_,by omega,by omega⟩
   rw [←hd]
   unfold slowN
   repeat' split
   all_goals first|(exfalso;omega)|(simp only;omega)
  obtain ⟨k,rfl⟩:∃ m,k=m+1:=⟨k - 1,by omega⟩
  unfold seqX
  cases h8:t[p+1]? with
  | none =>
   have:=List.getElem?_eq_none_iff.1 h8
   exact stop31 _ (by omega) (by omega) ⟨by omega,by omega⟩
  | some c1 =>
   obtain ⟨e1,q1⟩:=Z3p h8
   simp only
   split
   ·exact stop32 (by omega)
   ·rename_i hb1
    cases k with
    | zero =>
     unfold seqX
     exact good _ (by omega) (by omega) (by omega) (by omega) (by omega)
    | succ k =>
     unfold seqX
     cases h9:t[p+1+1]? with
     | none =>
      have:=List.getElem?_eq_none_iff.1 h9
      exact stop31 _ (by omega) (by omega) ⟨by omega,by omega⟩
     | some c2 =>
      obtain ⟨e2,q2⟩:=Z3p h9
      rw [show p+1+1=p+2 from rfl] at e2
      simp only
      split
      ·exact stop32 (by omega)
      ·rename_i hb2
       cases k with
       | zero =>
        unfold seqX
        exact good _ (by omega) (by omega) (by omega) (by omega) (by omega)
       | succ k =>
        have hk0:k=0:=by omega
        subst hk0
        unfold seqX
        cases h10:t[p+1+1+1]? with
        | none =>
         have:=List.getElem?_eq_none_iff.1 h10
         exact stop31 _ (by omega) (by omega) ⟨by omega,by omega⟩
        | some c3 =>
         obtain ⟨e3,q3⟩:=Z3p h10
         rw [show p+1+1+1=p+3 from rfl] at e3
         simp only
         split
         ·exact stop32 (by omega)
         ·unfold seqX
          exact good _ (by omega) (by omega) (by omega) (by omega) (by omega)
end Sg
/- JSON's plain words, step by step. -/
namespace Sg
theorem Zc4 {f:UInt8→Bool} {t:List UInt8} {p:Nat} {c:UInt8} (hc:t[p]?=some c) (h:f c=true):p+((t.drop p).takeWhile f).length=p+1+((t.drop (p+1)).takeWhile f).length:=by
 obtain ⟨hp,rfl⟩:=List.getElem?_eq_some_iff.1 hc
 rw [List.drop_eq_getElem_cons hp,List.takeWhile_cons_of_pos h,List.length_cons]
 omega
theorem Zdk {f:UInt8→Bool} {t:List UInt8} {p:Nat} (h:∀ c,t[p]?=some c→f c=false):p+((t.drop p).takeWhile f).length=p:=by
 rcases Nat.lt_or_ge p t.length with hp|hp
 ·have:=h _ (List.getElem?_eq_getElem hp)
  rw [List.drop_eq_getElem_cons hp,List.takeWhile_cons_of_neg (by rw [this];simp)]
  rfl
 ·rw [List.drop_eq_nil_of_le hp]
  rfl
theorem Z2j {t:List UInt8} {p:Nat} {c:UInt8} (hc:t[p]?=some c):bAt t p=c.toNat:=(Z3p hc).1
theorem Zd {t:List UInt8} {p:Nat} (h:bAt t p≠0):p < t.length:=by
 rcases Nat.lt_or_ge p t.length with hp|hp
 ·exact hp
 ·exact absurd (by simp [bAt,List.getD,List.getElem?_eq_none hp]) h
theorem Z4c {t:List UInt8} {p:Nat} (h:p < t.length):∃ c,t[p]?=some c∧c.toNat=bAt t p:=⟨t[p],List.getElem?_eq_getElem h,(Z2j (List.getElem?_eq_getElem h)).symm⟩
theorem Z14 {t:List UInt8} {p:Nat} (h:t.length≤p):bAt t p=0:=by simp [bAt,List.getD,List.getElem?_eq_none h]
theorem ZO {t:List UInt8} {p:Nat} {c:UInt8} (h:c≠0):atB t p c=decide (bAt t p=c.toNat):=by
 have hc:c.toNat≠0:=fun e=>h (UInt8.toNat_inj.1 e)
 rcases Nat.lt_or_ge p t.length with hp|hp
 ·obtain ⟨d,h1,h2⟩:=Z4c hp
  unfold atB
  rw [h1,←h2]
  by_cases e:d=c
  ·subst e;simp
  ·have:d.toNat≠c.toNat:=fun e'=>e (UInt8.toNat_inj.1 e')
   simp [e,this]
 ·rw [Z14 hp,decide_eq_false (fun e=>hc e.symm)]
  unfold atB
  rw [List.getElem?_eq_none hp]
  rfl
theorem digitB_iff {c:UInt8}:ZQ c=true↔48≤c.toNat∧c.toNat≤57:=by
 unfold ZQ
 rw [Bool.and_eq_true,decide_eq_true_eq,decide_eq_true_eq,UInt8.le_iff_toNat_le,UInt8.le_iff_toNat_le]
 exact Iff.rfl
theorem Z1N {t:List UInt8} {p:Nat} (h:48≤bAt t p∧bAt t p≤57):Zt t p=Zt t (p+1):=by
 obtain ⟨c,h1,h2⟩:=Z4c (Zd (t:=t) (p:=p) (by omega))
 exact Zc4 h1 (digitB_iff.2 (by omega))
theorem Z28 {t:List UInt8} {p:Nat} (h:¬(48≤bAt t p∧bAt t p≤57)):Zt t p=p:=Zdk fun c hc=>by
 rw [←Bool.not_eq_true,digitB_iff,←Z2j hc]
 exact h
theorem blankB_iff {c:UInt8}:Z6S c=true↔c.toNat=32∨c.toNat=9∨c.toNat=10∨c.toNat=13:=by
 unfold Z6S
 simp only [Bool.or_eq_true,beq_iff_eq,←UInt8.toNat_inj]
 have e1:(32:UInt8).toNat=32:=rfl
 have e2:(9:UInt8).toNat=9:=rfl
 have e3:(10:UInt8).toNat=10:=rfl
 have e4:(13:UInt8).toNat=13:=rfl
 rw [e1,e2,e3,e4]
 omega
theorem Z7U {t:List UInt8} {p:Nat} (h:bAt t p=32∨bAt t p=9∨bAt t p=10∨bAt t p=13):Z3 t p=Z3 t (p+1):=by
 obtain ⟨c,h1,h2⟩:=Z4c (Zd (t:=t) (p:=p) (by omega))
 exact Zc4 h1 (blankB_iff.2 (by omega))
theorem Z5l {t:List UInt8} {p:Nat} (h:¬(bAt t p=32∨bAt t p=9∨bAt t p=10∨bAt t p=13)):Z3 t p=p:=Zdk fun c hc=>by
 rw [←Bool.not_eq_true,blankB_iff,←Z2j hc]
 exact h
theorem ZbR {t:List UInt8} {p:Nat} (h:48≤bAt t p∧bAt t p≤57):Z07 t p=.ok (Zt t p) ():=by
 unfold Z07
 rw [if_neg]
 have:=Z5M t (p+1)
 rw [Z1N h]
 omega
theorem ZaO {t:List UInt8} {p:Nat} (h:¬(48≤bAt t p∧bAt t p≤57)):Z07 t p=.bad 31 p:=by
 unfold Z07
 rw [if_pos (Z28 h)]
end Sg
/- The walks of the program's reader of JSON: bytes, blanks, digits, faults. -/
namespace Go.Proofs.YtjajcmedipjfhaaGreatDoor
open Sg Go.IntWalk
set_option maxRecDepth 100000
set_option maxHeartbeats 1000000
abbrev jrV (t:List UInt8) (o n m:Value) (a s:Nat) (k:List UInt8) (c b:Int):List Value:=[sV t,.int .i64 a,.int .i64 s,o,n,m,sV k,.int .i64 c,.int .i64 b]
section
variable {F:World} {M:List Nat} {H:List Res} {p:Nat} {t:List UInt8} {o n m:Value} {a s:Nat} {k:List UInt8} {c b:Int}
structure _root_.Sg.Kp (R:Prop):Prop where
h:R
theorem _root_.Sg.Y1 {P R:Prop} (k:R) (h:Sg.Kp R→P:=by intro k;(first|((with_reducible apply T.mulNK 6);apply rfl;apply rfl;omega;apply rfl)|(apply T.orU64;apply rfl;apply rfl;omega;omega;apply rfl)|((with_reducible apply T.mulNK 3);apply rfl;apply rfl;omega;apply rfl)|((with_reducible apply T.addKN 2);apply rfl;apply rfl;omega;apply rfl)|((with_reducible apply T.mulNK 4);apply rfl;apply rfl;omega;apply rfl)|(apply T.sadd;apply rfl;apply rfl;omega;apply rfl)|(apply T.sslice;(iterate 3 apply rfl);omega;apply rfl)|(apply T.mapLook;apply rfl;apply rfl;infer_instance;(first|assumption|(simp only [maxLen];omega)|omega);apply rfl)|(apply T.slen;apply rfl;apply rfl)|(apply T.sidx;apply rfl;apply rfl;omega;apply rfl)|(apply T.convS;apply rfl;infer_instance;(first|rfl|assumption|exact beN_len _ _|(simp;done)|(simp;omega));apply rfl)|(apply T.eqlP;apply rfl;apply rfl)|(apply T.eqlP0;apply rfl;apply rfl)|(apply T.neqP0;apply rfl;apply rfl)|(apply T.ptrLook;apply rfl;apply rfl;infer_instance;(first|assumption|(simp only [maxLen];omega)|omega);apply rfl)|(apply T.mv;apply rfl;apply rfl)|(apply T.asn;apply rfl;apply rfl)|(apply T.len;apply rfl;apply rfl)|(apply T.nilCheck;apply rfl;apply rfl)|(apply T.fieldAddrZ;apply rfl;apply rfl)|(apply T.load;apply rfl;apply rfl;infer_instance;apply rfl;apply rfl)|(apply T.lss;(iterate 3 apply rfl))|(apply T.gtr;(iterate 3 apply rfl))|(apply T.geq;(iterate 3 apply rfl))|(apply T.eql;(iterate 3 apply rfl))|(apply T.neq;(iterate 3 apply rfl))|(apply T.addI;apply rfl;apply rfl;omega;apply rfl)|(apply T.subI;apply rfl;apply rfl;omega;apply rfl)|(apply T.mulI;apply rfl;apply rfl;omega;apply rfl)|(apply T.extract;(iterate 3 apply rfl))|(apply T.ixC;apply rfl;infer_instance;omega;(first|omega|(simp only [List.length_map];omega)|(simp;omega));apply rfl)|(apply T.ixN;apply rfl;apply rfl;infer_instance;omega;(first|omega|(simp only [List.length_map];omega)|(simp;omega));apply rfl)|(apply T.ixF;apply rfl;apply rfl;infer_instance;exact (fun _=>rfl);apply rfl;omega;omega;apply rfl)|(apply T.fieldAddrF;apply rfl;infer_instance;exact (fun _=>rfl);apply rfl;omega;apply rfl)|(apply T.loadF;apply rfl;apply rfl;infer_instance;exact (fun _=>rfl);apply rfl;exact Zb (by omega);apply rfl;apply rfl)|(apply T.loadFN;apply rfl;apply rfl;infer_instance;exact (fun _=>rfl);apply rfl;exact Zb (by omega);apply rfl)|(apply T.loadB;apply rfl;infer_instance;omega;apply rfl)|(apply T.loadNat;apply rfl;infer_instance;(first|omega|(simp only [List.length_map];omega)|(simp;omega));apply rfl)|(apply T.not;apply rfl;apply rfl)|(apply T.notB;apply rfl;apply rfl)|(apply T.pickT;(iterate 3 apply rfl))|(apply T.pickF;(iterate 3 apply rfl))|(apply T.convI64;apply rfl;omega;apply rfl)|(apply T.buildL;(iterate 3 apply rfl))|(apply T.loadW;apply rfl;apply rfl;infer_instance;(first|rfl|(simp only [List.length_append,List.length_map,List.length_set,List.length_replicate,List.length_cons,List.length_nil];first|done|omega));apply rfl)|(apply T.sliceHK;apply rfl;apply rfl;omega;apply rfl)|(apply T.assert;(iterate 4 apply rfl))|(apply T.neqIf;apply rfl;apply rfl)|(apply T.neqNil;apply rfl;apply rfl)|(apply T.storeW;apply rfl;apply rfl;infer_instance;(first|rfl|(simp only [List.length_append,List.length_map,List.length_set,List.length_replicate,List.length_cons,List.length_nil];first|done|omega));(first|rfl|(simp only [List.length_append,List.length_map,List.length_set,List.length_replicate,List.length_cons,List.length_nil];first|done|omega));(first|rfl|(repeat' first|apply all_nV|apply Z0s|apply all_iV|rfl|apply all_app)))|(apply T.store;apply rfl;apply rfl;infer_instance;(first|decide|(simp;omega)|simp);apply rfl)|(apply T.makeI;(iterate 3 apply rfl))|(with_reducible refine Sr.nil ?_)|(with_reducible refine S.seq ?_)|(with_reducible refine S.block ?_)|(with_reducible refine S.reg ?_)|(with_reducible refine S.skip ?_)|(with_reducible refine S.inBlock ?_)|(apply S.exit;apply rfl)|(apply S.quiet;apply rfl;kernel_rfl)|(apply T.ungV;apply rfl;(first|with_reducible rfl|decide))|(apply T.skip;apply rfl;(first|with_reducible rfl|decide);apply rfl)|(apply T.skipU;apply rfl;apply rfl)|(apply S.condTV;apply rfl;(first|with_reducible rfl|decide))|(apply S.condFV;apply rfl;(first|with_reducible rfl|decide))|(apply T.retW;apply rfl)|(apply T.doneW;apply rfl)|(with_reducible apply T.ofRet)|(apply T.retC;apply rfl;((repeat' first|apply RV.nil|(apply RV.tmp;apply rfl)|(apply RV.cellW;apply rfl;apply rfl;infer_instance;(first|rfl|(simp only [List.length_append,List.length_map,List.length_set,List.length_replicate,List.length_cons,List.length_nil];first|done|omega)))|(apply RV.cellP;apply rfl;apply rfl;infer_instance;apply rfl)));apply rfl)|(apply SA.en;apply rfl;apply rfl;kernel_rfl)|(apply T.ung;apply rfl)|fail);exact k.h):P:=h ⟨k⟩
theorem ZX {c' b':Int}:Meets Tryz.prog 110 [.pointer (some ⟨p,0,none⟩),.int .i64 c',.int .i64 b'] F M (.blk p (jrV t o n m a s k c b) 98::H) (fun e H'=>e=.returned (.bool false)∧H'=.blk p (jrV t o n m a s k c' b') 98::H):=by
 refine Meets.enter Tryz.func110 rfl rfl ?_
 repeat' (first|refine Sg.Y1 ?_|fail)
 exact ⟨_,PSub.refl _,rfl,rfl⟩
theorem _root_.Sg.Y2 {P R:Prop} (k:R) (h:Sg.Kp R→P:=by intro k;(first|(apply T.convBU64;apply rfl;apply rfl)|(apply T.addNN;apply rfl;apply rfl;omega;apply rfl)|(apply T.sslice;(iterate 3 apply rfl);omega;apply rfl)|(apply T.mapLook;apply rfl;apply rfl;infer_instance;(first|assumption|(simp only [maxLen];omega)|omega);apply rfl)|(apply T.sidx;apply rfl;apply rfl;omega;apply rfl)|(apply T.convS;apply rfl;infer_instance;(first|rfl|assumption|exact beN_len _ _|(simp;done)|(simp;omega));apply rfl)|(apply T.neqP;apply rfl;apply rfl)|(apply T.neqP0;apply rfl;apply rfl)|(apply T.mv;apply rfl;apply rfl)|(apply T.asn;apply rfl;apply rfl)|(apply T.len;apply rfl;apply rfl)|(apply T.nilCheck;apply rfl;apply rfl)|(apply T.fieldAddrZ;apply rfl;apply rfl)|(apply T.load;apply rfl;apply rfl;infer_instance;apply rfl;apply rfl)|(apply T.lss;(iterate 3 apply rfl))|(apply T.eql;(iterate 3 apply rfl))|(apply T.addI;apply rfl;apply rfl;omega;apply rfl)|(apply T.subI;apply rfl;apply rfl;omega;apply rfl)|(apply T.extract;(iterate 3 apply rfl))|(apply T.ixF;apply rfl;apply rfl;infer_instance;exact (fun _=>rfl);apply rfl;omega;omega;apply rfl)|(apply T.fieldAddrF;apply rfl;infer_instance;exact (fun _=>rfl);apply rfl;omega;apply rfl)|(apply T.loadF;apply rfl;apply rfl;infer_instance;exact (fun _=>rfl);apply rfl;exact Zb (by omega);apply rfl;apply rfl)|(apply T.notB;apply rfl;apply rfl)|(apply T.pickT;(iterate 3 apply rfl))|(apply T.pickF;(iterate 3 apply rfl))|(apply T.convI64;apply rfl;omega;apply rfl)|(apply T.buildL;(iterate 3 apply rfl))|(apply T.loadW;apply rfl;apply rfl;infer_instance;(first|rfl|(simp only [List.length_append,List.length_map,List.length_set,List.length_replicate,List.length_cons,List.length_nil];first|done|omega));apply rfl)|(apply T.sliceLC;apply rfl;omega;apply rfl)|(apply T.storeW;apply rfl;apply rfl;infer_instance;(first|rfl|(simp only [List.length_append,List.length_map,List.length_set,List.length_replicate,List.length_cons,List.length_nil];first|done|omega));(first|rfl|(simp only [List.length_append,List.length_map,List.length_set,List.length_replicate,List.length_cons,List.length_nil];first|done|omega));(first|rfl|(repeat' first|apply all_nV|apply Z0s|apply all_iV|rfl|apply all_app)))|(apply T.store;apply rfl;apply rfl;infer_instance;(first|decide|(simp;omega)|simp);apply rfl)|(with_reducible refine Sr.nil ?_)|(with_reducible refine S.reg ?_)|(with_reducible refine S.skip ?_)|(with_reducible refine S.inBlock ?_)|(apply S.exit;apply rfl)|(apply T.ungV;apply rfl;(first|with_reducible rfl|decide))|(apply T.skip;apply rfl;(first|with_reducible rfl|decide);apply rfl)|(apply S.condTV;apply rfl;(first|with_reducible rfl|decide))|(apply S.condFV;apply rfl;(first|with_reducible rfl|decide))|(apply T.retW;apply rfl)|(apply T.doneW;apply rfl)|(with_reducible apply T.diesW)|(with_reducible apply T.ofRet)|(with_reducible apply T.ofPan)|(apply T.retC;apply rfl;((repeat' first|apply RV.nil|(apply RV.tmp;apply rfl)|(apply RV.cellW;apply rfl;apply rfl;infer_instance;(first|rfl|(simp only [List.length_append,List.length_map,List.length_set,List.length_replicate,List.length_cons,List.length_nil];first|done|omega)))|(apply RV.cellP;apply rfl;apply rfl;infer_instance;apply rfl)));apply rfl)|(apply SA.en;apply rfl;apply rfl;kernel_rfl)|fail);exact k.h):P:=h ⟨k⟩
theorem ZG:Meets Tryz.prog 77 [.pointer (some ⟨p,0,none⟩)] F M (.blk p (jrV t o n m a s k c b) 98::H) (fun e H'=>e=.returned (.bool false)∧H'=.blk p (jrV t o n m a s k 31 a) 98::H):=by
 refine Meets.enter Tryz.func77 rfl rfl ?_
 repeat' (first|refine Sg.Y1 ?_|fail)
 refine T.call rfl rfl ZX ?_
 rintro _ _ ⟨rfl,rfl⟩
 repeat' (first|refine Sg.Y2 ?_|fail)
 exact ⟨_,PSub.refl _,rfl,rfl⟩
theorem _root_.Sg.Y3 {P R:Prop} (k:R) (h:Sg.Kp R→P:=by intro k;(first|(apply T.shrI64;apply rfl;apply rfl;omega;apply rfl)|((with_reducible apply T.mulKN 6);apply rfl;apply rfl;omega;apply rfl)|(apply T.convBU64;apply rfl;apply rfl)|((with_reducible apply T.mulKN 2);apply rfl;apply rfl;omega;apply rfl)|(apply T.addNN;apply rfl;apply rfl;omega;apply rfl)|((with_reducible apply T.mulKN 8);apply rfl;apply rfl;omega;apply rfl)|(apply T.shrGU8;apply rfl;apply rfl;omega;apply rfl)|(apply T.sadd;apply rfl;apply rfl;omega;apply rfl)|(apply T.sslice;(iterate 3 apply rfl);omega;apply rfl)|(apply T.loadE;apply rfl;apply rfl;infer_instance;apply rfl;apply rfl)|(apply T.convM;apply rfl;apply rfl)|(apply T.convI32;apply rfl;omega;apply rfl)|(apply T.mapLook;apply rfl;apply rfl;infer_instance;(first|assumption|(simp only [maxLen];omega)|omega);apply rfl)|(apply T.seql;(iterate 3 apply rfl))|(apply T.sneq;(iterate 3 apply rfl))|(apply T.slen;apply rfl;apply rfl)|(apply T.sidx;apply rfl;apply rfl;omega;apply rfl)|(apply T.loadS;apply rfl;infer_instance;(first|omega|(simp only [List.length_map];omega));apply rfl)|(apply T.convS;apply rfl;infer_instance;(first|rfl|assumption|exact beN_len _ _|(simp;done)|(simp;omega));apply rfl)|(apply T.mv;apply rfl;apply rfl)|(apply T.asn;apply rfl;apply rfl)|(apply T.len;apply rfl;apply rfl)|(apply T.nilCheck;apply rfl;apply rfl)|(apply T.fieldAddrZ;apply rfl;apply rfl)|(apply T.load;apply rfl;apply rfl;infer_instance;apply rfl;apply rfl)|(apply T.lss;(iterate 3 apply rfl))|(apply T.leq;(iterate 3 apply rfl))|(apply T.gtr;(iterate 3 apply rfl))|(apply T.geq;(iterate 3 apply rfl))|(apply T.eql;(iterate 3 apply rfl))|(apply T.neq;(iterate 3 apply rfl))|(apply T.addI;apply rfl;apply rfl;omega;apply rfl)|(apply T.subI;apply rfl;apply rfl;omega;apply rfl)|(apply T.mulI;apply rfl;apply rfl;omega;apply rfl)|(apply T.extract;(iterate 3 apply rfl))|(apply T.ixC;apply rfl;infer_instance;omega;(first|omega|(simp only [List.length_map];omega)|(simp;omega));apply rfl)|(apply T.ixN;apply rfl;apply rfl;infer_instance;omega;(first|omega|(simp only [List.length_map];omega)|(simp;omega));apply rfl)|(apply T.ixK;apply rfl;apply rfl;infer_instance;decide;decide;apply rfl)|(apply T.ixF;apply rfl;apply rfl;infer_instance;exact (fun _=>rfl);apply rfl;omega;omega;apply rfl)|(apply T.fieldAddrF;apply rfl;infer_instance;exact (fun _=>rfl);apply rfl;omega;apply rfl)|(apply T.ixAZ;apply rfl;apply rfl;omega;apply rfl)|(apply T.ixA;apply rfl;apply rfl;omega;apply rfl)|(apply T.loadF;apply rfl;apply rfl;infer_instance;exact (fun _=>rfl);apply rfl;exact Zb (by omega);apply rfl;apply rfl)|(apply T.loadFN;apply rfl;apply rfl;infer_instance;exact (fun _=>rfl);apply rfl;exact Zb (by omega);apply rfl)|(apply T.loadB;apply rfl;infer_instance;omega;apply rfl)|(apply T.loadNat;apply rfl;infer_instance;(first|omega|(simp only [List.length_map];omega)|(simp;omega));apply rfl)|(apply T.notB;apply rfl;apply rfl)|(apply T.pickT;(iterate 3 apply rfl))|(apply T.pickF;(iterate 3 apply rfl))|(apply T.convI64;apply rfl;omega;apply rfl)|(apply T.convU32;apply rfl;omega;apply rfl)|(apply T.convU64;apply rfl;(constructor<;>omega);apply rfl)|(apply T.convU64;apply rfl;omega;apply rfl)|(apply T.buildL;(iterate 3 apply rfl))|(apply T.buildAL;(iterate 3 apply rfl))|(apply T.loadW;apply rfl;apply rfl;infer_instance;(first|rfl|(simp only [List.length_append,List.length_map,List.length_set,List.length_replicate,List.length_cons,List.length_nil];first|done|omega));apply rfl)|(apply T.sliceLK;apply rfl;apply rfl;omega;apply rfl)|(apply T.sliceHK;apply rfl;apply rfl;omega;apply rfl)|(apply T.sliceLHK;(iterate 3 apply rfl);omega;apply rfl)|(apply T.storeW;apply rfl;apply rfl;infer_instance;(first|rfl|(simp only [List.length_append,List.length_map,List.length_set,List.length_replicate,List.length_cons,List.length_nil];first|done|omega));(first|rfl|(simp only [List.length_append,List.length_map,List.length_set,List.length_replicate,List.length_cons,List.length_nil];first|done|omega));(first|rfl|(repeat' first|apply all_nV|apply Z0s|apply all_iV|rfl|apply all_app)))|(apply T.store;apply rfl;apply rfl;infer_instance;(first|decide|(simp;omega)|simp);apply rfl)|(apply S.deferM;apply rfl;apply rfl)|(with_reducible refine Sr.nil ?_)|(with_reducible refine S.seq ?_)|(with_reducible refine S.block ?_)|(with_reducible refine S.reg ?_)|(with_reducible refine S.skip ?_)|(with_reducible refine S.inBlock ?_)|(apply S.exit;apply rfl)|(apply S.quiet;apply rfl;kernel_rfl)|(apply T.ungV;apply rfl;(first|with_reducible rfl|decide))|(apply T.skip;apply rfl;(first|with_reducible rfl|decide);apply rfl)|(apply T.skipU;apply rfl;apply rfl)|(apply S.condTV;apply rfl;(first|with_reducible rfl|decide))|(apply S.condFV;apply rfl;(first|with_reducible rfl|decide))|(apply T.retW;apply rfl)|(apply T.doneW;apply rfl)|(with_reducible apply T.ofRet)|(apply T.retC;apply rfl;((repeat' first|apply RV.nil|(apply RV.tmp;apply rfl)|(apply RV.cellW;apply rfl;apply rfl;infer_instance;(first|rfl|(simp only [List.length_append,List.length_map,List.length_set,List.length_replicate,List.length_cons,List.length_nil];first|done|omega)))|(apply RV.cellP;apply rfl;apply rfl;infer_instance;apply rfl)));apply rfl)|(apply SA.en;apply rfl;apply rfl;kernel_rfl)|(apply S.condQ;apply rfl;intro _;rotate_left;intro _;exfalso;(first|omega|with_reducible contradiction))|(apply S.condQ;apply rfl;intro _;exfalso;(first|omega|with_reducible contradiction);intro _)|(apply T.gcase;apply rfl;apply rfl;intro _;rotate_left;intro _;exfalso;(first|omega|with_reducible contradiction))|(apply T.gcase;apply rfl;apply rfl;intro _;exfalso;(first|omega|with_reducible contradiction);intro _)|fail);exact k.h):P:=h ⟨k⟩
theorem ZV:Meets Tryz.prog 74 [.pointer (some ⟨p,0,none⟩)] F M (.blk p (jrV t o n m a s k c b) 98::H) (fun e H'=>e=.returned (.int .u8 (bAt t a:Nat))∧H'=.blk p (jrV t o n m a s k c b) 98::H):=by
 refine Meets.enter Tryz.func74 rfl rfl ?_
 by_cases h:a < t.length
 ·repeat' (first|refine Sg.Y3 ?_|(apply S.condQ;apply rfl;all_goals intro _)|fail)
  exact ⟨_,PSub.refl _,rfl,rfl⟩
 ·repeat' (first|refine Sg.Y3 ?_|(apply S.condQ;apply rfl;all_goals intro _)|fail)
  rw [Z14 (by omega)]
  exact ⟨_,PSub.refl _,rfl,rfl⟩
theorem Z4b (ha:a≤t.length) (hl:t.length≤1000000000):Meets Tryz.prog 43 [.pointer (some ⟨p,0,none⟩)] F M (.blk p (jrV t o n m a s k c b) 98::H) (fun e H'=>e=.returned (.tuple ⟨[]⟩)∧H'=.blk p (jrV t o n m (Z3 t a) s k c b) 98::H):=by
 refine Meets.enter Tryz.func43 rfl rfl ?_
 repeat' (first|with_reducible refine S.block ?_|fail)
 refine S.loopE 1 [0] (fun R b' μ H' e=>∃ q:Nat,H'=.blk p (jrV t o n m q s k c b) 98::R∧e=b'∧(q≤t.length∧Z3 t a=Z3 t q)∧μ=t.length - q) rfl rfl ?_ _ _ ⟨a,rfl,rfl,⟨ha,rfl⟩,rfl⟩ (by repeat' first|exact trivial|refine And.intro rfl ?_)
 rintro _ _ _ ⟨q,rfl,rfl,⟨h1,h2⟩,rfl⟩ ih
 have hb:bAt t q=(t.getD q 0).toNat:=rfl
 by_cases h3:q < t.length
 ·repeat' (first|refine Sg.Y3 ?_|(apply S.condQ;apply rfl;all_goals intro _)|(apply T.gcase;apply rfl;apply rfl;all_goals intro _)|fail)
  rotate_left 4
  ·rw [h2,Z5l (t:=t) (p:=q) (by omega)];exact ⟨_,PSub.refl _,rfl,rfl⟩
  all_goals (have h5:=Z7U (t:=t) (p:=q) (by omega);exact ih _ _ _ _ ⟨q+1,rfl,rfl,⟨by omega,h2.trans h5⟩,rfl⟩ (by omega) (by repeat' first|exact trivial|refine And.intro rfl ?_))
 ·have h4:=Z14 (t:=t) (p:=q) (by omega)
  repeat' (first|refine Sg.Y3 ?_|(apply T.gcase;apply rfl;apply rfl;all_goals intro _)|fail)
  rw [h2,Z5l (t:=t) (p:=q) (by omega)]
  exact ⟨_,PSub.refl _,rfl,rfl⟩
def JrB (p:Nat) (t:List UInt8) (o n m:Value) (s:Nat) (k:List UInt8) (c b:Int) (H:List Res):Gt Unit→Ending→List Res→Prop
 | .ok a' _=>fun e H'=>e=.returned (.bool true)∧H'=.blk p (jrV t o n m a' s k c b) 98::H
 | .bad c' b'=>fun e H'=>∃ a',e=.returned (.bool false)∧H'=.blk p (jrV t o n m a' s k c' b') 98::H
theorem Z1u (ha:a≤t.length) (hl:t.length≤1000000000):Meets Tryz.prog 135 [.pointer (some ⟨p,0,none⟩)] F M (.blk p (jrV t o n m a s k c b) 98::H) (JrB p t o n m s k c b H (Z07 t a)):=by
 refine Meets.enter Tryz.func135 rfl rfl ?_
 have hu:=Z2k t a
 repeat' (first|refine Sg.Y1 ?_|fail)
 refine T.call rfl rfl ZV ?_
 rintro _ _ ⟨rfl,rfl⟩
 by_cases h:48≤bAt t a∧bAt t a≤57
 ·rw [ZbR h]
  obtain ⟨h1,h2⟩:=h
  repeat' (first|refine Sg.Y3 ?_|(apply S.condQ;apply rfl;all_goals intro _)|(apply T.gcase;apply rfl;apply rfl;all_goals intro _)|fail)
  refine T.call rfl rfl ZV ?_
  rintro _ _ ⟨rfl,rfl⟩
  repeat' (first|refine Sg.Y1 ?_|fail)
  refine S.loopE 1 [0] (fun R b' μ H' e=>∃ q:Nat,H'=.blk p (jrV t o n m q s k c b) 98::R∧e=(4,.int .u8 (bAt t q:Nat))::b'∧(q≤t.length∧Zt t a=Zt t q)∧μ=t.length - q) rfl rfl ?_ _ _ ⟨a,rfl,rfl,⟨ha,rfl⟩,rfl⟩ (by repeat' first|exact trivial|refine And.intro rfl ?_)
  rintro _ _ _ ⟨q,rfl,rfl,⟨h3,h4⟩,rfl⟩ ih
  by_cases h5:48≤bAt t q∧bAt t q≤57
  ·have h6:=Zd (t:=t) (p:=q) (by omega)
   rw [Z1N h5] at h4
   obtain ⟨h5,h7⟩:=h5
   repeat' (first|refine Sg.Y3 ?_|(apply S.condQ;apply rfl;all_goals intro _)|(apply T.gcase;apply rfl;apply rfl;all_goals intro _)|fail)
   refine T.call rfl rfl ZV ?_
   rintro _ _ ⟨rfl,rfl⟩
   repeat' (first|refine Sg.Y2 ?_|fail)
   exact ih _ _ _ _ ⟨q+1,rfl,rfl,⟨by omega,h4⟩,rfl⟩ (by omega) (by repeat' first|exact trivial|refine And.intro rfl ?_)
  ·rw [Z28 h5] at h4
   rw [h4]
   repeat' (first|refine Sg.Y3 ?_|(apply S.condQ;apply rfl;all_goals intro _)|(apply T.gcase;apply rfl;apply rfl;all_goals intro _)|fail)
   all_goals exact ⟨_,PSub.refl _,rfl,rfl⟩
 ·rw [ZaO h]
  repeat' (first|refine Sg.Y3 ?_|(apply S.condQ;apply rfl;all_goals intro _)|(apply T.gcase;apply rfl;apply rfl;all_goals intro _)|fail)
  all_goals
   refine T.call rfl rfl ZG ?_
   rintro _ _ ⟨rfl,rfl⟩
   repeat' (first|refine Sg.Y2 ?_|fail)
   exact ⟨_,PSub.refl _,a,rfl,rfl⟩
end
end Go.Proofs.YtjajcmedipjfhaaGreatDoor
/- Rules of runes (32 bits with a sign) and of single bytes; worlds that have grown alone. -/
namespace Sg
open Go Go.RowKit
section
variable {q:Mode} {c:Ctx} {dr:Bool} {ds:List Deferred} {H:List Res} {e:Env} {ops:Array Oper} {l:List Oper} {κ:List Res→Env→Prop} {ty:TypeId} {pos:String} {aft:Array Edge}
theorem T.raddR {x y:Operand} {d:Tmp} {t u:TypeId} {m n:Int} (hx:ev e x=some (.int .i32 m)) (hy:ev e y=some (.int .i32 n)) (h : -2147483648≤m+n∧m+n≤2147483647) (hlt:Nat.blt d c.fn.ntmps=true) (hk:Sr q c ds H ops l κ ((d,.int .i32 (m+n))::e)) :
  Sr q c ds H ops (⟨some d,.binOp .add t x y u,ty,pos,aft,none⟩::l) κ e:=Sr.p (Pu.add hx hy (IntWalk.i32_in _ h)) rfl hlt rfl hk
theorem T.rsubR {x y:Operand} {d:Tmp} {t u:TypeId} {m n:Int} (hx:ev e x=some (.int .i32 m)) (hy:ev e y=some (.int .i32 n)) (h : -2147483648≤m - n∧m - n≤2147483647) (hlt:Nat.blt d c.fn.ntmps=true) (hk:Sr q c ds H ops l κ ((d,.int .i32 (m - n))::e)) :
  Sr q c ds H ops (⟨some d,.binOp .sub t x y u,ty,pos,aft,none⟩::l) κ e:=Sr.p (Pu.sub hx hy (IntWalk.i32_in _ h)) rfl hlt rfl hk
theorem Zdz {m n:Nat} (hm:m < 2147483648) (hn:n < 2147483648):IntKind.i32.wrap ((BitVec.ofInt IntKind.i32.bits (m:Int)|||BitVec.ofInt IntKind.i32.bits (n:Int)).toNat:Int)=((m|||n:Nat):Int):=by
 have h1:(BitVec.ofInt 32 (m:Int)).toNat=m:=Ze (Nat.lt_of_lt_of_le hm (by decide))
 have h2:(BitVec.ofInt 32 (n:Int)).toNat=n:=Ze (Nat.lt_of_lt_of_le hn (by decide))
 have h3:m|||n < 2 ^ 31:=Nat.or_lt_two_pow (by omega) (by omega)
 show IntKind.i32.wrap ((BitVec.ofInt 32 (m:Int)|||BitVec.ofInt 32 (n:Int)).toNat:Int)=_
 rw [BitVec.toNat_or,h1,h2]
 exact IntWalk.i32_in _ (by omega)
theorem ZcG {m n:Nat} (hm:m*2 ^ n < 2147483648) (hn:n≤32):IntKind.i32.wrap ((m:Int)*2 ^ (min (n:Int).toNat IntKind.i32.bits))=((m*2 ^ n:Nat):Int):=by
 have h1:min (n:Int).toNat IntKind.i32.bits=n:=by show min (n:Int).toNat 32=n;omega
 rw [h1,show ((m:Int)*2 ^ n)=((m*2 ^ n:Nat):Int) by push_cast;rfl]
 exact IntWalk.i32_in _ (by omega)
theorem ZcD {m n:Nat} (hn:n≤32):(m:Int).fdiv (2 ^ (min (n:Int).toNat IntKind.i32.bits))=((m / 2 ^ n:Nat):Int):=by
 have h1:min (n:Int).toNat IntKind.i32.bits=n:=by show min (n:Int).toNat 32=n;omega
 rw [h1,Int.fdiv_eq_ediv_of_nonneg _ (by have:=Int.pow_pos (n:=(2:Int)) (m:=n) (by decide);omega)]
 push_cast
 rfl
theorem T.ror {x y:Operand} {d:Tmp} {t u:TypeId} {m n:Nat} (hx:ev e x=some (.int .i32 (m:Int))) (hy:ev e y=some (.int .i32 (n:Int))) (hm:m < 2147483648) (hn:n < 2147483648) (hlt:Nat.blt d c.fn.ntmps=true) (hk:Sr q c ds H ops l κ ((d,.int .i32 ((m|||n:Nat):Int))::e)) :
  Sr q c ds H ops (⟨some d,.binOp .or t x y u,ty,pos,aft,none⟩::l) κ e:=Sr.p (Pu.or hx hy (Zdz hm hn)) rfl hlt rfl hk
theorem T.rshl {x y:Operand} {d:Tmp} {t u:TypeId} {m:Nat} (n:Nat) {kd':IntKind} (hx:ev e x=some (.int .i32 (m:Int))) (hy:ev e y=some (.int kd' (n:Int))) (hm:m*2 ^ n < 2147483648∧n≤32) (hlt:Nat.blt d c.fn.ntmps=true) (hk:Sr q c ds H ops l κ ((d,.int .i32 ((m*2 ^ n:Nat):Int))::e)) :
  Sr q c ds H ops (⟨some d,.binOp .shl t x y u,ty,pos,aft,none⟩::l) κ e:=Sr.p (Pu.shl hx hy (Int.natCast_nonneg n) (ZcG hm.1 hm.2)) rfl hlt rfl hk
theorem Zbj {m:Int} {n:Nat} (hm : -2147483648≤m*2 ^ n∧m*2 ^ n≤2147483647∧n≤32):IntKind.i32.wrap (m*2 ^ (min (n:Int).toNat IntKind.i32.bits))=m*2 ^ n:=by
 have h1:min (n:Int).toNat IntKind.i32.bits=n:=by show min (n:Int).toNat 32=n;omega
 rw [h1]
 exact IntWalk.i32_in _ ⟨hm.1,hm.2.1⟩
theorem T.rshlZ {x y:Operand} {d:Tmp} {t u:TypeId} {m:Int} (n:Nat) {kd':IntKind} (hx:ev e x=some (.int .i32 m)) (hy:ev e y=some (.int kd' (n:Int))) (hm : -2147483648≤m*2 ^ n∧m*2 ^ n≤2147483647∧n≤32) (hlt:Nat.blt d c.fn.ntmps=true) (hk:Sr q c ds H ops l κ ((d,.int .i32 (m*2 ^ n))::e)) :
  Sr q c ds H ops (⟨some d,.binOp .shl t x y u,ty,pos,aft,none⟩::l) κ e:=Sr.p (Pu.shl hx hy (Int.natCast_nonneg n) (Zbj hm)) rfl hlt rfl hk
theorem T.rshr {x y:Operand} {d:Tmp} {t u:TypeId} {m:Nat} (n:Nat) {kd':IntKind} (hx:ev e x=some (.int .i32 (m:Int))) (hy:ev e y=some (.int kd' (n:Int))) (hn:n≤32) (hlt:Nat.blt d c.fn.ntmps=true) (hk:Sr q c ds H ops l κ ((d,.int .i32 ((m / 2 ^ n:Nat):Int))::e)) :
  Sr q c ds H ops (⟨some d,.binOp .shr t x y u,ty,pos,aft,none⟩::l) κ e:=Sr.p (Pu.shr hx hy (Int.natCast_nonneg n) (ZcD hn)) rfl hlt rfl hk
theorem T.convRB {x:Operand} {d:Tmp} {s t:TypeId} {m:Nat} {dd:TypeDesc} [HU c.P s dd] [HU c.P t (.int .u8)] (hx:ev e x=some (.int .i32 (m:Int))) (hlt:Nat.blt d c.fn.ntmps=true) (hk:Sr q c ds H ops l κ ((d,.int .u8 ((UInt8.ofNat m).toNat:Int))::e)) :
  Sr q c ds H ops (⟨some d,.convert s t x,ty,pos,aft,none⟩::l) κ e:=Sr.p (Pu.conv (d:=dd) hx (by rw [Z5d,UInt8.toNat_ofNat'];omega)) rfl hlt rfl hk
theorem T.band {x y:Operand} {d:Tmp} {t u:TypeId} {a:UInt8} (b:UInt8) (hx:ev e x=some (.int .u8 (a.toNat:Int))) (hy:ev e y=some (.int .u8 (b.toNat:Int))) (hlt:Nat.blt d c.fn.ntmps=true) (hk:Sr q c ds H ops l κ ((d,.int .u8 ((a&&&b).toNat:Int))::e)) :
  Sr q c ds H ops (⟨some d,.binOp .and t x y u,ty,pos,aft,none⟩::l) κ e:=Sr.p (Pu.and hx hy (by rw [Zcp a.toNat_lt b.toNat_lt,UInt8.toNat_and])) rfl hlt rfl hk
theorem T.bor {x y:Operand} {d:Tmp} {t u:TypeId} (a:UInt8) {b:UInt8} (hx:ev e x=some (.int .u8 (a.toNat:Int))) (hy:ev e y=some (.int .u8 (b.toNat:Int))) (hlt:Nat.blt d c.fn.ntmps=true) (hk:Sr q c ds H ops l κ ((d,.int .u8 ((a|||b).toNat:Int))::e)) :
  Sr q c ds H ops (⟨some d,.binOp .or t x y u,ty,pos,aft,none⟩::l) κ e:=Sr.p (Pu.or hx hy (by rw [Zdw a.toNat_lt b.toNat_lt,UInt8.toNat_or])) rfl hlt rfl hk
theorem T.quoU64 {x y:Operand} {d:Tmp} {t u:TypeId} {m:Nat} (n:Nat) (hx:ev e x=some (.int .u64 (m:Int))) (hy:ev e y=some (.int .u64 (n:Int))) (h0:0 < n∧m < 18446744073709551616) (hlt:Nat.blt d c.fn.ntmps=true) (hk:Sr q c ds H ops l κ ((d,.int .u64 ((m / n:Nat):Int))::e)) :
  Sr q c ds H ops (⟨some d,.binOp .quo t x y u,ty,pos,aft,none⟩::l) κ e:=Sr.p (Pu.quo hx hy (by omega) (by
   have:=Nat.div_le_self m n
   rw [←Int.ofNat_tdiv]
   generalize m / n=k at *
   exact IntWalk.u64_in _ (by omega))) rfl hlt rfl hk
theorem T.negU64 {x:Operand} {d:Tmp} {t:TypeId} {m:Nat} (hx:ev e x=some (.int .u64 (m:Int))) (hlt:Nat.blt d c.fn.ntmps=true) (hk:Sr q c ds H ops l κ ((d,.int .u64 ((0 - (m:Int)) % 18446744073709551616))::e)) :
  Sr q c ds H ops (⟨some d,.unOp .neg t x,ty,pos,aft,none⟩::l) κ e:=Sr.p (Pu.neg hx (Z7N _)) rfl hlt rfl hk
theorem T.convNeg {x:Operand} {d:Tmp} {s t:TypeId} {m:Nat} {dd:TypeDesc} [HU c.P s dd] [HU c.P t (.int .i64)] (hx:ev e x=some (.int .u64 ((0 - (m:Int)) % 18446744073709551616))) (hm:m≤9223372036854775808) (hlt:Nat.blt d c.fn.ntmps=true) (hk:Sr q c ds H ops l κ ((d,.int .i64 (-(m:Int)))::e)) :
  Sr q c ds H ops (⟨some d,.convert s t x,ty,pos,aft,none⟩::l) κ e:=Sr.p (Pu.conv (d:=dd) hx (by rw [IntKind.wrap_i64];omega)) rfl hlt rfl hk
theorem T.ssliceL {d:Tmp} {x lo:Operand} {kd:IntKind} {i:Nat} {t:TypeId} {bs:List UInt8} [HU c.P t .string] (hx:ev e x=some (sV bs)) (hl:ev e lo=some (.int kd (i:Int))) (h0:i≤bs.length) (hlt:Nat.blt d c.fn.ntmps=true)
  (hk:Sr q c ds H ops l κ ((d,sV (bs.drop i))::e)):Sr q c ds H ops (⟨some d,.slice t x (some lo) none none,ty,pos,aft,none⟩::l) κ e :=
 Sr.p (fun w a _ ha=>by
  have hr:=run_slice_string_l (P:=c.P) (w:=w) (t:=t) (s:=ByteArray.mk bs.toArray) (HU.h (P:=c.P) (t:=t)) kd (i:Int) (by omega) (by show (i:Int)≤(bs.length:Nat);omega)
  have hex:(ByteArray.mk bs.toArray).extract (i:Int).toNat (ByteArray.mk bs.toArray).size=ByteArray.mk (bs.drop i).toArray:=by
   rw [Int.toNat_natCast]
   apply ByteArray.ext
   rw [ByteArray.data_extract]
   apply Array.ext'
   have:(ByteArray.mk bs.toArray).size=bs.length:=rfl
   simp [List.extract,this]
   exact List.take_of_length_le (by rw [List.length_drop];omega)
  rw [hex] at hr
  simp [execOp,ha.ev hx,ha.ev hl,Instr.sliceAt,Z7 (d:=.string),hr]) rfl hlt rfl hk
theorem T.ssliceH {d:Tmp} {x hi:Operand} {kd:IntKind} {j:Nat} {t:TypeId} {bs:List UInt8} [HU c.P t .string] (hx:ev e x=some (sV bs)) (hh:ev e hi=some (.int kd (j:Int))) (h0:j≤bs.length) (hlt:Nat.blt d c.fn.ntmps=true)
  (hk:Sr q c ds H ops l κ ((d,sV (bs.take j))::e)):Sr q c ds H ops (⟨some d,.slice t x none (some hi) none,ty,pos,aft,none⟩::l) κ e :=
 Sr.p (fun w a _ ha=>by
  have hr:=run_slice_string_h (P:=c.P) (w:=w) (t:=t) (s:=ByteArray.mk bs.toArray) (HU.h (P:=c.P) (t:=t)) kd (j:Int) (by omega) (by show (j:Int)≤(bs.length:Nat);omega)
  have hex:(ByteArray.mk bs.toArray).extract 0 (j:Int).toNat=ByteArray.mk (bs.take j).toArray:=by
   rw [Int.toNat_natCast]
   apply ByteArray.ext
   rw [ByteArray.data_extract]
   apply Array.ext'
   simp [List.extract]
  rw [hex] at hr
  simp [execOp,ha.ev hx,ha.ev hh,Instr.sliceAt,Z7 (d:=.string),hr]) rfl hlt rfl hk
theorem T.loadG {x:Operand} {d b i:Nat} {t:TypeId} {dd:TypeDesc} [HU c.P t dd] {vs:List Value} {v:Value} (hx:ev e x=some (.pointer (some ⟨b,i,none⟩))) (hd:plain dd=true) (hr:Rd c.F c.M H (some ⟨b,0,none⟩) vs) (hi:vs[i]?=some v) (hlt:Nat.blt d c.fn.ntmps=true)
  (hk:Sr q c ds H ops l κ ((d,v)::e)):Sr q c ds H ops (⟨some d,.load t x,ty,pos,aft,none⟩::l) κ e :=
 Sr.p (Pu.loadE (ad:=some ⟨b,0,none⟩) (j:=i) (d:=dd) (by rw [hx];simp [eaddr,Zm]) hd hi) rfl hlt rfl hk
theorem T.loadGN {x:Operand} {d b i:Nat} {t:TypeId} {dd:TypeDesc} [HU c.P t dd] {z:Value} {n by_:Nat} [HI c.P t z n by_] {vs us:List Value} (hx:ev e x=some (.pointer (some ⟨b,i,none⟩))) (hd:plain dd=false) (hr:Rd c.F c.M H (some ⟨b,0,none⟩) vs) (hn:i+n≤vs.length) (h0:0 < n) (hu:(vs.drop i).take n=us) (hlt:Nat.blt d c.fn.ntmps=true)
  (hk:Sr q c ds H ops l κ ((d,.agg ⟨us⟩)::e)):Sr q c ds H ops (⟨some d,.load t x,ty,pos,aft,none⟩::l) κ e:=by
 have:=Pu.loadEN (c:=c) (H:=H) (e:=e) (x:=x) (dst:=some d) (ty:=ty) (pos:=pos) (aft:=aft) (g:=none) (t:=t) (dd:=dd) (z:=z) (by_:=by_) (n:=n) (vs:=vs) (ad:=some ⟨b,0,none⟩) (j:=i) hd (by rw [hx];simp [eaddr,Zm]) hr h0 hn
 rw [hu] at this
 exact Sr.p this rfl hlt rfl hk
theorem T.aidx {x y:Operand} {d:Tmp} {t E:TypeId} {n i sz:Nat} {kd:IntKind} {z:Value} {by_:Nat} {dd:TypeDesc} [HU c.P t (.array n E)] [HU c.P E dd] [HI c.P E z sz by_] {vs us:List Value} (hx:ev e x=some (.agg ⟨vs⟩)) (hy:ev e y=some (.int kd (Int.ofNat i))) (hd:plain dd=false) (hi:i < n) (hv:(vs.drop (i*sz)).take sz=us) (hlt:Nat.blt d c.fn.ntmps=true)
  (hk:Sr q c ds H ops l κ ((d,.agg ⟨us⟩)::e)):Sr q c ds H ops (⟨some d,.index t x y,ty,pos,aft,none⟩::l) κ e :=
 Sr.p (fun w a _ ha=>by
  have hy':ev e y=some (.int kd (i:Int)):=hy
  simp [execOp,ha.ev hx,ha.ev hy',Instr.index,asIntOf,Z7 (d:=.array n E),ZL (z:=z) (sz:=sz) (b:=by_),part,Z2z (d:=dd),hd,hi]
  exact hv) rfl hlt rfl hk
end
theorem and63 (n:Nat):UInt8.ofNat n&&&63=UInt8.ofNat (n % 64):=by
 apply UInt8.toNat_inj.1
 rw [UInt8.toNat_and,UInt8.toNat_ofNat',UInt8.toNat_ofNat',show (63:UInt8).toNat=2 ^ 6 - 1 from rfl,Nat.and_two_pow_sub_one_eq_mod]
 omega
theorem ZcT:∀ k:Fin 64,(128:UInt8)|||UInt8.ofNat k.val=UInt8.ofNat (128+k.val):=by decide
theorem Zdy:∀ k:Fin 32,(192:UInt8)|||UInt8.ofNat k.val=UInt8.ofNat (192+k.val):=by decide
theorem Zbx:∀ k:Fin 16,(224:UInt8)|||UInt8.ofNat k.val=UInt8.ofNat (224+k.val):=by decide
theorem ZcU:∀ k:Fin 8,(240:UInt8)|||UInt8.ofNat k.val=UInt8.ofNat (240+k.val):=by decide
theorem Z2R (n:Nat):(128:UInt8)|||(UInt8.ofNat n&&&63)=UInt8.ofNat (128+n % 64):=by
 rw [and63]
 exact ZcT ⟨n % 64,Nat.mod_lt _ (by decide)⟩
theorem Zb8 {u:Nat} (h1:128≤u) (h2:u < 2048):[(192:UInt8)|||UInt8.ofNat (u / 2 ^ 6),128|||(UInt8.ofNat u&&&63)]=utfL u:=by
 unfold utfL
 rw [if_neg (by omega),if_pos h2,Z2R,Zdy ⟨u / 2 ^ 6,by omega⟩]
theorem Z8J {u:Nat} (h1:2048≤u) (h2:u < 65536):[(224:UInt8)|||UInt8.ofNat (u / 2 ^ 12),128|||(UInt8.ofNat (u / 2 ^ 6)&&&63),128|||(UInt8.ofNat u&&&63)]=utfL u:=by
 unfold utfL
 rw [if_neg (by omega),if_neg (by omega),if_pos h2,Z2R,Z2R,Zbx ⟨u / 2 ^ 12,by omega⟩]
theorem Z9E {u:Nat} (h1:65536≤u) (h2:u < 1114112):[(240:UInt8)|||UInt8.ofNat (u / 2 ^ 18),128|||(UInt8.ofNat (u / 2 ^ 12)&&&63),128|||(UInt8.ofNat (u / 2 ^ 6)&&&63),128|||(UInt8.ofNat u&&&63)]=utfL u:=by
 unfold utfL
 rw [if_neg (by omega),if_neg (by omega),if_neg (by omega),Z2R,Z2R,Z2R,ZcU ⟨u / 2 ^ 18,by omega⟩]
theorem Zb9 {u:Nat} (h:u < 128):[UInt8.ofNat u]=utfL u:=by
 unfold utfL
 rw [if_pos h]
theorem St.below {F:World} {M:List Nat} {w w':World} {H:List Res} (h:St F M w H) (hb:Below w.heap.size w w'):St F M w' H:=by
 have hlt:∀ q∈H,∀ b∈q.foot,b < w.heap.size:=fun q hq=>Res.foot_lt (h.res q hq)
 exact ⟨hb.os.trans h.os,hb.tape.trans h.tape,hb.output.trans h.output,Nat.le_trans h.size hb.size,fun j hj hm=>by rw [hb.block j (Nat.lt_of_lt_of_le hj h.size),h.keep j hj hm],h.own,h.nd,fun r hr=>Res.holds_of_heap (h.res r hr) fun b hb'=>hb.block b (hlt r hr b hb')⟩
end Sg
/- The walks of the program's reader of JSON: escapes, sequences, runes appended. -/
namespace Go.Proofs.YtjajcmedipjfhaaGreatDoor
open Sg Go.IntWalk
set_option maxRecDepth 100000
set_option maxHeartbeats 2000000
theorem _root_.Sg.Y4 {P R:Prop} (k:R) (h:Sg.Kp R→P:=by intro k;(first|(apply T.shrI64;apply rfl;apply rfl;omega;apply rfl)|((with_reducible apply T.mulKN 6);apply rfl;apply rfl;omega;apply rfl)|(apply T.convBU64;apply rfl;apply rfl)|((with_reducible apply T.mulKN 2);apply rfl;apply rfl;omega;apply rfl)|(apply T.addNN;apply rfl;apply rfl;omega;apply rfl)|((with_reducible apply T.mulKN 8);apply rfl;apply rfl;omega;apply rfl)|(apply T.shrGU8;apply rfl;apply rfl;omega;apply rfl)|(apply T.negU64;apply rfl;apply rfl)|(apply T.sadd;apply rfl;apply rfl;omega;apply rfl)|(apply T.sslice;(iterate 3 apply rfl);omega;apply rfl)|(apply T.ssliceL;apply rfl;apply rfl;omega;apply rfl)|(apply T.aidx;(iterate 3 apply rfl);decide;apply rfl;apply rfl)|(apply T.loadE;apply rfl;apply rfl;infer_instance;apply rfl;apply rfl)|(apply T.convM;apply rfl;apply rfl)|((with_reducible apply T.rshl 4);apply rfl;apply rfl;omega;apply rfl)|(apply T.ror;apply rfl;apply rfl;omega;omega;apply rfl)|(apply T.convI32;apply rfl;omega;apply rfl)|(apply T.raddR;apply rfl;apply rfl;omega;apply rfl)|((with_reducible apply T.rshr 6);apply rfl;apply rfl;omega;apply rfl)|((with_reducible apply T.rshr 12);apply rfl;apply rfl;omega;apply rfl)|((with_reducible apply T.rshr 18);apply rfl;apply rfl;omega;apply rfl)|(apply T.convRB;apply rfl;apply rfl)|((with_reducible apply T.band 63);(iterate 3 apply rfl))|((with_reducible apply T.bor 240);(iterate 3 apply rfl))|((with_reducible apply T.bor 224);(iterate 3 apply rfl))|((with_reducible apply T.bor 192);(iterate 3 apply rfl))|((with_reducible apply T.bor 128);(iterate 3 apply rfl))|(apply T.mapLook;apply rfl;apply rfl;infer_instance;(first|assumption|(simp only [maxLen];omega)|omega);apply rfl)|(apply T.seql;(iterate 3 apply rfl))|(apply T.sneq;(iterate 3 apply rfl))|(apply T.slen;apply rfl;apply rfl)|(apply T.sidx;apply rfl;apply rfl;omega;apply rfl)|(apply T.loadS;apply rfl;infer_instance;(first|omega|(simp only [List.length_map];omega));apply rfl)|(apply T.convS;apply rfl;infer_instance;(first|rfl|assumption|exact beN_len _ _|(simp;done)|(simp;omega));apply rfl)|(apply T.mv;apply rfl;apply rfl)|(apply T.asn;apply rfl;apply rfl)|(apply T.len;apply rfl;apply rfl)|(apply T.nilCheck;apply rfl;apply rfl)|(apply T.fieldAddrZ;apply rfl;apply rfl)|(apply T.load;apply rfl;apply rfl;infer_instance;apply rfl;apply rfl)|(apply T.lss;(iterate 3 apply rfl))|(apply T.leq;(iterate 3 apply rfl))|(apply T.gtr;(iterate 3 apply rfl))|(apply T.geq;(iterate 3 apply rfl))|(apply T.eql;(iterate 3 apply rfl))|(apply T.neq;(iterate 3 apply rfl))|(apply T.addI;apply rfl;apply rfl;omega;apply rfl)|(apply T.subI;apply rfl;apply rfl;omega;apply rfl)|(apply T.mulI;apply rfl;apply rfl;omega;apply rfl)|(apply T.extract;(iterate 3 apply rfl))|(apply T.ixC;apply rfl;infer_instance;omega;(first|omega|(simp only [List.length_map];omega)|(simp;omega));apply rfl)|(apply T.ixN;apply rfl;apply rfl;infer_instance;omega;(first|omega|(simp only [List.length_map];omega)|(simp;omega));apply rfl)|(apply T.ixK;apply rfl;apply rfl;infer_instance;decide;decide;apply rfl)|(apply T.ixF;apply rfl;apply rfl;infer_instance;exact (fun _=>rfl);apply rfl;omega;omega;apply rfl)|(apply T.fieldAddrF;apply rfl;infer_instance;exact (fun _=>rfl);apply rfl;omega;apply rfl)|(apply T.ixAZ;apply rfl;apply rfl;omega;apply rfl)|(apply T.ixA;apply rfl;apply rfl;omega;apply rfl)|(apply T.loadF;apply rfl;apply rfl;infer_instance;exact (fun _=>rfl);apply rfl;exact Zb (by omega);apply rfl;apply rfl)|(apply T.loadFN;apply rfl;apply rfl;infer_instance;exact (fun _=>rfl);apply rfl;exact Zb (by omega);apply rfl)|(apply T.loadB;apply rfl;infer_instance;omega;apply rfl)|(apply T.loadNat;apply rfl;infer_instance;(first|omega|(simp only [List.length_map];omega)|(simp;omega));apply rfl)|(apply T.notB;apply rfl;apply rfl)|(apply T.pickT;(iterate 3 apply rfl))|(apply T.pickF;(iterate 3 apply rfl))|(apply T.convI64;apply rfl;omega;apply rfl)|(apply T.convU32;apply rfl;omega;apply rfl)|(apply T.convU64;apply rfl;(constructor<;>omega);apply rfl)|(apply T.convU64;apply rfl;omega;apply rfl)|(apply T.buildL;(iterate 3 apply rfl))|(apply T.buildAL;(iterate 3 apply rfl))|(apply T.loadW;apply rfl;apply rfl;infer_instance;(first|rfl|(simp only [List.length_append,List.length_map,List.length_set,List.length_replicate,List.length_cons,List.length_nil];first|done|omega));apply rfl)|(apply T.sliceLK;apply rfl;apply rfl;omega;apply rfl)|(apply T.sliceHK;apply rfl;apply rfl;omega;apply rfl)|(apply T.sliceLHK;(iterate 3 apply rfl);omega;apply rfl)|(apply T.storeW;apply rfl;apply rfl;infer_instance;(first|rfl|(simp only [List.length_append,List.length_map,List.length_set,List.length_replicate,List.length_cons,List.length_nil];first|done|omega));(first|rfl|(simp only [List.length_append,List.length_map,List.length_set,List.length_replicate,List.length_cons,List.length_nil];first|done|omega));(first|rfl|(repeat' first|apply all_nV|apply Z0s|apply all_iV|rfl|apply all_app)))|(apply T.store;apply rfl;apply rfl;infer_instance;(first|decide|(simp;omega)|simp);apply rfl)|(apply S.deferM;apply rfl;apply rfl)|(with_reducible refine Sr.nil ?_)|(with_reducible refine S.seq ?_)|(with_reducible refine S.block ?_)|(with_reducible refine S.reg ?_)|(with_reducible refine S.skip ?_)|(with_reducible refine S.inBlock ?_)|(apply S.exit;apply rfl)|(apply S.quiet;apply rfl;kernel_rfl)|(apply T.ungV;apply rfl;(first|with_reducible rfl|decide))|(apply T.skip;apply rfl;(first|with_reducible rfl|decide);apply rfl)|(apply T.skipU;apply rfl;apply rfl)|(apply S.condTV;apply rfl;(first|with_reducible rfl|decide))|(apply S.condFV;apply rfl;(first|with_reducible rfl|decide))|(apply T.retW;apply rfl)|(apply T.doneW;apply rfl)|(with_reducible apply T.ofRet)|(apply T.retC;apply rfl;((repeat' first|apply RV.nil|(apply RV.tmp;apply rfl)|(apply RV.cellW;apply rfl;apply rfl;infer_instance;(first|rfl|(simp only [List.length_append,List.length_map,List.length_set,List.length_replicate,List.length_cons,List.length_nil];first|done|omega)))|(apply RV.cellP;apply rfl;apply rfl;infer_instance;apply rfl)));apply rfl)|(apply SA.en;apply rfl;apply rfl;kernel_rfl)|(apply S.condQ;apply rfl;intro _;rotate_left;intro _;exfalso;(first|omega|with_reducible contradiction))|(apply S.condQ;apply rfl;intro _;exfalso;(first|omega|with_reducible contradiction);intro _)|(apply T.gcase;apply rfl;apply rfl;intro _;rotate_left;intro _;exfalso;(first|omega|with_reducible contradiction))|(apply T.gcase;apply rfl;apply rfl;intro _;exfalso;(first|omega|with_reducible contradiction);intro _)|fail);exact k.h):P:=h ⟨k⟩
theorem Z4r {F:World} {M:List Nat} {H:List Res} {ad:Option Addr} {n cp u:Nat} {xs:List UInt8} (hn:n≤1000000000) (h1:128≤u) (h2:u < 1114112) (h3:u < 55296∨57343 < u) :
  Meets Tryz.prog 161 [.slice ad n cp,.int .i32 u] F M (.row ad cp 5 1 n (xs.map bV)::H) (fun e H'=>∃ ad' cp' m,e=.returned (.slice ad' m cp')∧H'=.row ad' cp' 5 1 m ((xs++utfL u).map bV)::H∧m=n+(utfL u).length):=by
 refine Meets.enter Tryz.func161 rfl rfl ?_
 by_cases c2:u < 2048
 ·rw [←Zb8 h1 c2]
  repeat' (first|(apply T.append2;apply rfl;apply rfl;infer_instance;apply rfl;(constructor<;>omega);apply rfl;intro na nc)|(apply T.bs;(iterate 6 apply rfl);intro nb)|refine Sg.Y4 ?_|(apply S.condQ;apply rfl;all_goals intro _)|fail)
  exact ⟨_,PSub.refl _,na,nc,_,rfl,rfl,rfl⟩
 by_cases c3:u < 65536
 ·rw [←Z8J (by omega) c3]
  repeat' (first|(apply T.append3;apply rfl;apply rfl;infer_instance;apply rfl;(constructor<;>omega);apply rfl;intro na nc)|(apply T.bs;(iterate 6 apply rfl);intro nb)|refine Sg.Y4 ?_|(apply S.condQ;apply rfl;all_goals intro _)|(apply T.gcase;apply rfl;apply rfl;all_goals intro _)|fail)
  all_goals exact ⟨_,PSub.refl _,na,nc,_,rfl,rfl,rfl⟩
 ·rw [←Z9E (by omega) h2]
  repeat' (first|(apply T.append4;apply rfl;apply rfl;infer_instance;apply rfl;(constructor<;>omega);apply rfl;intro na nc)|(apply T.bs;(iterate 6 apply rfl);intro nb)|refine Sg.Y4 ?_|(apply S.condQ;apply rfl;all_goals intro _)|(apply T.gcase;apply rfl;apply rfl;all_goals intro _)|fail)
  all_goals exact ⟨_,PSub.refl _,na,nc,_,rfl,rfl,rfl⟩
theorem Z4d {F:World} {M:List Nat} {H:List Res} {ad:Option Addr} {n cp u:Nat} {xs:List UInt8} (hn:n≤1000000000) (h2:u < 1114112) (h3:u < 55296∨57343 < u) :
  Meets Tryz.prog 133 [.slice ad n cp,.int .i32 u] F M (.row ad cp 5 1 n (xs.map bV)::H) (fun e H'=>∃ ad' cp' m,e=.returned (.slice ad' m cp')∧H'=.row ad' cp' 5 1 m ((xs++utfL u).map bV)::H∧m=n+(utfL u).length):=by
 refine Meets.enter Tryz.func133 rfl rfl ?_
 by_cases c1:u < 128
 ·rw [←Zb9 c1]
  repeat' (first|(apply T.bs;(iterate 6 apply rfl);intro nb)|(apply T.appendB;apply rfl;apply rfl;infer_instance;apply rfl;(constructor<;>omega);apply rfl;intro na nc)|refine Sg.Y4 ?_|(apply S.condQ;apply rfl;all_goals intro _)|fail)
  exact ⟨_,PSub.refl _,na,nc,_,rfl,rfl,rfl⟩
 ·repeat' (first|refine Sg.Y3 ?_|(apply S.condQ;apply rfl;all_goals intro _)|fail)
  refine T.call rfl rfl (Z4r hn (by omega) h2 h3) ?_
  rintro _ _ ⟨a1,c1,m,rfl,rfl,rfl⟩
  repeat' (first|refine Sg.Y2 ?_|fail)
  exact ⟨_,PSub.refl _,a1,c1,_,rfl,rfl,rfl⟩
def hexV (c:UInt8):Value:=match hexN c with
 | some d=>.tuple ⟨[.int .i32 (d:Nat),.bool true]⟩
 | none=>.tuple ⟨[.int .i32 0,.bool false]⟩
theorem Z3Z (c:UInt8):hexN c=if 48≤c.toNat∧c.toNat≤57 then some (c.toNat - 48) else if 97≤c.toNat∧c.toNat≤102 then some (c.toNat - 87) else if 65≤c.toNat∧c.toNat≤70 then some (c.toNat - 55) else none:=rfl
theorem Zd3 {c:UInt8} {d:Nat} (h:hexN c=some d):d < 16:=by
 rw [Z3Z] at h
 repeat' split at h
 all_goals first|(simp only [Option.some.injEq] at h;omega)|cases h
theorem Z9j {F:World} {M:List Nat} {H:List Res} {c:UInt8}:Meets Tryz.prog 184 [.int .u8 (c.toNat:Nat)] F M H (fun e H'=>e=.returned (hexV c)∧H'=H):=by
 have hc:=c.toNat_lt
 refine Meets.enter Tryz.func184 rfl rfl ?_
 by_cases h1:48≤c.toNat∧c.toNat≤57
 ·have e1:hexV c=.tuple ⟨[.int .i32 ((c.toNat - 48:Nat):Int),.bool true]⟩:=by rw [hexV,Z3Z,if_pos h1]
  rw [e1]
  obtain ⟨h1,h2⟩:=h1
  repeat' (first|((with_reducible apply T.subU8N (n:=48));apply rfl;apply rfl;omega;apply rfl)|refine Sg.Y3 ?_|(apply S.condQ;apply rfl;all_goals intro _)|(apply T.gcase;apply rfl;apply rfl;all_goals intro _)|fail)
  exact ⟨_,PSub.refl _,rfl,rfl⟩
 by_cases h3:97≤c.toNat∧c.toNat≤102
 ·have e1:hexV c=.tuple ⟨[.int .i32 ((c.toNat - 97:Nat)+10:Int),.bool true]⟩:=by rw [hexV,Z3Z,if_neg h1,if_pos h3];simp only;rw [show ((c.toNat - 87:Nat):Int)=((c.toNat - 97:Nat)+10:Int) by omega]
  rw [e1]
  obtain ⟨h3,h2⟩:=h3
  repeat' (first|((with_reducible apply T.subU8N (n:=97));apply rfl;apply rfl;omega;apply rfl)|refine Sg.Y4 ?_|(apply S.condQ;apply rfl;all_goals intro _)|(apply T.gcase;apply rfl;apply rfl;all_goals intro _)|fail)
  all_goals exact ⟨_,PSub.refl _,rfl,rfl⟩
 by_cases h4:65≤c.toNat∧c.toNat≤70
 ·have e1:hexV c=.tuple ⟨[.int .i32 ((c.toNat - 65:Nat)+10:Int),.bool true]⟩:=by rw [hexV,Z3Z,if_neg h1,if_neg h3,if_pos h4];simp only;rw [show ((c.toNat - 55:Nat):Int)=((c.toNat - 65:Nat)+10:Int) by omega]
  rw [e1]
  obtain ⟨h4,h2⟩:=h4
  repeat' (first|((with_reducible apply T.subU8N (n:=65));apply rfl;apply rfl;omega;apply rfl)|refine Sg.Y4 ?_|(apply S.condQ;apply rfl;all_goals intro _)|(apply T.gcase;apply rfl;apply rfl;all_goals intro _)|fail)
  all_goals exact ⟨_,PSub.refl _,rfl,rfl⟩
 ·have e1:hexV c=.tuple ⟨[.int .i32 0,.bool false]⟩:=by rw [hexV,Z3Z,if_neg h1,if_neg h3,if_neg h4]
  rw [e1]
  repeat' (first|refine Sg.Y3 ?_|(apply S.condQ;apply rfl;all_goals intro _)|(apply T.gcase;apply rfl;apply rfl;all_goals intro _)|fail)
  all_goals exact ⟨_,PSub.refl _,rfl,rfl⟩
section
variable {F:World} {M:List Nat} {H:List Res} {p:Nat} {t:List UInt8} {o n m:Value} {a s:Nat} {k:List UInt8} {c b:Int}
def JrR (p:Nat) (t:List UInt8) (o n m:Value) (s:Nat) (k:List UInt8) (c b:Int) (B:Int) (H:List Res):Gt Nat→Ending→List Res→Prop
 | .ok a' u=>fun e H'=>e=.returned (.tuple ⟨[.int .i32 (u:Nat),.bool true]⟩)∧H'=.blk p (jrV t o n m a' s k c b) 98::H
 | .bad c' b'=>fun e H'=>∃ (a':Nat) (z:Int),(-B≤z∧z≤B)∧e=.returned (.tuple ⟨[.int .i32 z,.bool false]⟩)∧H'=.blk p (jrV t o n m a' s k c' b') 98::H
theorem badT {i u d:Nat}:Z0W true i u d=true↔(i=0∧d≠13∨i=1∧d < 12):=by
 unfold Z0W
 simp
theorem badF {i u d:Nat}:Z0W false i u d=true↔(i=1∧u=13∧12≤d):=by
 unfold Z0W
 simp [and_assoc]
theorem Zcc {u d:Nat} (h:d < 16):u*2 ^ 4|||d=16*u+d:=by
 have:=Nat.two_pow_add_eq_or_of_lt (i:=4) (b:=d) h u
 rw [Nat.mul_comm (2 ^ 4) u] at this
 omega
theorem Z9c {t:List UInt8} {low:Bool} {fr k p u:Nat}:ZK t low fr (k+1) p u=match t[p]? with
  | none=>.bad 31 p
  | some c=>match hexN c with
   | none=>.bad 33 fr
   | some d=>if Z0W low (3 - k) u d then .bad 33 fr else ZK t low fr k (p+1) (16*u+d):=rfl
theorem Z5S {fr:Nat} {low:Bool} (ha:a≤t.length) (hl:t.length≤1000000000):Meets Tryz.prog 176 [.pointer (some ⟨p,0,none⟩),.int .i64 fr,.bool low] F M (.blk p (jrV t o n m a s k c b) 98::H) (JrR p t o n m s k c b 0 H (ZK t low fr 4 a 0)):=by
 refine Meets.enter Tryz.func176 rfl rfl ?_
 repeat' (first|refine Sg.Y1 ?_|fail)
 refine S.loopE 1 [0,1,2] (fun R b' μ H' e=>∃ q i u:Nat,H'=.blk p (jrV t o n m q s k c b) 98::R∧e=(8,.int .i32 (u:Nat))::(12,.int .i64 i)::b'∧(q≤t.length∧i≤4∧u < 16 ^ i∧ZK t low fr 4 a 0=ZK t low fr (4 - i) q u)∧μ=4 - i) rfl rfl ?_ _ _ ⟨a,0,0,rfl,rfl,⟨ha,by omega,by decide,rfl⟩,rfl⟩ (by repeat' first|exact trivial|refine And.intro rfl ?_)
 rintro _ _ _ ⟨q,i,u,rfl,rfl,⟨h1,h2,h3,h4⟩,rfl⟩ ih
 by_cases h5:i < 4
 ·have h6:u < 4096:=Nat.lt_of_lt_of_le h3 (Nat.le_trans (Nat.pow_le_pow_right (by decide) (show i≤3 by omega)) (by decide))
  obtain ⟨j,hj⟩:∃ j,4 - i=j+1:=⟨3 - i,by omega⟩
  have hi:3 - j=i:=by omega
  rw [hj,Z9c (p:=q),hi] at h4
  rcases Nat.lt_or_ge q t.length with h7|h7
  ·have hq:t[q]?=some (t.getD q 0):=by simp [List.getD,h7]
   rw [hq] at h4
   have d1:∀ {X:List Res},Meets Tryz.prog 184 [.int .u8 ((t.getD q 0).toNat:Int)] F M X (fun e H'=>e=.returned (hexV (t.getD q 0))∧H'=X):=Z9j
   cases hx:hexN (t.getD q 0) with
   | none =>
    have e2:hexV (t.getD q 0)=.tuple ⟨[.int .i32 0,.bool false]⟩:=by rw [hexV,hx]
    rw [e2] at d1
    simp only [hx] at h4
    repeat' (first|refine Sg.Y3 ?_|(apply S.condQ;apply rfl;all_goals intro _)|fail)
    (apply S.draw;(case Hs=>exact .blk p (jrV t o n m q s k c b) 98::H);(case es=>exact  [9]);(case n=>exact  15);(case hn=>rfl))
    repeat' (first|(apply T.call;apply rfl;apply rfl;with_reducible exact d1;rintro _ _ ⟨rfl,rfl⟩)|(apply SA.qn;(iterate 4 apply rfl);kernel_rfl)|(apply SA.done;apply rfl;kernel_rfl)|(apply SK.intro;(first|exact fun _ h=>h|exact fun _ h=>St.psub h (by ((repeat (first|dsimp only [List.set_cons_zero]|dsimp only [List.set_cons_succ]));repeat' first|exact PSub.refl _|exact PSub.nil|(apply PSub.take;(repeat' first|(with_reducible exact Z0)|(with_reducible apply Z1)))|(with_reducible apply PSub.drop)|((apply PSub.take);(repeat' first|exact Z0|(apply Z1)))))))|refine Sg.Y1 ?_|fail)
    rw [h4]
    refine T.call rfl rfl ZX ?_
    rintro _ _ ⟨rfl,rfl⟩
    repeat' (first|refine Sg.Y2 ?_|fail)
    exact ⟨_,PSub.refl _,q,0,by omega,rfl,rfl⟩
   | some d =>
    have e2:hexV (t.getD q 0)=.tuple ⟨[.int .i32 (d:Nat),.bool true]⟩:=by rw [hexV,hx]
    rw [e2] at d1
    simp only [hx] at h4
    have hd:=Zd3 hx
    cases low with
    | false =>
     repeat' (first|refine Sg.Y3 ?_|(apply S.condQ;apply rfl;all_goals intro _)|fail)
     (apply S.draw;(case Hs=>exact .blk p (jrV t o n m q s k c b) 98::H);(case es=>exact  [9]);(case n=>exact  15);(case hn=>rfl))
     repeat' (first|(apply T.call;apply rfl;apply rfl;with_reducible exact d1;rintro _ _ ⟨rfl,rfl⟩)|(apply T.call;apply rfl;apply rfl;with_reducible exact ZX;rintro _ _ ⟨rfl,rfl⟩)|(apply SA.qn;(iterate 4 apply rfl);kernel_rfl)|(apply SA.done;apply rfl;kernel_rfl)|(apply SK.intro;(first|exact fun _ h=>h|exact fun _ h=>St.psub h (by ((repeat (first|dsimp only [List.set_cons_zero]|dsimp only [List.set_cons_succ]));repeat' first|exact PSub.refl _|exact PSub.nil|(apply PSub.take;(repeat' first|(with_reducible exact Z0)|(with_reducible apply Z1)))|(with_reducible apply PSub.drop)|((apply PSub.take);(repeat' first|exact Z0|(apply Z1)))))))|refine Sg.Y4 ?_|(apply S.condQ;apply rfl;all_goals intro _)|(apply T.gcase;apply rfl;apply rfl;all_goals intro _)|fail)
     all_goals first
      | (rw [h4,if_pos (badF.2 (by omega))];exact ⟨_,PSub.refl _,q,0,by omega,rfl,rfl⟩)
      | (rw [if_neg (fun h=>(show ¬_ by omega) (badF.1 h))] at h4;rw [Zcc hd];exact ih _ _ _ _ ⟨q+1,i+1,16*u+d,rfl,rfl,⟨by omega,by omega,by rw [Nat.pow_succ];omega,by rw [h4,show 4 - (i+1)=j by omega]⟩,rfl⟩ (by omega) (by repeat' first|exact trivial|refine And.intro rfl ?_))
    | true =>
     repeat' (first|refine Sg.Y3 ?_|(apply S.condQ;apply rfl;all_goals intro _)|fail)
     (apply S.draw;(case Hs=>exact .blk p (jrV t o n m q s k c b) 98::H);(case es=>exact  [9]);(case n=>exact  15);(case hn=>rfl))
     repeat' (first|(apply T.call;apply rfl;apply rfl;with_reducible exact d1;rintro _ _ ⟨rfl,rfl⟩)|(apply T.call;apply rfl;apply rfl;with_reducible exact ZX;rintro _ _ ⟨rfl,rfl⟩)|(apply SA.qn;(iterate 4 apply rfl);kernel_rfl)|(apply SA.done;apply rfl;kernel_rfl)|(apply SK.intro;(first|exact fun _ h=>h|exact fun _ h=>St.psub h (by ((repeat (first|dsimp only [List.set_cons_zero]|dsimp only [List.set_cons_succ]));repeat' first|exact PSub.refl _|exact PSub.nil|(apply PSub.take;(repeat' first|(with_reducible exact Z0)|(with_reducible apply Z1)))|(with_reducible apply PSub.drop)|((apply PSub.take);(repeat' first|exact Z0|(apply Z1)))))))|refine Sg.Y4 ?_|(apply S.condQ;apply rfl;all_goals intro _)|(apply T.gcase;apply rfl;apply rfl;all_goals intro _)|fail)
     all_goals first
      | (rw [h4,if_pos (badT.2 (by omega))];exact ⟨_,PSub.refl _,q,0,by omega,rfl,rfl⟩)
      | (rw [if_neg (fun h=>(show ¬_ by omega) (badT.1 h))] at h4;rw [Zcc hd];exact ih _ _ _ _ ⟨q+1,i+1,16*u+d,rfl,rfl,⟨by omega,by omega,by rw [Nat.pow_succ];omega,by rw [h4,show 4 - (i+1)=j by omega]⟩,rfl⟩ (by omega) (by repeat' first|exact trivial|refine And.intro rfl ?_))
  ·obtain rfl:q=t.length:=by omega
   rw [List.getElem?_eq_none (Nat.le_refl _)] at h4
   repeat' (first|refine Sg.Y3 ?_|(apply S.condQ;apply rfl;all_goals intro _)|fail)
   rw [h4]
   refine T.call rfl rfl ZG ?_
   rintro _ _ ⟨rfl,rfl⟩
   repeat' (first|refine Sg.Y2 ?_|fail)
   exact ⟨_,PSub.refl _,_,0,by omega,rfl,rfl⟩
 ·obtain rfl:i=4:=by omega
  rw [h4]
  repeat' (first|refine Sg.Y1 ?_|fail)
  exact ⟨_,PSub.refl _,rfl,rfl⟩
end
end Go.Proofs.YtjajcmedipjfhaaGreatDoor
/- What escapes say, in plain Lean: always a code point. -/
namespace Sg
theorem Z2I {t:List UInt8} {low:Bool} {fr k p u a v:Nat} (h:ZK t low fr (k+1) p u=.ok a v):∃ d,d < 16∧Z0W low (3 - k) u d=false∧ZK t low fr k (p+1) (16*u+d)=.ok a v:=by
 rw [ZK] at h
 split at h
 ·cases h
 ·rename_i c _
  split at h
  ·cases h
  ·rename_i d hd
   split at h
   ·cases h
   ·rename_i hb
    refine ⟨d,?_,by simpa using hb,h⟩
    unfold hexN at hd
    have hc:=c.toNat_lt
    simp only [UInt8.le_iff_toNat_le] at hd
    have e1:(48:UInt8).toNat=48:=rfl
    have e2:(57:UInt8).toNat=57:=rfl
    have e3:(97:UInt8).toNat=97:=rfl
    have e4:(102:UInt8).toNat=102:=rfl
    have e5:(65:UInt8).toNat=65:=rfl
    have e6:(70:UInt8).toNat=70:=rfl
    rw [e1,e2,e3,e4,e5,e6] at hd
    repeat' split at hd
    all_goals first|(simp only [Option.some.injEq] at hd;omega)|cases hd
theorem Z4Z {t:List UInt8} {low:Bool} {fr p a v:Nat} (h:ZK t low fr 4 p 0=.ok a v):∃ d0 d1 d2 d3,d0 < 16∧d1 < 16∧d2 < 16∧d3 < 16∧Z0W low 0 0 d0=false∧Z0W low 1 d0 d1=false∧v=4096*d0+256*d1+16*d2+d3∧a=p+4:=by
 obtain ⟨d0,h0,b0,h⟩:=Z2I h
 obtain ⟨d1,h1,b1,h⟩:=Z2I h
 obtain ⟨d2,h2,b2,h⟩:=Z2I h
 obtain ⟨d3,h3,b3,h⟩:=Z2I h
 rw [ZK] at h
 cases h
 refine ⟨d0,d1,d2,d3,h0,h1,h2,h3,b0,?_,by omega,rfl⟩
 simpa using b1
theorem Z42 {t:List UInt8} {fr p a v:Nat} (h:ZK t false fr 4 p 0=.ok a v):v < 65536∧(v < 56320∨57343 < v):=by
 obtain ⟨d0,d1,d2,d3,h0,h1,h2,h3,b0,b1,rfl,_⟩:=Z4Z h
 simp [Z0W] at b1
 omega
theorem Z5I {t:List UInt8} {fr p a v:Nat} (h:ZK t true fr 4 p 0=.ok a v):56320≤v∧v≤57343:=by
 obtain ⟨d0,d1,d2,d3,h0,h1,h2,h3,b0,b1,rfl,_⟩:=Z4Z h
 simp [Z0W] at b0 b1
 omega
theorem Z7e {t:List UInt8} {fr p a u:Nat} (h:Z1G t fr p=.ok a u):u < 1114112∧(u < 55296∨57343 < u):=by
 unfold Z1G at h
 cases h1:ZK t false fr 4 p 0 with
 | bad e q=>rw [h1] at h;cases h
 | ok b hi =>
  rw [h1] at h
  have h2:=Z42 h1
  simp only [Gt.bind] at h
  split at h
  ·cases h
   omega
  ·cases h3:Z1k t fr b 92 with
   | bad e q=>rw [h3] at h;cases h
   | ok b2 _ =>
    rw [h3] at h
    simp only at h
    cases h4:Z1k t fr b2 117 with
    | bad e q=>rw [h4] at h;cases h
    | ok b3 _ =>
     rw [h4] at h
     simp only at h
     cases h5:ZK t true fr 4 b3 0 with
     | bad e q=>rw [h5] at h;cases h
     | ok b4 lo =>
      rw [h5] at h
      have h6:=Z5I h5
      cases h
      omega
theorem Z6J {t:List UInt8} {fr a u:Nat} (h:escX t fr=.ok a u):u < 1114112∧(u < 55296∨57343 < u):=by
 unfold escX at h
 split at h
 ·cases h
 ·split at h
  ·exact Z7e h
  ·split at h
   ·rename_i u' hu
    cases h
    unfold escS at hu
    repeat' split at hu
    all_goals cases hu
    all_goals decide
   ·cases h
theorem Z3g {t:List UInt8} {fr p:Nat} {c:UInt8} (h:p < t.length):Z1k t fr p c=if bAt t p=c.toNat then .ok (p+1) () else .bad 33 fr:=by
 obtain ⟨d,h1,h2⟩:=Z4c h
 unfold Z1k
 rw [h1,←h2]
 by_cases e:d=c
 ·subst e;simp
 ·have:¬d.toNat=c.toNat:=fun e'=>e (UInt8.toNat_inj.1 e')
  simp [e,this]
theorem Z2w {t:List UInt8} {fr p:Nat} {c:UInt8} (h:¬p < t.length):Z1k t fr p c=.bad 31 p:=by
 unfold Z1k
 rw [List.getElem?_eq_none (by omega)]
def escN (c:Nat):Option Nat:=if c=34 then some 34 else if c=92 then some 92 else if c=47 then some 47 else if c=98 then some 8 else if c=102 then some 12 else if c=110 then some 10 else if c=114 then some 13 else if c=116 then some 9 else none
theorem Zd5 (c:UInt8):escS c=escN c.toNat:=by
 have key:∀ d:UInt8,(c=d)=(c.toNat=d.toNat):=fun d=>propext UInt8.toNat_inj.symm
 unfold escS escN
 simp only [key]
 rfl
theorem Z7x {t:List UInt8} {fr:Nat} (h:fr+1 < t.length):escX t fr=if bAt t (fr+1)=117 then Z1G t fr (fr+2) else match escN (bAt t (fr+1)) with
  | some u=>.ok (fr+2) u
  | none=>.bad 33 fr:=by
 obtain ⟨d,h1,h2⟩:=Z4c h
 have h3:(d=117)=(d.toNat=117):=propext UInt8.toNat_inj.symm
 unfold escX
 rw [h1]
 simp only [Zd5,h2,h3]
 by_cases hh:bAt t (fr+1)=117
 ·rw [if_pos hh,if_pos hh]
 ·rw [if_neg hh,if_neg hh]
  cases escN (bAt t (fr+1))<;>rfl
theorem Z8q {t:List UInt8} {fr:Nat} (h:¬fr+1 < t.length):escX t fr=.bad 31 (fr+1):=by
 unfold escX
 rw [List.getElem?_eq_none (by omega)]
end Sg
/- The walks of the program's reader of JSON: whole escapes. -/
namespace Go.Proofs.YtjajcmedipjfhaaGreatDoor
open Sg Go.IntWalk
set_option maxRecDepth 100000
set_option maxHeartbeats 2000000
section
variable {F:World} {M:List Nat} {H:List Res} {p:Nat} {t:List UInt8} {o n m:Value} {a s:Nat} {k:List UInt8} {c b:Int}
theorem _root_.Sg.Y5 {P R:Prop} (k:R) (h:Sg.Kp R→P:=by intro k;(first|((with_reducible apply T.mulNK 6);apply rfl;apply rfl;omega;apply rfl)|(apply T.orU64;apply rfl;apply rfl;omega;omega;apply rfl)|((with_reducible apply T.mulNK 3);apply rfl;apply rfl;omega;apply rfl)|((with_reducible apply T.addKN 2);apply rfl;apply rfl;omega;apply rfl)|((with_reducible apply T.mulNK 4);apply rfl;apply rfl;omega;apply rfl)|(apply T.sadd;apply rfl;apply rfl;omega;apply rfl)|(apply T.ssliceH;apply rfl;apply rfl;omega;apply rfl)|(apply T.sslice;(iterate 3 apply rfl);omega;apply rfl)|(apply T.ssliceL;apply rfl;apply rfl;omega;apply rfl)|(apply T.raddR;apply rfl;apply rfl;omega;apply rfl)|(apply T.rsubR;apply rfl;apply rfl;omega;apply rfl)|((with_reducible apply T.rshlZ 10);apply rfl;apply rfl;omega;apply rfl)|(apply T.mapLook;apply rfl;apply rfl;infer_instance;(first|assumption|(simp only [maxLen];omega)|omega);apply rfl)|(apply T.slen;apply rfl;apply rfl)|(apply T.sidx;apply rfl;apply rfl;omega;apply rfl)|(apply T.convS;apply rfl;infer_instance;(first|rfl|assumption|exact beN_len _ _|(simp;done)|(simp;omega));apply rfl)|(apply T.eqlP;apply rfl;apply rfl)|(apply T.eqlP0;apply rfl;apply rfl)|(apply T.neqP0;apply rfl;apply rfl)|(apply T.ptrLook;apply rfl;apply rfl;infer_instance;(first|assumption|(simp only [maxLen];omega)|omega);apply rfl)|(apply T.mv;apply rfl;apply rfl)|(apply T.asn;apply rfl;apply rfl)|(apply T.len;apply rfl;apply rfl)|(apply T.nilCheck;apply rfl;apply rfl)|(apply T.fieldAddrZ;apply rfl;apply rfl)|(apply T.load;apply rfl;apply rfl;infer_instance;apply rfl;apply rfl)|(apply T.lss;(iterate 3 apply rfl))|(apply T.gtr;(iterate 3 apply rfl))|(apply T.geq;(iterate 3 apply rfl))|(apply T.eql;(iterate 3 apply rfl))|(apply T.neq;(iterate 3 apply rfl))|(apply T.addI;apply rfl;apply rfl;omega;apply rfl)|(apply T.subI;apply rfl;apply rfl;omega;apply rfl)|(apply T.mulI;apply rfl;apply rfl;omega;apply rfl)|(apply T.extract;(iterate 3 apply rfl))|(apply T.ixC;apply rfl;infer_instance;omega;(first|omega|(simp only [List.length_map];omega)|(simp;omega));apply rfl)|(apply T.ixN;apply rfl;apply rfl;infer_instance;omega;(first|omega|(simp only [List.length_map];omega)|(simp;omega));apply rfl)|(apply T.ixF;apply rfl;apply rfl;infer_instance;exact (fun _=>rfl);apply rfl;omega;omega;apply rfl)|(apply T.fieldAddrF;apply rfl;infer_instance;exact (fun _=>rfl);apply rfl;omega;apply rfl)|(apply T.loadF;apply rfl;apply rfl;infer_instance;exact (fun _=>rfl);apply rfl;exact Zb (by omega);apply rfl;apply rfl)|(apply T.loadFN;apply rfl;apply rfl;infer_instance;exact (fun _=>rfl);apply rfl;exact Zb (by omega);apply rfl)|(apply T.loadB;apply rfl;infer_instance;omega;apply rfl)|(apply T.loadNat;apply rfl;infer_instance;(first|omega|(simp only [List.length_map];omega)|(simp;omega));apply rfl)|(apply T.not;apply rfl;apply rfl)|(apply T.notB;apply rfl;apply rfl)|(apply T.pickT;(iterate 3 apply rfl))|(apply T.pickF;(iterate 3 apply rfl))|(apply T.convI64;apply rfl;omega;apply rfl)|(apply T.buildL;(iterate 3 apply rfl))|(apply T.loadW;apply rfl;apply rfl;infer_instance;(first|rfl|(simp only [List.length_append,List.length_map,List.length_set,List.length_replicate,List.length_cons,List.length_nil];first|done|omega));apply rfl)|(apply T.sliceHK;apply rfl;apply rfl;omega;apply rfl)|(apply T.assert;(iterate 4 apply rfl))|(apply T.neqIf;apply rfl;apply rfl)|(apply T.neqNil;apply rfl;apply rfl)|(apply T.storeW;apply rfl;apply rfl;infer_instance;(first|rfl|(simp only [List.length_append,List.length_map,List.length_set,List.length_replicate,List.length_cons,List.length_nil];first|done|omega));(first|rfl|(simp only [List.length_append,List.length_map,List.length_set,List.length_replicate,List.length_cons,List.length_nil];first|done|omega));(first|rfl|(repeat' first|apply all_nV|apply Z0s|apply all_iV|rfl|apply all_app)))|(apply T.store;apply rfl;apply rfl;infer_instance;(first|decide|(simp;omega)|simp);apply rfl)|(apply T.makeI;(iterate 3 apply rfl))|(with_reducible refine Sr.nil ?_)|(with_reducible refine S.seq ?_)|(with_reducible refine S.block ?_)|(with_reducible refine S.reg ?_)|(with_reducible refine S.skip ?_)|(with_reducible refine S.inBlock ?_)|(apply S.exit;apply rfl)|(apply S.quiet;apply rfl;kernel_rfl)|(apply T.ungV;apply rfl;(first|with_reducible rfl|decide))|(apply T.skip;apply rfl;(first|with_reducible rfl|decide);apply rfl)|(apply T.skipU;apply rfl;apply rfl)|(apply S.condTV;apply rfl;(first|with_reducible rfl|decide))|(apply S.condFV;apply rfl;(first|with_reducible rfl|decide))|(apply T.retW;apply rfl)|(apply T.doneW;apply rfl)|(with_reducible apply T.ofRet)|(apply T.retC;apply rfl;((repeat' first|apply RV.nil|(apply RV.tmp;apply rfl)|(apply RV.cellW;apply rfl;apply rfl;infer_instance;(first|rfl|(simp only [List.length_append,List.length_map,List.length_set,List.length_replicate,List.length_cons,List.length_nil];first|done|omega)))|(apply RV.cellP;apply rfl;apply rfl;infer_instance;apply rfl)));apply rfl)|(apply SA.en;apply rfl;apply rfl;kernel_rfl)|(apply T.ung;apply rfl)|fail);exact k.h):P:=h ⟨k⟩
theorem Z8S {fr:Nat} (ha:a≤t.length) (hl:t.length≤1000000000):Meets Tryz.prog 160 [.pointer (some ⟨p,0,none⟩),.int .i64 fr] F M (.blk p (jrV t o n m a s k c b) 98::H) (JrR p t o n m s k c b 100000000 H (Z1G t fr a)):=by
 refine Meets.enter Tryz.func160 rfl rfl ?_
 repeat' (first|refine Sg.Y1 ?_|fail)
 refine T.call rfl rfl (Z5S (fr:=fr) (low:=false) ha hl) ?_
 unfold Z1G
 cases h1:ZK t false fr 4 a 0 with
 | bad e1 q1 =>
  rintro _ _ ⟨a1,z,hz,rfl,rfl⟩
  repeat' (first|refine Sg.Y1 ?_|fail)
  exact ⟨_,PSub.refl _,a1,z,by omega,rfl,rfl⟩
 | ok a1 hi =>
  rintro _ _ ⟨rfl,rfl⟩
  have hb:=Z42 h1
  have hf:=Z1e (low:=false) (fr:=fr) (k:=4) (u:=0) ha a1 hi h1
  simp only [Gt.bind]
  by_cases h2:hi < 55296∨57343 < hi
  ·rw [if_pos h2]
   repeat' (first|refine Sg.Y3 ?_|(apply S.condQ;apply rfl;all_goals intro _)|(apply T.gcase;apply rfl;apply rfl;all_goals intro _)|fail)
   all_goals exact ⟨_,PSub.refl _,rfl,rfl⟩
  ·rw [if_neg h2]
   have h3:¬hi < 55296:=by omega
   have h4:¬57343 < hi:=by omega
   repeat' (first|(apply T.bs;(iterate 6 apply rfl);intro nb)|refine Sg.Y3 ?_|(apply S.condQ;apply rfl;all_goals intro _)|(apply T.gcase;apply rfl;apply rfl;all_goals intro _)|fail)
   refine S.unroll ?_
   by_cases h5:a1 < t.length
   ·rw [Z3g h5]
    have hg:bAt t a1=(t.getD a1 0).toNat:=rfl
    by_cases h6:bAt t a1=(92:UInt8).toNat
    ·rw [if_pos h6]
     have h6':(t.getD a1 0).toNat=92:=h6
     simp only
     repeat' (first|refine Sg.Y3 ?_|(apply S.condQ;apply rfl;all_goals intro _)|fail)
     refine S.again ?_
     by_cases h7:a1+1 < t.length
     ·rw [Z3g h7]
      by_cases h8:bAt t (a1+1)=(117:UInt8).toNat
      ·rw [if_pos h8]
       have h8':((t.getD (a1+1) 0).toNat:Int)=117:=congrArg Int.ofNat h8
       simp only
       repeat' (first|(refine T.sidx (i:=a1+1) rfl rfl (by omega) rfl ?_)|refine Sg.Y3 ?_|(apply S.condQ;apply rfl;all_goals intro _)|fail)
       refine S.again ?_
       repeat' (first|refine Sg.Y1 ?_|fail)
       refine Sr.front p ?_
       refine T.call rfl rfl (Z5S (a:=a1+1+1) (fr:=fr) (low:=true) (by omega) hl) ?_
       cases h9:ZK t true fr 4 (a1+1+1) 0 with
       | bad e1 q1 =>
        rintro _ _ ⟨a2,z,hz,rfl,rfl⟩
        repeat' (first|refine Sg.Y5 ?_|fail)
        exact ⟨_,by ((repeat (first|dsimp only [List.set_cons_zero]|dsimp only [List.set_cons_succ]));repeat' first|exact PSub.refl _|exact PSub.nil|(apply PSub.take;(repeat' first|(with_reducible exact Z0)|(with_reducible apply Z1)))|(with_reducible apply PSub.drop)|((apply PSub.take);(repeat' first|exact Z0|(apply Z1)))),a2,_,by omega,rfl,rfl⟩
       | ok a2 lo =>
        rintro _ _ ⟨rfl,rfl⟩
        have hb2:=Z5I h9
        repeat' (first|refine Sg.Y5 ?_|fail)
        have e1:(65536+((hi:Int) - 55296)*2 ^ 10+((lo:Int) - 56320))=((65536+1024*(hi - 55296)+lo - 56320:Nat):Int):=by omega
        rw [e1]
        exact ⟨_,by ((repeat (first|dsimp only [List.set_cons_zero]|dsimp only [List.set_cons_succ]));repeat' first|exact PSub.refl _|exact PSub.nil|(apply PSub.take;(repeat' first|(with_reducible exact Z0)|(with_reducible apply Z1)))|(with_reducible apply PSub.drop)|((apply PSub.take);(repeat' first|exact Z0|(apply Z1)))),rfl,rfl⟩
      ·rw [if_neg h8]
       have h8':¬((t.getD (a1+1) 0).toNat:Int)=117:=fun h=>h8 (Int.ofNat.inj h)
       repeat' (first|(refine T.sidx (i:=a1+1) rfl rfl (by omega) rfl ?_)|refine Sg.Y3 ?_|(apply S.condQ;apply rfl;all_goals intro _)|fail)
       refine Sr.front p ?_
       refine T.call rfl rfl ZX ?_
       rintro _ _ ⟨rfl,rfl⟩
       repeat' (first|refine Sg.Y2 ?_|fail)
       exact ⟨_,by ((repeat (first|dsimp only [List.set_cons_zero]|dsimp only [List.set_cons_succ]));repeat' first|exact PSub.refl _|exact PSub.nil|(apply PSub.take;(repeat' first|(with_reducible exact Z0)|(with_reducible apply Z1)))|(with_reducible apply PSub.drop)|((apply PSub.take);(repeat' first|exact Z0|(apply Z1)))),a1+1,0,by omega,rfl,rfl⟩
     ·rw [Z2w h7]
      have e9:(t.length:Int)=(a1:Int)+1:=by omega
      repeat' (first|refine Sg.Y3 ?_|(apply S.condQ;apply rfl;all_goals intro _)|fail)
      refine Sr.front p ?_
      refine T.call rfl rfl (ZG (a:=a1+1)) ?_
      rintro _ _ ⟨rfl,rfl⟩
      repeat' (first|refine Sg.Y2 ?_|fail)
      exact ⟨_,by ((repeat (first|dsimp only [List.set_cons_zero]|dsimp only [List.set_cons_succ]));repeat' first|exact PSub.refl _|exact PSub.nil|(apply PSub.take;(repeat' first|(with_reducible exact Z0)|(with_reducible apply Z1)))|(with_reducible apply PSub.drop)|((apply PSub.take);(repeat' first|exact Z0|(apply Z1)))),a1+1,0,by omega,rfl,rfl⟩
    ·rw [if_neg h6]
     have h6':¬(t.getD a1 0).toNat=92:=h6
     repeat' (first|refine Sg.Y3 ?_|(apply S.condQ;apply rfl;all_goals intro _)|fail)
     refine Sr.front p ?_
     refine T.call rfl rfl ZX ?_
     rintro _ _ ⟨rfl,rfl⟩
     repeat' (first|refine Sg.Y2 ?_|fail)
     exact ⟨_,by ((repeat (first|dsimp only [List.set_cons_zero]|dsimp only [List.set_cons_succ]));repeat' first|exact PSub.refl _|exact PSub.nil|(apply PSub.take;(repeat' first|(with_reducible exact Z0)|(with_reducible apply Z1)))|(with_reducible apply PSub.drop)|((apply PSub.take);(repeat' first|exact Z0|(apply Z1)))),a1,0,by omega,rfl,rfl⟩
   ·rw [Z2w h5]
    repeat' (first|refine Sg.Y3 ?_|(apply S.condQ;apply rfl;all_goals intro _)|fail)
    refine Sr.front p ?_
    refine T.call rfl rfl ZG ?_
    rintro _ _ ⟨rfl,rfl⟩
    repeat' (first|refine Sg.Y2 ?_|fail)
    exact ⟨_,by ((repeat (first|dsimp only [List.set_cons_zero]|dsimp only [List.set_cons_succ]));repeat' first|exact PSub.refl _|exact PSub.nil|(apply PSub.take;(repeat' first|(with_reducible exact Z0)|(with_reducible apply Z1)))|(with_reducible apply PSub.drop)|((apply PSub.take);(repeat' first|exact Z0|(apply Z1)))),a1,0,by omega,rfl,rfl⟩
end
end Go.Proofs.YtjajcmedipjfhaaGreatDoor
