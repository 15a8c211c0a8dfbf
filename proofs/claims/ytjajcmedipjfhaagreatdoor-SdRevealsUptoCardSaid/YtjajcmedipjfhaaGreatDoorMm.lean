/- Texts put together by a program: FrsA NdO RvlA RvlB RvlC RvlE. -/
import Derived.Test.YtjajcmedipjfhaaGreatDoorMl
import Derived.Test.YtjajcmedipjfhaaGreatDoorMa
import Derived.Test.YtjajcmedipjfhaaGreatDoorMb
import Derived.Test.YtjajcmedipjfhaaGreatDoorMg
/- The law of SdFresh: its writings. -/
namespace Sg
open Go Go.RowKit
section
variable {q:Mode} {c:Ctx} {ds:List Deferred} {H:List Res} {ops:Array Oper} {l:List Oper} {κ:List Res→Env→Prop} {dr:Bool} {e:Env} {ty:TypeId} {pos:String} {aft:Array Edge}
theorem Sr.rowEq {a:Option Addr} {cp E sz n:Nat} {xs ys:List Value} (h:xs=ys) (hk:Sr q c ds (.row a cp E sz n ys::H) ops l κ e):Sr q c ds (.row a cp E sz n xs::H) ops l κ e:=by subst h;exact hk
theorem S.rowEq {k:List Item} {a:Option Addr} {cp E sz n:Nat} {xs ys:List Value} (h:xs=ys) (hk:S c ds (.row a cp E sz n ys::H) k e):S c ds (.row a cp E sz n xs::H) k e:=by subst h;exact hk
end
end Sg
namespace Go.Proofs.YtjajcmedipjfhaaGreatDoor
open Sg Go Go.RowKit Go.IntWalk
set_option maxRecDepth 100000
set_option maxHeartbeats 4000000
theorem Zb1:∀ {ts:List (List UInt8)} {L:List Said},allO Z12 ts=some L→(∀ s∈L,Vl s.value)∧pend L []≤(ts.map List.length).sum
 | [],L,h=>by
  cases h
  exact ⟨fun s hs=>(by cases hs),Nat.le_refl _⟩
 | t::r,L,h=>by
  unfold allO at h
  cases ht:Z12 t with
  | none=>rw [ht] at h;cases h
  | some s =>
   rw [ht] at h
   cases hr:allO Z12 r with
   | none=>rw [hr] at h;cases h
   | some L' =>
    rw [hr] at h
    cases h
    obtain ⟨h1,h2⟩:=Zb1 hr
    obtain ⟨-,h3,h4,-⟩:=Z5w ht
    refine ⟨fun x hx=>?_,?_⟩
    ·rcases List.mem_cons.1 hx with rfl|hx
     ·exact h4
     ·exact h1 x hx
    ·have e:pend (s::L') []=s.value.length+1+pend L' []:=by simp [pend]
     rw [e,List.map_cons,List.sum_cons]
     omega
theorem Z3H {v:List Nd} {ts:List (List UInt8)} (hb:AllB v) (hsz:v.length+(ts.map List.length).sum≤2200000):(Z10 Lib.validD Z12 v ts).2.length≤2200000:=by
 unfold Z10
 by_cases h1:ZH Lib.validD v=false∨(Z2 v).kind≠7
 ·rw [if_pos h1]
  exact Nat.zero_le _
 ·rw [if_neg h1]
  by_cases h2:ZS v
  ·rw [if_pos h2]
   exact Nat.zero_le _
  ·rw [if_neg h2]
   have hs:ZH Lib.validD v=true:=by
    cases hh:ZH Lib.validD v with
    | true=>rfl
    | false=>exact absurd (.inl hh) h1
   obtain ⟨hf,hg⟩:=Z1C hs hb (by omega)
   cases hL:allO Z12 ts with
   | none=>exact Nat.zero_le _
   | some L =>
    obtain ⟨l1,l2⟩:=Zb1 hL
    simp only
    split
    ·exact Nat.zero_le _
    ·cases hr:revV (v.length+pend L []+1) L true [] v [] with
     | none=>exact Nat.zero_le _
     | some my =>
      obtain ⟨m,y⟩:=my
      have hkp:=(Z0b l1 (v.length+pend L []+1) true [] v [] m y ⟨hf,hg.flat⟩ (by omega) hr).1.size
      rw [List.length_nil] at hkp
      simp only
      split
      ·exact Nat.zero_le _
      ·split
       ·exact Nat.zero_le _
       ·show y.length≤2200000
        omega
section
variable {F:World} {H:List Res}
end
end Go.Proofs.YtjajcmedipjfhaaGreatDoor
/- Slices of nodes handed in, opened: their texts are no longer than what is read. -/
namespace Go.Proofs.YtjajcmedipjfhaaGreatDoor
open Sg Go Go.ChangeShapes Go.WideShapes Go.RowKit
set_option maxRecDepth 100000
def NdQ {H:Type} (n:Nd) (d:DataW H):Prop:=n.text.length+n.key.length+1≤Rows.uptoBulk d ∧ -9223372036854775808≤n.kids∧n.kids≤9223372036854775807
theorem Z55 {cs:List Value} {i:Nat} {v:Value} (h:(cs.drop i).take 1=[v]):cs[i]?=some v:=by
 have:=congrArg (fun l=>l[0]?) h
 simpa [List.getElem?_take,List.getElem?_drop] using this
theorem ZcX {H:Type} {enc:TypeId × Value→H} {W:World} {fuel:Nat} {cs:List Value} {x:DataW H × List MemPlace} (h:DataW.trod enc Tryz.prog W 0 (fun _=>true) true fuel 34 cs=some x):∃ a:Nd,cs=ndV a∧NdQ a x.1:=by
 obtain ⟨xs,n,rfl,rfl,hl,hlen,hf⟩:=DataW.trod_struct Tryz.underlying34 h
 match xs,hlen with
 | [y0,y1,y2,y3,y4,y5],_ =>
  have h0:=hf 0 _ rfl
  have h1:=hf 1 _ rfl
  have h2:=hf 2 _ rfl
  have h3:=hf 3 _ rfl
  have h4:=hf 4 _ rfl
  have h5:=hf 5 _ rfl
  dsimp only [List.getElem?_cons_zero,List.getElem?_cons_succ] at h0 h1 h2 h3 h4 h5
  obtain ⟨z0,a0,b0,w0⟩:=DataW.trod_int Tryz.underlying32 h0
  obtain ⟨s1,a1,b1,-⟩:=DataW.trod_string Tryz.underlying9 h1
  obtain ⟨s2,a2,b2,-⟩:=DataW.trod_string Tryz.underlying9 h2
  obtain ⟨t3,a3,b3⟩:=DataW.trod_bool Tryz.underlying4 h3
  obtain ⟨z4,a4,b4,w4⟩:=DataW.trod_int Tryz.underlying2 h4
  obtain ⟨z5,a5,b5,w5⟩:=DataW.trod_int Tryz.underlying3 h5
  have c0:Tryz.prog.cellsOf 32=1:=by kernel_rfl
  have c1:Tryz.prog.cellsOf 9=1:=by kernel_rfl
  have c3:Tryz.prog.cellsOf 4=1:=by kernel_rfl
  have c4:Tryz.prog.cellsOf 2=1:=by kernel_rfl
  have c5:Tryz.prog.cellsOf 3=1:=by kernel_rfl
  have c6:Tryz.prog.cellsOf 34=6:=by kernel_rfl
  rw [c6] at hl
  have q0:(cs.drop 0).take (Tryz.prog.cellsOf 32)=_:=a0
  rw [c0] at q0
  have q1:(cs.drop 1).take (Tryz.prog.cellsOf 9)=_:=a1
  rw [c1] at q1
  have q2:(cs.drop 2).take (Tryz.prog.cellsOf 9)=_:=a2
  rw [c1] at q2
  have q3:(cs.drop 3).take (Tryz.prog.cellsOf 4)=_:=a3
  rw [c3] at q3
  have q4:(cs.drop 4).take (Tryz.prog.cellsOf 2)=_:=a4
  rw [c4] at q4
  have q5:(cs.drop 5).take (Tryz.prog.cellsOf 3)=_:=a5
  rw [c5] at q5
  have e0:=Z55 q0
  have e1:=Z55 q1
  have e2:=Z55 q2
  have e3:=Z55 q3
  have e4:=Z55 q4
  have e5:=Z55 q5
  refine ⟨⟨z0,s1.data.toList,s2.data.toList,t3,z4,z5⟩,?_,?_,?_⟩
  ·match cs,hl with
   | [v0,v1,v2,v3,v4,v5],_ =>
    simp only [List.getElem?_cons_zero,List.getElem?_cons_succ,Option.some.injEq] at e0 e1 e2 e3 e4 e5
    subst e0 e1 e2 e3 e4 e5
    rfl
  ·show s2.data.toList.length+s1.data.toList.length+1≤_
   subst b0 b1 b2 b3 b4 b5
   simp only [List.map_cons,List.map_nil,Rows.uptoBulk,Rows.uptoBulkAll]
   omega
  ·show -9223372036854775808≤z5∧z5≤9223372036854775807
   simp only [Lit.wf,Bool.and_eq_true,decide_eq_true_eq] at w5
   exact w5
theorem Z8A {H:Type} {y:DataW H}:∀ {l:List (DataW H)},y∈l→Rows.uptoBulk y≤Rows.uptoBulkAll l
 | [],h=>by cases h
 | d::r,h=>by
  rw [Rows.uptoBulkAll]
  rcases List.mem_cons.1 h with rfl|h
  ·omega
  ·have:=Z8A h
   omega
theorem Z8z {H:Type}:∀ ts:List (List UInt8),Rows.uptoBulkAll (ts.map fun s=>(DataW.lit (.string s):DataW H))=(ts.map List.length).sum+ts.length
 | []=>rfl
 | s::r=>by
  rw [List.map_cons,Rows.uptoBulkAll,Z8z r,Rows.uptoBulk,List.map_cons,List.sum_cons,List.length_cons]
  omega
theorem Za9 {H:Type} {enc:TypeId × Value→H} {W:World} {base:Nat} {v0 v1:Value} {d0 d1:DataW H} {p0 p1:List MemPlace} (w0:Value.okWide Tryz.prog W .any base 22 v0) (w1:Value.okWide Tryz.prog W .any base 23 v1) (h0:DataW.Trod enc Tryz.prog W 0 (fun _=>true) true 22 v0 d0 p0) (h1:DataW.Trod enc Tryz.prog W 0 (fun _=>true) true 23 v1 d1 p1) (hk:Rows.uptoBulkAll [d0,d1]≤1048576) :
  ∃ (va:Option Addr) (vc:Nat) (v:List Nd) (ta:Option Addr) (tc:Nat) (ts:List (List UInt8)),v0=.slice va v.length vc∧v1=.slice ta ts.length tc∧(∀ X,Rd W [] X va (v.flatMap ndV))∧(∀ X,Rd W [] X ta (ts.map sV))∧(∀ n∈v,n.text.length≤1048576∧n.key.length≤1048576)∧(∀ n∈v,-9223372036854775808≤n.kids∧n.kids≤9223372036854775807)∧v.length+(ts.map List.length).sum≤1048576∧ts.length≤1048576:=by
 obtain ⟨va,vc,v,rfl,-,hd,hRv⟩:=Z3c (g:=ndV) (sz:=6) (Q:=NdQ) (fun _=>rfl) (by decide) ZcX Tryz.underlying22 (by kernel_rfl) w0 h0
 obtain ⟨ta,tc,ts,rfl,hd2,hRt⟩:=Z3b Tryz.underlying23 Tryz.underlying9 (by kernel_rfl) w1 h1
 simp only [Rows.uptoBulkAll] at hk
 have hb2:(ts.map List.length).sum+ts.length≤Rows.uptoBulk d1:=by
  rcases hd2 with rfl|⟨sp,rfl⟩
  ·exact Nat.zero_le _
  ·rw [Rows.uptoBulk,Z8z]
   omega
 have hb1:v.length≤Rows.uptoBulk d0∧∀ n∈v,n.text.length+n.key.length≤Rows.uptoBulk d0 ∧ -9223372036854775808≤n.kids∧n.kids≤9223372036854775807:=by
  rcases hd with rfl|⟨el,sp,rfl,e1,e2⟩
  ·exact ⟨Nat.zero_le _,fun n hn=>by cases hn⟩
  ·have h3:=Z8B el
   rw [Rows.uptoBulk]
   refine ⟨by omega,fun n hn=>?_⟩
   obtain ⟨i,hi,rfl⟩:=List.mem_iff_getElem.1 hn
   obtain ⟨y,h4,h5,h6⟩:=e2 i _ (List.getElem?_eq_getElem hi)
   have h7:=Z8A (List.mem_of_getElem? h4)
   exact ⟨by omega,h6⟩
 refine ⟨va,vc,v,ta,tc,ts,rfl,rfl,hRv,hRt,fun n hn=>?_,fun n hn=>(hb1.2 n hn).2,by omega,by omega⟩
 have h8:=(hb1.2 n hn).1
 exact ⟨by omega,by omega⟩
end Go.Proofs.YtjajcmedipjfhaaGreatDoor
/- What is well shaped stands as values; an object's names are unlike; plain. -/
namespace Sg
open Go.Lib
theorem Z5i:∀ (f:Nat) {d k:Nat} {nm:Option (List (List UInt8))} {l r:List Nd},Z0i validD f d nm k l=some r→∃ xs,ROk d nm xs∧l=xs.flatten++r∧xs.length=k
 | f,d,0,nm,l,r,h=>by
  rw [Z0i] at h
  cases h
  exact ⟨[],.nil,rfl,rfl⟩
 | 0,d,k+1,nm,l,r,h=>by
  rw [Z0i] at h
  cases h
 | f+1,d,k+1,nm,[],r,h=>by
  rw [Z0i] at h
  cases h
 | f+1,d,k+1,nm,n::l,r,h=>by
  rw [Z0i] at h
  by_cases hc:Zk validD n=false∨validD n.key=false∨(nm=none∧n.key≠[])∨(Z0u n∧d=0)
  ·rw [if_pos hc] at h
   cases h
  ·rw [if_neg hc] at h
   cases h1:Z0i validD f (d - 1) (if n.kind=7 then some [] else none) n.kids.toNat l with
   | none=>rw [h1] at h;cases h
   | some r' =>
    rw [h1] at h
    simp only at h
    by_cases hh:hasN nm n.key=true
    ·rw [if_pos hh] at h
     cases h
    ·rw [if_neg hh] at h
     obtain ⟨ys,a1,rfl,a3⟩:=Z5i f h1
     obtain ⟨xs,b1,rfl,b3⟩:=Z5i f h
     simp only [not_or,Bool.not_eq_false] at hc
     obtain ⟨c1,c2,c3,c4⟩:=hc
     have hk:n.kids=(ys.length:Int):=by
      have h0:0≤n.kids:=by
       refine Decidable.byContradiction fun e=>?_
       rw [Zk,if_pos (.inr (.inr (.inl (by omega))))] at c1
       cases c1
      rw [a3]
      omega
     refine ⟨(n::ys.flatten)::xs,.cons (.mk c1 c2 (fun e=>Decidable.byContradiction fun e2=>c3 ⟨e,e2⟩) (by simpa using hh) (fun e e2=>c4 ⟨e,e2⟩) hk a1) b1,by simp,by simp [b3]⟩
theorem Z8N {v:List Nd} (h:ZH validD v=true):VOk 32 none v:=by
 rw [ZH,show ([(1,none)]:List Lv)=popL ((1,none)::[]) from rfl,Z1D (v.length+1) v 32 1 none [] (by omega) rfl] at h
 cases h1:Z0i validD (v.length+1) 32 none 1 v with
 | none=>rw [h1] at h;cases h
 | some r =>
  rw [h1] at h
  obtain ⟨xs,a1,a2,a3⟩:=Z5i _ h1
  cases r with
  | cons n r=>cases h
  | nil =>
   match xs,a1,a2,a3 with
   | [x],a1,a2,a3 =>
    rw [List.flatten_cons,List.flatten_nil,List.append_nil,List.append_nil] at a2
    subst a2
    exact a1.inv.1
   | [],_,_,a3=>cases a3
   | _::_::_,_,_,a3=>cases a3
def VO (x:List Nd):Prop:=∃ d nm,VOk d nm x
theorem VO.fo {x:List Nd} (h:VO x):Fo 1 x:=h.choose_spec.choose_spec.fo
theorem VO.kids {x:List Nd} (h:VO x):∀ y∈kidsOf x 0,VO y:=fun y hy=>by
 obtain ⟨d,nm,h⟩:=h
 obtain ⟨-,-,-,-,-,-,-,h8⟩:=h.open_
 obtain ⟨nm',h9,-⟩:=Z2P h8 y hy
 exact ⟨_,_,h9⟩
theorem Z7O:∀ (k:Nat) {d:Nat} {nm:Option (List (List UInt8))} {x:List Nd},x.length < k→VOk d nm x→∀ n∈x,n.kind≠6→n.kind≠7→n.kids=0
 | 0,d,nm,x,hk,h=>by omega
 | k+1,d,nm,x,hk,h=>by
  obtain ⟨n,xs,rfl,a1,a2,a3,a4,a5,a6,a7⟩:=h.inv
  intro m hm k6 k7
  rcases List.mem_cons.1 hm with rfl|hm
  ·refine Decidable.byContradiction fun e=>?_
   rw [Zk] at a1
   by_cases hc:m.kind < 1∨7 < m.kind∨m.kids < 0∨(0 < m.kids∧m.kind≠6∧m.kind≠7)
   ·rw [if_pos hc] at a1
    cases a1
   ·exact hc (.inr (.inr (.inr ⟨by omega,k6,k7⟩)))
  ·obtain ⟨y,h1,h2⟩:=List.mem_flatten.1 hm
   obtain ⟨nm',h3,-⟩:=Z2P a7 y h1
   have:=Zcf (n:=n) h1
   exact Z7O k (by omega) h3 m h2 k6 k7
theorem VO.vl {x:List Nd} (h:VO x):Vl x:=by
 refine ⟨h.fo,?_⟩
 obtain ⟨d,nm,h⟩:=h
 exact Z7O (x.length+1) (by omega) h
theorem Z67:∀ {xs:List (List Nd)} {d:Nat} {ns:List (List UInt8)},ROk d (some ns) xs→(xs.map fun x=>(Z2 x).key).Nodup∧∀ x∈xs,(Z2 x).key∉ns
 | [],_,_,_=>⟨List.nodup_nil,fun x hx=>by cases hx⟩
 | x::r,d,ns,h=>by
  obtain ⟨h1,h2⟩:=h.inv
  obtain ⟨i1,i2⟩:=Z67 (ns:=(Z2 x).key::ns) h2
  have h3:=h1.open_.2.2.2.2.1
  refine ⟨?_,fun y hy=>?_⟩
  ·rw [List.map_cons,List.nodup_cons]
   refine ⟨fun hm=>?_,i1⟩
   obtain ⟨y,hy,e⟩:=List.mem_map.1 hm
   exact i2 y hy (by rw [e];exact List.mem_cons_self ..)
  ·rcases List.mem_cons.1 hy with rfl|hy
   ·intro hm
    simp [hasN] at h3
    exact h3 hm
   ·exact fun hm=>i2 y hy (List.mem_cons_of_mem _ hm)
theorem VO.names {x:List Nd} (h:VO x) (k7:(Z2 x).kind=7):((kidsOf x 0).map fun x=>(Z2 x).key).Nodup:=by
 obtain ⟨d,nm,h⟩:=h
 obtain ⟨-,-,-,-,-,-,-,h8⟩:=h.open_
 rw [if_pos k7] at h8
 exact (Z67 h8).1
theorem VO.noname {x y:List Nd} (h:VO x) (k6:(Z2 x).kind=6) (hy:y∈kidsOf x 0):(Z2 y).key=[]:=by
 obtain ⟨d,nm,h⟩:=h
 obtain ⟨-,-,-,-,-,-,-,h8⟩:=h.open_
 rw [if_neg (by omega)] at h8
 obtain ⟨nm',h9,h10⟩:=Z2P h8 y hy
 exact h9.open_.2.2.2.1 (h10 rfl)
theorem Z6w {α:Type} {g:α→List UInt8} {k:List UInt8}:∀ {xs:List α},(xs.map g).Nodup→(xs.filter fun x=>g x==k).getLast?=xs.find? fun x=>g x==k
 | [],_=>rfl
 | x::r,h=>by
  rw [List.map_cons,List.nodup_cons] at h
  by_cases e:g x=k
  ·have hr:(r.filter fun x=>g x==k)=[]:=by
    rw [List.filter_eq_nil_iff]
    intro y hy e2
    have e3:g y=k:=by simpa using e2
    exact h.1 (by rw [e,←e3];exact List.mem_map_of_mem hy)
   rw [List.filter_cons_of_pos (by simp [e]),List.find?_cons_of_pos (by simp [e]),hr]
   rfl
  ·rw [List.filter_cons_of_neg (by simp [e]),List.find?_cons_of_neg (by simp [e])]
   exact Z6w h.2
theorem VO.hidden {x:List Nd} (h:VO x) (k7:(Z2 x).kind=7):Z0P (kidsOf x 0)=memV x sdN:=by
 unfold Z0P memV
 rw [if_pos k7]
 exact Z6w (g:=fun x:List Nd=>(Z2 x).key) (h.names k7)
end Sg
/- What the document sees of a payload with hidden parts: the places of digests, the rules that are broken; and that the program's way down has met just these; plain. -/
namespace Sg
open Go.Lib
abbrev Plc:=Dg × Bool
abbrev Lk:=Bool × List Plc
def sdX (L:List Said):List (List UInt8)→Lk→List (List Nd)→Lk
 | _,o,[]=>o
 | ns,o,x::r=>if (Z2 x).kind=5 then
   match Zi L (Z2 x).text with
   | none=>sdX L ns (o.1,o.2++[((Z2 x).text,true)]) r
   | some s=>sdX L (ns++[s.name]) (o.1 || (s.member&&decide (s.name∈ns)),o.2++[((Z2 x).text,true)]) r
  else (true,[])
def objK (L:List Said) (listed:Bool) (x:List Nd):Lk:=match memV x Z0o with
 | some k=>(!listed || (decide ((kidsOf x 0).length≠1) || decide ((Z2 k).kind≠5)),[((Z2 k).text,false)])
 | none=>match memV x sdN with
  | none=>(false,[])
  | some h=>if (Z2 h).kind=6 then sdX L (Zx (kidsOf x 0)) (false,[]) (kidsOf h 0) else (true,[])
def Z0j (val:List Nd→Lk) (obj:Bool):Lk→List (List Nd)→Lk
 | o,[]=>o
 | o,y::r=>if obj=true∧(Z2 y).key=sdN then Z0j val obj o r else Z0j val obj (o.1 || (val y).1,o.2++(val y).2) r
def ownX (L:List Said) (listed:Bool) (x:List Nd):Lk:=if (Z2 x).kind=7 then objK L listed x else (false,[])
def Zn:Nat→List Said→Bool→List Nd→Lk
 | 0,_,_,_=>(false,[])
 | f+1,L,listed,x=>Z0j (Zn f L (decide ((Z2 x).kind=6))) (decide ((Z2 x).kind=7)) (ownX L listed x) (kidsOf x 0)
theorem Z1q {val val':List Nd→Lk} {obj:Bool}:∀ (r:List (List Nd)) (o:Lk),(∀ y∈r,val y=val' y)→Z0j val obj o r=Z0j val' obj o r
 | [],_,_=>rfl
 | y::r,o,h=>by
  rw [Z0j,Z0j,h y (List.mem_cons_self ..),Z1q r o fun z hz=>h z (List.mem_cons_of_mem _ hz),Z1q r _ fun z hz=>h z (List.mem_cons_of_mem _ hz)]
theorem Z8k {x y:List Nd} (h:Fo 1 x) (hy:y∈kidsOf x 0):y.length < x.length:=by
 have h1:=(Zu h).1
 have h2:=ZW hy
 omega
theorem Z6s:∀ (g f:Nat) {L:List Said} {b:Bool} {x:List Nd},VO x→x.length < g→x.length < f→Zn g L b x=Zn f L b x
 | 0,_,_,_,x,_,h,_=>by omega
 | _+1,0,_,_,x,_,_,h=>by omega
 | g+1,f+1,L,b,x,hx,h,h'=>by
  rw [Zn,Zn]
  refine Z1q _ _ fun y hy=>?_
  have:=Z8k hx.fo hy
  exact Z6s g f (hx.kids y hy) (by omega) (by omega)
theorem Z2S {f:Nat} {L:List Said} {b:Bool} {x:List Nd} (hx:VO x) (h:x.length < f):Zn f L b x=Z0j (Zn f L (decide ((Z2 x).kind=6))) (decide ((Z2 x).kind=7)) (ownX L b x) (kidsOf x 0):=by
 cases f with
 | zero=>omega
 | succ f =>
  conv=>lhs;rw [Zn]
  refine Z1q _ _ fun y hy=>?_
  have:=Z8k hx.fo hy
  exact Z6s f (f+1) (hx.kids y hy) (by omega) (by omega)
theorem Z6n {x k:List Nd} {key:List UInt8} (h:memV x key=some k):(Z2 x).kind=7:=by
 unfold memV at h
 split at h
 ·assumption
 ·cases h
theorem Z3i {x k:List Nd} {key:List UInt8} (h:memV x key=some k):k∈kidsOf x 0∧(Z2 k).key=key:=by
 unfold memV at h
 split at h
 ·refine ⟨List.mem_of_find?_eq_some h,?_⟩
  have:=List.find?_some h
  simpa using this
 ·cases h
theorem Z6r {f:Nat} {L:List Said} {x:List Nd} (h:memV x Z0o=none):Zn f L true x=Zn f L false x:=by
 cases f with
 | zero=>rfl
 | succ f=>rw [Zn,Zn,ownX,ownX,objK,objK,h]
theorem Z0x {val:List Nd→Lk} {obj:Bool}:∀ (r:List (List Nd)) (o:Lk),Z0j val obj o r=(o.1 || (Z0j val obj (false,[]) r).1,o.2++(Z0j val obj (false,[]) r).2)
 | [],o=>by simp [Z0j]
 | y::r,o=>by
  rw [Z0j,Z0j]
  split
  ·exact Z0x r o
  ·rw [Z0x r (o.1 || (val y).1,o.2++(val y).2),Z0x r (false || (val y).1,[]++(val y).2)]
   simp [Bool.or_assoc]
theorem Z3R {f:Nat} {L:List Said} {b:Bool} {x:List Nd} (hx:VO x) (h7:(Z2 x).kind≠7) (h6:(Z2 x).kind≠6):Zn f L b x=(false,[]):=by
 cases f with
 | zero=>rfl
 | succ f =>
  have hk:kidsOf x 0=[]:=by
   obtain ⟨-,-,h3,h4⟩:=Zu hx.fo
   have h5:=hx.vl.2 (Z2 x) (by rw [h3];exact List.mem_cons_self ..) h6 h7
   rw [h5] at h4
   exact List.eq_nil_of_length_eq_zero (by omega)
  rw [Zn,hk,ownX,if_neg h7]
  rfl
theorem Z9h:Z0o≠sdN:=by decide
theorem Z6t {f:Nat} {L:List Said} {x k:List Nd} (hx:VO x) (hl:x.length < f) (h:memV x Z0o=some k) (h1:(Z2 x).kids=1) (h5:(Z2 k).kind=5):Zn f L true x=(false,[((Z2 k).text,false)]):=by
 obtain ⟨-,-,-,h4⟩:=Zu hx.fo
 obtain ⟨hm,hk⟩:=Z3i h
 have hlen:(kidsOf x 0).length=1:=by omega
 have hks:kidsOf x 0=[k]:=by
  obtain ⟨a,ha⟩:=List.length_eq_one_iff.1 hlen
  rw [ha] at hm ⊢
  rw [List.mem_singleton.1 hm]
 rw [Z2S hx hl,ownX,if_pos (Z6n h),objK,h,hks]
 simp only [Z0j]
 rw [if_neg (fun e=>Z9h (hk.symm.trans e.2)),Z3R (hx.kids k hm) (by omega) (by omega)]
 simp [h5]
abbrev plc (f:Nat) (L:List Said) (s:Said):List Plc:=(Zn f L false s.value).2
inductive Rc (f:Nat) (L:List Said) (ps:List Plc):Said→Prop
 | base {p:Plc} {s:Said}:p∈ps→Zi L p.1=some s→Rc f L ps s
 | step {t:Said} {p:Plc} {s:Said}:Rc f L ps t→p∈plc f L t→Zi L p.1=some s→Rc f L ps s
theorem Rc.mono {f:Nat} {L:List Said} {ps qs:List Plc} {s:Said} (h:Rc f L ps s) (hs:∀ p∈ps,p∈qs):Rc f L qs s:=by
 induction h with
 | base h1 h2=>exact .base (hs _ h1) h2
 | step _ h2 h3 ih=>exact .step ih h2 h3
theorem Rc.trans {f:Nat} {L:List Said} {ps:List Plc} {t s:Said} (ht:Rc f L ps t) (h:Rc f L (plc f L t) s):Rc f L ps s:=by
 induction h with
 | base h1 h2=>exact .step ht h1 h2
 | step _ h2 h3 ih=>exact .step ih h2 h3
structure Took (f:Nat) (L:List Said) (met m:List Dg) (o:Lk) (r:List Dg) (O:List Said):Prop where
 ok:o.1=false
 eq:m=met++r
 perm:r.Perm (o.2.map (·.1)++O.flatMap fun s=>(plc f L s).map (·.1))
 all:∀ s∈O,(Zn f L false s.value).1=false∧s.dig∉met∧s.dig∈r∧Rc f L o.2 s∧Zi L s.dig=some s
 one:O.Nodup
 closed:∀ d∈r,∀ s,Zi L d=some s→d∉met→s∈O
 mem:∀ p∈o.2,∀ s,Zi L p.1=some s→s.member=p.2
 memO:∀ t∈O,∀ p∈plc f L t,∀ s,Zi L p.1=some s→s.member=p.2
def TookE (f:Nat) (L:List Said) (met m:List Dg) (o:Lk):Prop:=∃ r O,Took f L met m o r O
theorem TookE.refl {f:Nat} {L:List Said} {met:List Dg}:TookE f L met met (false,[]):=⟨[],[],rfl,by simp,by simp,by simp,by simp,by simp,by simp,by simp⟩
theorem TookE.comp {f:Nat} {L:List Said} {met m m':List Dg} {a b:Lk} (h:TookE f L met m a) (h':TookE f L m m' b):TookE f L met m' (a.1 || b.1,a.2++b.2):=by
 obtain ⟨r,O,h⟩:=h
 obtain ⟨r',O',h'⟩:=h'
 obtain ⟨ok,rfl,perm,all,one,closed,mem,memO⟩:=h
 obtain ⟨ok',rfl,perm',all',one',closed',mem',memO'⟩:=h'
 refine ⟨r++r',O++O',by simp [ok,ok'],by simp,?_,fun s hs=>?_,?_,fun d hd s hs hn=>?_,fun p hp=>?_,fun t ht=>?_⟩
 ·rw [List.map_append,List.flatMap_append]
  refine (perm.append perm').trans ?_
  rw [List.append_assoc,List.append_assoc]
  refine List.Perm.append_left _ ?_
  rw [←List.append_assoc,←List.append_assoc]
  exact List.Perm.append_right _ List.perm_append_comm
 ·rcases List.mem_append.1 hs with hs|hs
  ·obtain ⟨a1,a2,a3,a4,a5⟩:=all s hs
   exact ⟨a1,a2,List.mem_append_left _ a3,a4.mono fun p hp=>List.mem_append_left _ hp,a5⟩
  ·obtain ⟨a1,a2,a3,a4,a5⟩:=all' s hs
   exact ⟨a1,fun e=>a2 (List.mem_append_left _ e),List.mem_append_right _ a3,a4.mono fun p hp=>List.mem_append_right _ hp,a5⟩
 ·rw [List.nodup_append]
  refine ⟨one,one',fun s hs t ht e=>?_⟩
  subst e
  exact (all' s ht).2.1 (List.mem_append_right _ (all s hs).2.2.1)
 ·rcases List.mem_append.1 hd with hd|hd
  ·exact List.mem_append_left _ (closed d hd s hs hn)
  ·by_cases hr:d∈r
   ·exact List.mem_append_left _ (closed d hr s hs hn)
   ·exact List.mem_append_right _ (closed' d hd s hs fun e=>(List.mem_append.1 e).elim hn hr)
 ·exact (List.mem_append.1 hp).elim (mem p) (mem' p)
 ·exact (List.mem_append.1 ht).elim (memO t) (memO' t)
theorem TookE.perm {f:Nat} {L:List Said} {met m:List Dg} {a b:Lk} (h:TookE f L met m a) (h1:a.1=b.1) (h2:a.2.Perm b.2):TookE f L met m b:=by
 obtain ⟨r,O,ok,eq,perm,all,one,closed,mem,memO⟩:=h
 exact ⟨r,O,h1 ▸ ok,eq,perm.trans (List.Perm.append_right _ (h2.map _)),fun s hs=>⟨(all s hs).1,(all s hs).2.1,(all s hs).2.2.1,(all s hs).2.2.2.1.mono fun p hp=>h2.mem_iff.1 hp,(all s hs).2.2.2.2⟩,one,closed,fun p hp=>mem p (h2.mem_iff.2 hp),memO⟩
theorem TookE.meet {f:Nat} {L:List Said} {met:List Dg} {d:Dg} {b:Bool} (h:Zi L d=none):TookE f L met (met++[d]) (false,[(d,b)]):=by
 refine ⟨[d],[],rfl,rfl,by simp,by simp,by simp,fun e he s hs=>?_,fun p hp s hs=>?_,by simp⟩
 ·rw [List.mem_singleton.1 he,h] at hs
  cases hs
 ·rw [List.mem_singleton.1 hp] at hs
  simp only at hs
  rw [h] at hs
  cases hs
theorem TookE.again {f:Nat} {L:List Said} {met:List Dg} {d:Dg} {b:Bool} {s:Said} (hd:d∈met) (h:Zi L d=some s) (hb:s.member=b):TookE f L met (met++[d]) (false,[(d,b)]):=by
 refine ⟨[d],[],rfl,rfl,by simp,by simp,by simp,fun e he t ht hn=>?_,fun p hp t ht=>?_,by simp⟩
 ·rw [List.mem_singleton.1 he] at hn
  exact absurd hd hn
 ·rw [List.mem_singleton.1 hp] at ht ⊢
  simp only at ht ⊢
  rw [h] at ht
  cases ht
  exact hb
theorem TookE.open_ {f:Nat} {L:List Said} {met m:List Dg} {d:Dg} {b:Bool} {s:Said} (hd:d∉met) (h:Zi L d=some s) (hb:s.member=b) (ht:TookE f L (met++[d]) m (Zn f L false s.value)):TookE f L met m (false,[(d,b)]):=by
 obtain ⟨r,O,ok,rfl,perm,all,one,closed,mem,memO⟩:=ht
 have hsd:=(Zl h).2
 refine ⟨d::r,s::O,rfl,by simp,?_,fun t ht=>?_,?_,fun e he t ht hn=>?_,fun p hp t ht=>?_,fun t ht=>?_⟩
 ·simp only [List.map_cons,List.map_nil,List.cons_append,List.nil_append,List.flatMap_cons]
  exact perm.cons d
 ·rcases List.mem_cons.1 ht with rfl|ht
  ·exact ⟨ok,by rw [hsd];exact hd,by rw [hsd];exact List.mem_cons_self ..,.base (List.mem_singleton.2 rfl) h,by rw [hsd];exact h⟩
  ·obtain ⟨a1,a2,a3,a4,a5⟩:=all t ht
   exact ⟨a1,fun e=>a2 (List.mem_append_left _ e),List.mem_cons_of_mem _ a3,Rc.trans (.base (List.mem_singleton.2 rfl) h) a4,a5⟩
 ·rw [List.nodup_cons]
  exact ⟨fun hs=>(all s hs).2.1 (by rw [hsd];simp),one⟩
 ·rcases List.mem_cons.1 he with rfl|he
  ·rw [h] at ht
   cases ht
   exact List.mem_cons_self ..
  ·by_cases hed:e=d
   ·subst hed
    rw [h] at ht
    cases ht
    exact List.mem_cons_self ..
   ·exact List.mem_cons_of_mem _ (closed e he t ht (by simp [hn,hed]))
 ·rw [List.mem_singleton.1 hp] at ht ⊢
  simp only at ht ⊢
  rw [h] at ht
  cases ht
  exact hb
 ·rcases List.mem_cons.1 ht with rfl|ht
  ·exact mem
  ·exact memO t ht
def ZbY (f:Nat) (L:List Said) (val:RevV):Prop:=∀ met x key m y,VO x→x.length < f→val met x key=some (m,y)→TookE f L met m (Zn f L false x)
def LVo (f:Nat) (L:List Said):Prop:=∀ s∈L,VO s.value∧s.value.length < f
theorem Z5h {f:Nat} {L:List Said} {met0 met m:List Dg} {o a:Lk} (h:TookE f L met0 met o) (h':TookE f L met m a) (ha:a.1=false):TookE f L met0 m (o.1,o.2++a.2):=by
 have:=h.comp h'
 rwa [ha,Bool.or_false] at this
theorem Z4V {f:Nat} {L:List Said} {val:RevV} (hv:ZbY f L val) (hL:LVo f L):∀ (r:List (List Nd)) (met0 met:List Dg) (o:Lk) (ys:List (List Nd)) (m:List Dg) (zs:List (List Nd)),(∀ y∈r,VO y∧y.length < f)→TookE f L met0 met o→Zg val L met ys r=some (m,zs)→TookE f L met0 m (Z0j (Zn f L true) false o r)
 | [],met0,met,o,ys,m,zs,_,ht,h=>by
  rw [Zg] at h
  cases h
  exact ht
 | x::r,met0,met,o,ys,m,zs,hr,ht,h=>by
  obtain ⟨hx,hxl⟩:=hr x (List.mem_cons_self ..)
  have ih:=fun met o ys=>Z4V hv hL r met0 met o ys m zs fun y hy=>hr y (List.mem_cons_of_mem _ hy)
  rw [Zg] at h
  rw [Z0j,if_neg (by simp)]
  cases hd:memV x Z0o with
  | none =>
   rw [hd] at h
   simp only at h
   cases h1:val met x [] with
   | none=>rw [h1] at h;cases h
   | some p =>
    obtain ⟨m1,y⟩:=p
    rw [h1] at h
    have h2:=hv _ _ _ _ _ hx hxl h1
    rw [←Z6r hd] at h2
    exact ih _ _ _ (ht.comp h2) h
  | some k =>
   rw [hd] at h
   simp only at h
   by_cases hc:(Z2 x).kids=1∧(Z2 k).kind=5
   ·rw [if_pos hc] at h
    rw [Z6t hx hxl hd hc.1 hc.2]
    cases hf:Zi L (Z2 k).text with
    | none =>
     rw [hf] at h
     exact ih _ _ _ (ht.comp (.meet hf)) h
    | some s =>
     rw [hf] at h
     simp only at h
     by_cases hm:s.member=true
     ·rw [if_pos hm] at h
      cases h
     ·rw [if_neg hm] at h
      have hm':s.member=false:=by simpa using hm
      by_cases hin:(Z2 k).text∈met
      ·rw [if_pos hin] at h
       exact ih _ _ _ (ht.comp (.again hin hf hm')) h
      ·rw [if_neg hin] at h
       cases h1:val (met++[(Z2 k).text]) s.value [] with
       | none=>rw [h1] at h;cases h
       | some p =>
        obtain ⟨m1,y⟩:=p
        rw [h1] at h
        obtain ⟨l1,l2⟩:=hL s (Zl hf).1
        exact ih _ _ _ (ht.comp (.open_ hin hf hm' (hv _ _ _ _ _ l1 l2 h1))) h
   ·rw [if_neg hc] at h
    cases h
theorem Z36 {f:Nat} {L:List Said} {val:RevV} (hv:ZbY f L val) {top:Bool}:∀ (r:List (List Nd)) (met0 met:List Dg) (o:Lk) (ys:List (List Nd)) (m:List Dg) (zs:List (List Nd)),(∀ y∈r,VO y∧y.length < f)→(∀ y∈r,top=true→(Z2 y).key=algN→(Z2 y).kind=5)→TookE f L met0 met o→Z8 val top met ys r=some (m,zs)→TookE f L met0 m (Z0j (Zn f L false) true o r)
 | [],met0,met,o,ys,m,zs,_,_,ht,h=>by
  rw [Z8] at h
  cases h
  exact ht
 | x::r,met0,met,o,ys,m,zs,hr,ha,ht,h=>by
  obtain ⟨hx,hxl⟩:=hr x (List.mem_cons_self ..)
  have ih:=fun met o ys=>Z36 hv r met0 met o ys m zs (fun y hy=>hr y (List.mem_cons_of_mem _ hy)) (fun y hy=>ha y (List.mem_cons_of_mem _ hy))
  rw [Z8] at h
  rw [Z0j]
  by_cases k1:(Z2 x).key=sdN
  ·rw [if_pos k1] at h
   rw [if_pos ⟨rfl,k1⟩]
   exact ih _ _ _ ht h
  ·rw [if_neg k1] at h
   rw [if_neg (fun e=>k1 e.2)]
   by_cases k2:top=true∧(Z2 x).key=algN
   ·rw [if_pos k2] at h
    have k5:=ha x (List.mem_cons_self ..) k2.1 k2.2
    rw [Z3R hx (by omega) (by omega)]
    refine ih _ _ _ ?_ h
    simpa using ht
   ·rw [if_neg k2] at h
    cases h1:val met x (Z2 x).key with
    | none=>rw [h1] at h;cases h
    | some p =>
     obtain ⟨m1,y⟩:=p
     rw [h1] at h
     exact ih _ _ _ (ht.comp (hv _ _ _ _ _ hx hxl h1)) h
theorem Z52 {f:Nat} {L:List Said} {val:RevV} (hv:ZbY f L val) (hL:LVo f L):∀ (r:List (List Nd)) (met0 met:List Dg) (ns:List (List UInt8)) (o:Lk) (ys:List (List Nd)) (m:List Dg) (zs:List (List Nd)),TookE f L met0 met o→Zf val L met ns ys r=some (m,zs)→TookE f L met0 m (sdX L ns o r)
 | [],met0,met,ns,o,ys,m,zs,ht,h=>by
  rw [Zf] at h
  cases h
  exact ht
 | x::r,met0,met,ns,o,ys,m,zs,ht,h=>by
  have ih:=fun met ns o ys=>Z52 hv hL r met0 met ns o ys m zs
  rw [Zf] at h
  rw [sdX]
  by_cases k5:(Z2 x).kind=5
  ·rw [if_pos k5] at h ⊢
   cases hf:Zi L (Z2 x).text with
   | none =>
    rw [hf] at h
    exact ih _ _ _ _ (Z5h ht (.meet hf) rfl) h
   | some s =>
    rw [hf] at h
    simp only at h ⊢
    by_cases hc:s.member=true∧s.name∉ns
    ·rw [if_pos hc] at h
     have e0:(o.1 || (s.member&&decide (s.name∈ns)))=o.1:=by simp [hc.2]
     rw [e0]
     by_cases hin:(Z2 x).text∈met
     ·rw [if_pos hin] at h
      exact ih _ _ _ _ (Z5h ht (.again hin hf hc.1) rfl) h
     ·rw [if_neg hin] at h
      cases h1:val (met++[(Z2 x).text]) s.value s.name with
      | none=>rw [h1] at h;cases h
      | some p =>
       obtain ⟨m1,y⟩:=p
       rw [h1] at h
       obtain ⟨l1,l2⟩:=hL s (Zl hf).1
       exact ih _ _ _ _ (Z5h ht (.open_ hin hf hc.1 (hv _ _ _ _ _ l1 l2 h1)) rfl) h
    ·rw [if_neg hc] at h
     cases h
  ·rw [if_neg k5] at h
   cases h
theorem Z83 {f:Nat} {L:List Said} (hL:LVo f L):∀ (g:Nat) (top:Bool) (met:List Dg) (x:List Nd) (key:List UInt8) (m:List Dg) (y:List Nd),VO x→x.length < f→(top=true→∀ y∈kidsOf x 0,(Z2 y).key=algN→(Z2 y).kind=5)→revV g L top met x key=some (m,y)→TookE f L met m (Zn f L false x)
 | 0,top,met,x,key,m,y,_,_,_,h=>by cases h
 | g+1,top,met,x,key,m,y,hx,hl,ha,h=>by
  have ih:ZbY f L (revV g L false):=fun met x key m y a b c=>Z83 hL g false met x key m y a b (fun e=>by cases e) c
  have hk:∀ y∈kidsOf x 0,VO y∧y.length < f:=fun y hy=>⟨hx.kids y hy,by have:=Z8k hx.fo hy;omega⟩
  rw [revV] at h
  simp only at h
  by_cases k7:(Z2 x).kind=7
  ·rw [if_pos k7] at h
   cases hd:memV x Z0o with
   | some _=>rw [hd] at h;cases h
   | none =>
    rw [hd] at h
    simp only at h
    cases h1:Z8 (revV g L false) top met [] (kidsOf x 0) with
    | none=>rw [h1] at h;cases h
    | some p =>
     obtain ⟨m1,ys⟩:=p
     rw [h1] at h
     simp only at h
     have t1:=Z36 ih (kidsOf x 0) met met (false,[]) [] m1 ys hk (fun y hy e=>ha e y hy) .refl h1
     rw [Z2S hx hl,ownX,if_pos k7,objK,hd,Z0x]
     simp only [k7,show ¬(7:Int)=6 by decide,decide_true,decide_false]
     rw [hx.hidden k7] at h
     cases hs:memV x sdN with
     | none =>
      rw [hs] at h
      cases h
      exact t1.perm (by simp) (by simp)
     | some hh =>
      rw [hs] at h
      simp only at h ⊢
      by_cases k6:(Z2 hh).kind=6
      ·rw [if_pos k6] at h
       rw [if_pos k6]
       cases h2:Zf (revV g L false) L m1 (Zx (kidsOf x 0)) ys (kidsOf hh 0) with
       | none=>rw [h2] at h;cases h
       | some p2 =>
        obtain ⟨m2,zs⟩:=p2
        rw [h2] at h
        cases h
        have t2:=Z52 ih hL (kidsOf hh 0) m1 m1 _ (false,[]) ys _ _ .refl h2
        exact (t1.comp t2).perm (Bool.or_comm ..) List.perm_append_comm
      ·rw [if_neg k6] at h
       cases h
  ·rw [if_neg k7] at h
   by_cases k6:(Z2 x).kind=6
   ·rw [if_pos k6] at h
    cases h1:Zg (revV g L false) L met [] (kidsOf x 0) with
    | none=>rw [h1] at h;cases h
    | some p =>
     obtain ⟨m1,ys⟩:=p
     rw [h1] at h
     cases h
     have t1:=Z4V ih hL (kidsOf x 0) met met (false,[]) [] _ _ hk .refl h1
     rw [Z2S hx hl,ownX,if_neg k7]
     simp only [k6,show ¬(6:Int)=7 by decide,decide_true,decide_false]
     exact t1
   ·rw [if_neg k6] at h
    cases h
    rw [Z3R hx k7 k6]
    exact .refl
end Sg
/- Where the program's way down gives up the document sees a broken rule; plain. -/
namespace Sg
open Go.Lib
inductive RB (f:Nat) (L:List Said):Lk→Prop
 | bad {o:Lk}:o.1=true→RB f L o
 | mis {o:Lk} {p:Plc} {s:Said}:p∈o.2→Zi L p.1=some s→s.member≠p.2→RB f L o
 | via {o:Lk} {p:Plc} {s:Said}:p∈o.2→Zi L p.1=some s→RB f L (Zn f L false s.value)→RB f L o
theorem RB.mono {f:Nat} {L:List Said} {o o':Lk} (h:RB f L o) (h1:o.1=true→o'.1=true) (h2:∀ p∈o.2,p∈o'.2):RB f L o':=by
 cases h with
 | bad a=>exact .bad (h1 a)
 | mis a b c=>exact .mis (h2 _ a) b c
 | via a b c=>exact .via (h2 _ a) b c
theorem RB.look {f:Nat} {L:List Said} {val:List Nd→Lk} {obj:Bool} {o:Lk} {r:List (List Nd)} (h:RB f L o):RB f L (Z0j val obj o r):=by
 rw [Z0x]
 exact h.mono (fun e=>by simp [e]) fun p hp=>List.mem_append_left _ hp
theorem RB.kids {f:Nat} {L:List Said} {val:List Nd→Lk} {obj:Bool} {o:Lk} {r:List (List Nd)} (h:RB f L (Z0j val obj (false,[]) r)):RB f L (Z0j val obj o r):=by
 rw [Z0x]
 exact h.mono (fun e=>by simp [e]) fun p hp=>List.mem_append_right _ hp
theorem RB.sd {f:Nat} {L:List Said}:∀ (r:List (List Nd)) {ns:List (List UInt8)} {o:Lk},RB f L o→RB f L (sdX L ns o r)
 | [],ns,o,h=>h
 | x::r,ns,o,h=>by
  rw [sdX]
  split
  ·split
   ·exact RB.sd r (h.mono id fun p hp=>List.mem_append_left _ hp)
   ·exact RB.sd r (h.mono (fun e=>by simp [e]) fun p hp=>List.mem_append_left _ hp)
  ·exact .bad rfl
def Zc0 (f:Nat) (L:List Said) (val:RevV) (n:Nat):Prop:=∀ met x key,VO x→x.length < f→x.length+pend L met < n→val met x key=none→RB f L (Zn f L false x)
theorem Z4W {f n:Nat} {L:List Said} {val:RevV} (hv:Zc0 f L val n) (hk:Keeps val L n) (hL:LVo f L):∀ (r:List (List Nd)) (met:List Dg) (o:Lk) (ys:List (List Nd)),(∀ y∈r,VO y∧y.length < f)→r.flatten.length+pend L met < n→Zg val L met ys r=none→RB f L (Z0j (Zn f L true) false o r)
 | [],met,o,ys,_,_,h=>by
  rw [Zg] at h
  cases h
 | x::r,met,o,ys,hr,hn,h=>by
  obtain ⟨hx,hxl⟩:=hr x (List.mem_cons_self ..)
  have ih:=fun met o ys=>Z4W hv hk hL r met o ys fun y hy=>hr y (List.mem_cons_of_mem _ hy)
  rw [Z5] at hn
  have hpos:=hx.fo.pos
  have hp:∀ d,pend L (met++[d])≤pend L met:=fun d=>ZP L met [d]
  rw [Zg] at h
  rw [Z0j,if_neg (by simp)]
  cases hd:memV x Z0o with
  | none =>
   rw [hd] at h
   simp only at h
   cases h1:val met x [] with
   | none =>
    have h2:=hv _ _ _ hx hxl (by omega) h1
    rw [←Z6r hd] at h2
    exact (h2.mono (o':=(o.1 || (Zn f L true x).1,o.2++(Zn f L true x).2)) (fun e=>by simp [e]) fun p hp=>List.mem_append_right _ hp).look
   | some p =>
    obtain ⟨m1,y⟩:=p
    rw [h1] at h
    have hb:=(hk _ _ _ _ _ hx.vl (by omega) h1).1
    have hsz:=hb.size
    obtain ⟨r1,hr1⟩:=hb.grow
    have hml:met.length≤m1.length:=by rw [hr1,List.length_append];omega
    exact ih _ _ _ (by omega) h
  | some k =>
   rw [hd] at h
   simp only at h
   by_cases hc:(Z2 x).kids=1∧(Z2 k).kind=5
   ·rw [if_pos hc] at h
    rw [Z6t hx hxl hd hc.1 hc.2]
    cases hf:Zi L (Z2 k).text with
    | none =>
     rw [hf] at h
     exact ih _ _ _ (by have:=hp (Z2 k).text;omega) h
    | some s =>
     obtain ⟨hs1,hs2⟩:=Zl hf
     rw [hf] at h
     simp only at h
     have hin1:((Z2 k).text,false)∈o.2++[((Z2 k).text,false)]:=List.mem_append_right _ (List.mem_singleton.2 rfl)
     by_cases hm:s.member=true
     ·exact (RB.mis (o:=(o.1 || false,o.2++[((Z2 k).text,false)])) hin1 hf (by rw [hm];simp)).look
     ·rw [if_neg hm] at h
      by_cases hin:(Z2 k).text∈met
      ·rw [if_pos hin] at h
       exact ih _ _ _ (by have:=hp (Z2 k).text;omega) h
      ·rw [if_neg hin] at h
       obtain ⟨l1,l2⟩:=hL s hs1
       have ho:s.value.length+1+pend L (met++[(Z2 k).text])≤pend L met:=by
        rw [←hs2] at hin ⊢
        exact Z0N hs1 hin
       cases h1:val (met++[(Z2 k).text]) s.value [] with
       | none=>exact (RB.via (o:=(o.1 || false,o.2++[((Z2 k).text,false)])) hin1 hf (hv _ _ _ l1 l2 (by omega) h1)).look
       | some p =>
        obtain ⟨m1,y⟩:=p
        rw [h1] at h
        have hb:=(hk _ _ _ _ _ l1.vl (by omega) h1).1
        have hsz:=hb.size
        obtain ⟨r1,hr1⟩:=hb.grow
        have hml:(met++[(Z2 k).text]).length≤m1.length:=by rw [hr1,List.length_append (bs:=r1)];omega
        exact ih _ _ _ (by omega) h
   ·rw [if_neg hc] at h
    refine RB.look (.bad ?_)
    have hko:(kidsOf x 0).length≠1∨(Z2 k).kind≠5:=by
     obtain ⟨-,-,-,h4⟩:=Zu hx.fo
     by_cases e:(kidsOf x 0).length=1
     ·exact .inr fun e5=>hc ⟨by omega,e5⟩
     ·exact .inl e
    have:(Zn f L true x).1=true:=by
     rw [Z2S hx hxl,ownX,if_pos (Z6n hd),objK,hd,Z0x]
     rcases hko with e|e<;>simp [e]
    simp [this]
theorem Z37 {f n:Nat} {L:List Said} {val:RevV} (hv:Zc0 f L val n) (hk:Keeps val L n) {top:Bool}:∀ (r:List (List Nd)) (met:List Dg) (o:Lk) (ys:List (List Nd)),(∀ y∈r,VO y∧y.length < f)→r.flatten.length+pend L met < n→Z8 val top met ys r=none→RB f L (Z0j (Zn f L false) true o r)
 | [],met,o,ys,_,_,h=>by
  rw [Z8] at h
  cases h
 | x::r,met,o,ys,hr,hn,h=>by
  obtain ⟨hx,hxl⟩:=hr x (List.mem_cons_self ..)
  have ih:=fun met o ys=>Z37 hv hk (top:=top) r met o ys fun y hy=>hr y (List.mem_cons_of_mem _ hy)
  rw [Z5] at hn
  rw [Z8] at h
  rw [Z0j]
  by_cases k1:(Z2 x).key=sdN
  ·rw [if_pos k1] at h
   rw [if_pos ⟨rfl,k1⟩]
   exact ih _ _ _ (by omega) h
  ·rw [if_neg k1] at h
   rw [if_neg (fun e=>k1 e.2)]
   by_cases k2:top=true∧(Z2 x).key=algN
   ·rw [if_pos k2] at h
    exact ih _ _ _ (by omega) h
   ·rw [if_neg k2] at h
    cases h1:val met x (Z2 x).key with
    | none=>exact ((hv _ _ _ hx hxl (by omega) h1).mono (o':=(o.1 || (Zn f L false x).1,o.2++(Zn f L false x).2)) (fun e=>by simp [e]) fun p hp=>List.mem_append_right _ hp).look
    | some p =>
     obtain ⟨m1,y⟩:=p
     rw [h1] at h
     have hb:=(hk _ _ _ _ _ hx.vl (by omega) h1).1
     have hsz:=hb.size
     obtain ⟨r1,hr1⟩:=hb.grow
     have hml:met.length≤m1.length:=by rw [hr1,List.length_append];omega
     exact ih _ _ _ (by omega) h
theorem Z53 {f n:Nat} {L:List Said} {val:RevV} (hv:Zc0 f L val n) (hk:Keeps val L n) (hL:LVo f L):∀ (r:List (List Nd)) (met:List Dg) (ns:List (List UInt8)) (o:Lk) (ys:List (List Nd)),r.flatten.length+pend L met < n→(∀ y∈r,VO y)→Zf val L met ns ys r=none→RB f L (sdX L ns o r)
 | [],met,ns,o,ys,_,_,h=>by
  rw [Zf] at h
  cases h
 | x::r,met,ns,o,ys,hn,hr,h=>by
  have ih:=fun met ns o ys a=>Z53 hv hk hL r met ns o ys a fun y hy=>hr y (List.mem_cons_of_mem _ hy)
  have hpos:=(hr x (List.mem_cons_self ..)).fo.pos
  have hp:∀ d,pend L (met++[d])≤pend L met:=fun d=>ZP L met [d]
  rw [Z5] at hn
  rw [Zf] at h
  rw [sdX]
  by_cases k5:(Z2 x).kind=5
  ·rw [if_pos k5] at h ⊢
   cases hf:Zi L (Z2 x).text with
   | none =>
    rw [hf] at h
    exact ih _ _ _ _ (by have:=hp (Z2 x).text;omega) h
   | some s =>
    obtain ⟨hs1,hs2⟩:=Zl hf
    rw [hf] at h
    simp only at h ⊢
    have hin1:((Z2 x).text,true)∈o.2++[((Z2 x).text,true)]:=List.mem_append_right _ (List.mem_singleton.2 rfl)
    by_cases hc:s.member=true∧s.name∉ns
    ·rw [if_pos hc] at h
     by_cases hin:(Z2 x).text∈met
     ·rw [if_pos hin] at h
      exact ih _ _ _ _ (by have:=hp (Z2 x).text;omega) h
     ·rw [if_neg hin] at h
      obtain ⟨l1,l2⟩:=hL s hs1
      have ho:s.value.length+1+pend L (met++[(Z2 x).text])≤pend L met:=by
       rw [←hs2] at hin ⊢
       exact Z0N hs1 hin
      cases h1:val (met++[(Z2 x).text]) s.value s.name with
      | none=>exact RB.sd r (.via hin1 hf (hv _ _ _ l1 l2 (by omega) h1))
      | some p =>
       obtain ⟨m1,y⟩:=p
       rw [h1] at h
       have hb:=(hk _ _ _ _ _ l1.vl (by omega) h1).1
       have hsz:=hb.size
       obtain ⟨r1,hr1⟩:=hb.grow
       have hml:(met++[(Z2 x).text]).length≤m1.length:=by rw [hr1,List.length_append (bs:=r1)];omega
       exact ih _ _ _ _ (by omega) h
    ·by_cases hm:s.member=true
     ·refine RB.sd r (.bad ?_)
      have:s.name∈ns:=Decidable.byContradiction fun e=>hc ⟨hm,e⟩
      simp [hm,this]
     ·exact RB.sd r (.mis hin1 hf hm)
  ·rw [if_neg k5]
   exact .bad rfl
theorem Z85 {f:Nat} {L:List Said} (hL:LVo f L):∀ (g:Nat) (top:Bool),Zc0 f L (revV g L top) g
 | 0,top=>fun met x key _ _ h _=>by omega
 | g+1,top=>fun met x key hx hl hn h=>by
  have hLv:∀ s∈L,Vl s.value:=fun s hs=>(hL s hs).1.vl
  have ih:=Z85 hL g false
  have hkp:Keeps (revV g L false) L g:=Z0b hLv g false
  obtain ⟨k1,-,-,-⟩:=Zu hx.fo
  have hk:∀ y∈kidsOf x 0,VO y∧y.length < f:=fun y hy=>⟨hx.kids y hy,by have:=Z8k hx.fo hy;omega⟩
  rw [revV] at h
  simp only at h
  by_cases k7:(Z2 x).kind=7
  ·rw [if_pos k7] at h
   rw [Z2S hx hl,ownX,if_pos k7,objK]
   simp only [k7,show ¬(7:Int)=6 by decide,decide_true,decide_false]
   cases hd:memV x Z0o with
   | some k=>exact RB.look (.bad (by simp))
   | none =>
    rw [hd] at h
    simp only at h ⊢
    cases h1:Z8 (revV g L false) top met [] (kidsOf x 0) with
    | none=>exact (Z37 ih hkp (kidsOf x 0) met (false,[]) [] hk (by omega) h1).kids
    | some p =>
     obtain ⟨m1,ys⟩:=p
     rw [h1] at h
     simp only at h
     obtain ⟨⟨us,-,hb⟩,-⟩:=Z0E hkp (kidsOf x 0) met [] m1 ys hx.vl.kids (fun y hy=>by cases hy) (by omega) h1
     have hsz:=hb.size
     obtain ⟨r1,hr1⟩:=hb.grow
     have hml:met.length≤m1.length:=by rw [hr1,List.length_append];omega
     rw [hx.hidden k7] at h
     cases hs:memV x sdN with
     | none=>rw [hs] at h;cases h
     | some hh =>
      rw [hs] at h
      simp only at h ⊢
      by_cases k6:(Z2 hh).kind=6
      ·rw [if_pos k6] at h ⊢
       have hhid:Z0P (kidsOf x 0)=some hh:=by rw [hx.hidden k7,hs]
       obtain ⟨-,-,h9,h10⟩:=Z1s hx.vl.kids hhid
       cases h2:Zf (revV g L false) L m1 (Zx (kidsOf x 0)) ys (kidsOf hh 0) with
       | none=>exact (Z53 ih hkp hL (kidsOf hh 0) m1 _ (false,[]) ys (by omega) (fun y hy=>(hx.kids hh h9).kids y hy) h2).look
       | some p2=>rw [h2] at h;cases h
      ·rw [if_neg k6]
       exact RB.look (.bad rfl)
  ·rw [if_neg k7] at h
   by_cases k6:(Z2 x).kind=6
   ·rw [if_pos k6] at h
    rw [Z2S hx hl,ownX,if_neg k7]
    simp only [k6,show ¬(6:Int)=7 by decide,decide_true,decide_false]
    cases h1:Zg (revV g L false) L met [] (kidsOf x 0) with
    | none=>exact Z4W ih hkp hL (kidsOf x 0) met (false,[]) [] hk (by omega) h1
    | some p=>rw [h1] at h;cases h
   ·rw [if_neg k6] at h
    cases h
structure Ended (f:Nat) (L:List Said) (v:List Nd) (P:List Plc) (O:List Said) (bad:Bool):Prop where
 eq:P=(Zn f L false v).2++O.flatMap (plc f L)
 one:O.Nodup
 reach:∀ s∈O,Zi L s.dig=some s∧Rc f L (Zn f L false v).2 s
 closed:∀ p∈P,∀ s,Zi L p.1=some s→s∈O
 bad_:bad=false↔((Zn f L false v).1=false∧(∀ s∈O,(Zn f L false s.value).1=false)∧∀ p∈P,∀ s,Zi L p.1=some s→s.member=p.2)
theorem RB.no {f:Nat} {L:List Said} {v:List Nd} {P:List Plc} {O:List Said} {o:Lk} (he:Ended f L v P O false) (h:RB f L o):o.1=false→(∀ p∈o.2,p∈P)→False:=by
 obtain ⟨b1,b2,b3⟩:=he.bad_.1 rfl
 induction h with
 | bad a=>intro h1;rw [a] at h1;cases h1
 | mis a b c=>intro _ h2;exact c (b3 _ (h2 _ a) _ b)
 | @via o p s a b c ih =>
  intro _ h2
  have hs:=he.closed _ (h2 _ a) _ b
  exact ih (b2 s hs) fun q hq=>by
   rw [he.eq]
   exact List.mem_append_right _ (List.mem_flatMap.2 ⟨s,hs,hq⟩)
theorem Z7f {α:Type} [BEq α] [LawfulBEq α] {a b:List α} (ha:a.Nodup) (hb:b.Nodup) (h:∀ x,x∈a↔x∈b):a.Perm b:=by
 rw [List.perm_iff_count]
 intro x
 rw [ha.count,hb.count]
 simp only [h x]
theorem Zd7 {f g:Nat} {L:List Said} {v:List Nd} {P:List Plc} {O:List Said} {bad:Bool} (hv:VO v) (hvl:v.length < f) (hL:LVo f L) (hn:(L.map (·.dig)).Nodup) (halg:∀ y∈kidsOf v 0,(Z2 y).key=algN→(Z2 y).kind=5) (he:Ended f L v P O bad) (hg:v.length+pend L [] < g) :
  (bad=true→revV g L true [] v []=none)∧(bad=false→∃ m y,revV g L true [] v []=some (m,y)∧m.Perm (P.map (·.1))∧∀ s∈L,(s.dig∈m↔s∈O)):=by
 have hfind:∀ s∈L,Zi L s.dig=some s:=fun s hs=>by
  obtain ⟨i,hi,rfl⟩:=List.mem_iff_getElem.1 hs
  cases h:Zi L L[i].dig with
  | none =>
   unfold Zi at h
   have:=List.find?_eq_none.1 h L[i] hs
   simp at this
  | some t =>
   obtain ⟨h1,h2⟩:=Zl h
   obtain ⟨j,hj,rfl⟩:=List.mem_iff_getElem.1 h1
   have h3 : (L.map (·.dig))[j]'(by simpa using hj) = (L.map (·.dig))[i]'(by simpa using hi) := by simpa using h2
   have h4:=(List.getElem_inj hn).1 h3
   subst h4
   rfl
 cases hr:revV g L true [] v [] with
 | none =>
  refine ⟨fun _=>rfl,fun hb=>?_⟩
  subst hb
  exfalso
  refine RB.no he (Z85 hL g true [] v [] hv hvl hg hr) (he.bad_.1 rfl).1 fun p hp=>?_
  rw [he.eq]
  exact List.mem_append_left _ hp
 | some my =>
  obtain ⟨m,y⟩:=my
  obtain ⟨r,O',ok,rfl,perm,all,one,closed,mem,memO⟩:=Z83 hL g true [] v [] m y hv hvl (fun _=>halg) hr
  have hreach:∀ s,Rc f L (Zn f L false v).2 s→s∈O':=fun s hs=>by
   induction hs with
   | base h1 h2=>exact closed _ (perm.mem_iff.2 (List.mem_append_left _ (List.mem_map_of_mem h1))) _ h2 (by simp)
   | @step t p s h1 h2 h3 ih=>exact closed _ (perm.mem_iff.2 (List.mem_append_right _ (List.mem_flatMap.2 ⟨t,ih,List.mem_map_of_mem h2⟩))) _ h3 (by simp)
  have hreach2:∀ s,Rc f L (Zn f L false v).2 s→s∈O:=fun s hs=>by
   induction hs with
   | base h1 h2=>exact he.closed _ (by rw [he.eq];exact List.mem_append_left _ h1) _ h2
   | @step t p s h1 h2 h3 ih=>exact he.closed _ (by rw [he.eq];exact List.mem_append_right _ (List.mem_flatMap.2 ⟨t,ih,h2⟩)) _ h3
  have hOO:∀ s,s∈O↔s∈O':=fun s=>⟨fun h=>hreach s (he.reach s h).2,fun h=>hreach2 s (all s h).2.2.2.1⟩
  have hbf:bad=false:=by
   rw [he.bad_]
   refine ⟨ok,fun s hs=>(all s ((hOO s).1 hs)).1,fun p hp s hs=>?_⟩
   rw [he.eq] at hp
   rcases List.mem_append.1 hp with hp|hp
   ·exact mem p hp s hs
   ·obtain ⟨t,ht,hp⟩:=List.mem_flatMap.1 hp
    exact memO t ((hOO t).1 ht) p hp s hs
  refine ⟨fun hb=>absurd (hbf.symm.trans hb) (by simp),fun _=>⟨_,y,rfl,?_,fun s hs=>?_⟩⟩
  ·rw [he.eq,List.map_append]
   refine perm.trans (List.Perm.append_left _ ?_)
   rw [List.map_flatMap]
   have hd:∀ {A:List Said},A.Nodup→(∀ s∈A,Zi L s.dig=some s)→(A.map (·.dig)).Nodup:=fun {A} h1 h2=>by
    rw [List.nodup_iff_pairwise_ne,List.pairwise_map]
    refine List.Pairwise.imp_of_mem (fun {a b} ha hb hab e=>hab ?_) (List.nodup_iff_pairwise_ne.1 h1)
    have h3:=h2 a ha
    rw [e,h2 b hb] at h3
    exact (Option.some.inj h3).symm
   have hp:(O'.map (·.dig)).Perm (O.map (·.dig)):=Z7f (hd one fun s hs=>(all s hs).2.2.2.2) (hd he.one fun s hs=>(he.reach s hs).1) fun d=>by
    simp only [List.mem_map,hOO]
   have hback:∀ {A:List Said},(∀ s∈A,Zi L s.dig=some s)→(A.map (·.dig)).filterMap (Zi L)=A:=fun {A} h=>by
    induction A with
    | nil=>rfl
    | cons s A ih =>
     rw [List.map_cons,List.filterMap_cons,h s (List.mem_cons_self ..)]
     simp only
     rw [ih fun t ht=>h t (List.mem_cons_of_mem _ ht)]
   have hq:=hp.filterMap (Zi L)
   rw [hback fun s hs=>(all s hs).2.2.2.2,hback fun s hs=>(he.reach s hs).1] at hq
   exact hq.flatMap_right _
  ·rw [hOO]
   constructor
   ·intro h
    exact closed _ (by simpa using h) s (hfind s hs) (by simp)
   ·intro h
    simpa using (all s h).2.2.1
end Sg
/- The document's small steps: where a disclosure stands in the list, a value by itself. -/
namespace Sg
open Go
instance:Inhabited Said:=⟨⟨[],[],false,[]⟩⟩
structure SdR where
 s:Said
 a:Option Addr
 c:Nat
 deriving Inhabited
def sdV (x:SdR):List Value:=[sV x.s.dig,sV x.s.name,.bool x.s.member,.slice x.a x.s.value.length x.c]
def ZbZ (xs:List SdR) (d:Dg) (z:Int):Prop:=(z = -1∧Zi (xs.map (·.s)) d=none)∨∃ i:Nat,z=(i:Int)∧i < xs.length∧Zi (xs.map (·.s)) d=some (xs.getD i default).s∧(∀ j,j < i→(xs.getD j default).s.dig≠d)
theorem ZaI:∀ {xs:List SdR} {d:Dg} {i:Nat},i < xs.length→(xs.getD i default).s.dig=d→(∀ j,j < i→(xs.getD j default).s.dig≠d)→Zi (xs.map (·.s)) d=some (xs.getD i default).s
 | x::r,d,0,_,h,_=>by
  simp only [List.getD_cons_zero] at h ⊢
  unfold Zi
  rw [List.map_cons,List.find?_cons_of_pos (by simp [h])]
 | x::r,d,i+1,hi,h,hb=>by
  have h0:x.s.dig≠d:=by simpa using hb 0 (by omega)
  have ih:=ZaI (xs:=r) (d:=d) (i:=i) (by simpa using hi) (by simpa using h) fun j hj=>by simpa using hb (j+1) (by omega)
  unfold Zi at ih ⊢
  rw [List.map_cons,List.find?_cons_of_neg (by simp [h0]),ih]
  simp
theorem ZaH:∀ {xs:List SdR} {d:Dg},(∀ j,j < xs.length→(xs.getD j default).s.dig≠d)→Zi (xs.map (·.s)) d=none
 | [],_,_=>rfl
 | x::r,d,h=>by
  have h0:x.s.dig≠d:=by simpa using h 0 (by simp)
  have ih:=ZaH (xs:=r) (d:=d) fun j hj=>by simpa using h (j+1) (by simp;omega)
  unfold Zi at ih ⊢
  rw [List.map_cons,List.find?_cons_of_neg (by simp [h0]),ih]
end Sg
namespace Go.Proofs.YtjajcmedipjfhaaGreatDoor
open Sg Go Go.RowKit Go.IntWalk
set_option maxRecDepth 100000
set_option maxHeartbeats 4000000
class RdS (F:World) (M:List Nat) (H:List Res) (xs:List SdR):Prop where
 h:∀ x∈xs,Rd F M H x.a (x.s.value.flatMap ndV)
section
variable {F:World} {M:List Nat} {H:List Res} {xs:List SdR}
instance RdS.tl {r:Res} [h:RdS F M H xs]:RdS F M (r::H) xs:=⟨fun x hx=>have:=h.h x hx;Rd.tl⟩
theorem Z1L {la:Option Addr} {lc n:Nat} {d:List UInt8} [Rd F M H la (xs.flatMap sdV)] (hn:xs.length=n) (hl:n≤2200000) :
  Meets Tryz.prog 33 [.slice la n lc,sV d] F M H (fun e H'=>∃ z,ZbZ xs d z∧e=.returned (.int .i64 z)∧H'=H):=by
 subst hn
 refine Meets.enter Tryz.func33 rfl rfl ?_
 repeat' (first|refine Sg.Y1 ?_|fail)
 refine S.loopE 0 [0,1] (fun R b' μ H' e=>∃ i:Nat,H'=R∧e=(5,.int .i64 i)::b'∧(i≤xs.length∧∀ j,j < i→(xs.getD j default).s.dig≠d)∧μ=xs.length - i) rfl rfl ?_ _ _ ⟨0,rfl,rfl,⟨Nat.zero_le _,fun j hj=>by omega⟩,rfl⟩ (by repeat' first|exact trivial|refine And.intro rfl ?_)
 rintro _ _ _ ⟨i,rfl,rfl,⟨h1,h2⟩,rfl⟩ ih
 by_cases h3:i < xs.length
 ·by_cases k1:(xs.getD i default).s.dig=d
  ·repeat' (first|refine Sg.Y3 ?_|(apply S.condQ;apply rfl;all_goals intro _)|fail)
   exact ⟨_,PSub.refl _,_,.inr ⟨i,rfl,h3,ZaI h3 k1 h2,h2⟩,rfl,rfl⟩
  ·repeat' (first|refine Sg.Y3 ?_|(apply S.condQ;apply rfl;all_goals intro _)|fail)
   exact ih _ _ _ _ ⟨i+1,rfl,rfl,⟨by omega,fun j hj=>by
    rcases Nat.lt_succ_iff_lt_or_eq.1 hj with hj|rfl
    ·exact h2 j hj
    ·exact k1⟩,rfl⟩ (by omega) (by repeat' first|exact trivial|refine And.intro rfl ?_)
 ·obtain rfl:i=xs.length:=by omega
  repeat' (first|refine Sg.Y3 ?_|(apply S.condQ;apply rfl;all_goals intro _)|fail)
  exact ⟨_,PSub.refl _,_,.inl ⟨rfl,ZaH h2⟩,rfl,rfl⟩
theorem Z9F {v:List Nd} {va:Option Addr} {vc n:Nat} (hR:Rd F M H va (v.flatMap ndV)) (hn:v.length=n) (hl:v.length≤1000000000) :
  Meets Tryz.prog 94 [.slice va n vc] F M H (fun e H'=>∃ oa oc,e=.returned (.slice oa v.length oc)∧H'=noR oa oc v::H):=by
 subst hn
 refine Meets.enter Tryz.func94 rfl rfl ?_
 refine S.nilrow 34 6 ?_
 repeat' (first|(apply Sr.same;refine T.appendAllF (g:=ndV) (xs:=[]) (us:=v) rfl rfl inferInstance inferInstance rfl (fun _=>rfl) (fun _=>rfl) rfl rfl (by constructor<;>omega) rfl ?_;intro oa oc)|refine Sg.Y1 ?_|fail)
 rw [Nat.zero_add,List.nil_append]
 skip
 exact ⟨_,PSub.refl _,oa,oc,rfl,rfl⟩
theorem Z6i {v:List Nd} {va:Option Addr} {vc n p:Nat} [hR:Rd F M H va (v.flatMap ndV)] (hn:v.length=n) (hl:n≤2200000) (ha:IsAt v p) (hcap:n≤vc) :
  Meets Tryz.prog 60 [.slice va n vc,.int .i64 p] F M H (fun e H'=>∃ oa oc,e=.returned (.slice oa (Za v p).length oc)∧H'=noR oa oc (ZJ (Za v p) [])::H):=by
 subst hn
 refine Meets.enter Tryz.func60 rfl rfl ?_
 have hlt:=ha.lt
 obtain ⟨r,hd⟩:=Z2L ha
 have hfo:=Z3e ha
 have hpl:p+(Za v p).length≤v.length:=by
  have:=congrArg List.length hd
  rw [List.length_drop,List.length_append] at this
  omega
 have hpos:=hfo.pos
 have htk:(v.drop p).take (Za v p).length=Za v p:=by rw [hd,List.take_left]
 have hR1:∀ {X:List Res},Rd F M X va (v.flatMap ndV)→Rd F M X (saddr va vc p 6) ((Za v p).flatMap ndV):=fun {X} h=>by
  have h2:=Rd.takeF (g:=ndV) (sz:=6) (Rd.subF (g:=ndV) (sz:=6) h (fun _=>rfl) (cp:=vc) (lo:=p) hcap) (fun _=>rfl) (Za v p).length
  rwa [htk] at h2
 have hvl:=Z5R ha
 repeat' (first|refine Sg.Y1 ?_|fail)
 refine T.call rfl rfl (Z2g (Za v p).length (x:=Za v p) (r:=r) (p:=p) (Nat.le_refl _) rfl hl hfo hd) ?_
 rintro _ _ ⟨rfl,rfl⟩
 generalize hx:Za v p=x at *
 repeat' (first|refine Sg.Y3 ?_|(apply S.condQ;apply rfl;all_goals intro _)|(apply T.gcase;apply rfl;apply rfl;all_goals intro _)|fail)
 rw [Nat.add_sub_cancel_left]
 refine T.call rfl rfl (Z9F (v:=x) (hR1 inferInstance) rfl (by omega)) ?_
 rintro _ _ ⟨oa,oc,rfl,rfl⟩
 obtain ⟨n0,r0,rfl⟩:∃ n0 r0,x=n0::r0:=by
  cases x with
  | nil=>exact absurd hpos (by simp)
  | cons a b=>exact ⟨a,b,rfl⟩
 have hnl:ZJ (n0::r0) []=(n0::r0).set 0 (n0.key_ []):=rfl
 rw [hnl]
 unfold noR
 rw [List.length_set]
 repeat' (first|(apply Sr.same;refine T.ixF (g:=ndV) (sz:=6) (i:=0) (xs:=n0::r0) rfl rfl inferInstance (fun _=>rfl) rfl (by omega) (by omega) rfl ?_)|(apply Sr.same;refine T.storeF (g:=ndV) (xs:=n0::r0) (n0.key_ []) rfl rfl inferInstance (fun _=>rfl) rfl rfl rfl rfl ?_)|refine Sg.Y1 ?_|fail)
 exact ⟨_,PSub.refl _,oa,oc,rfl,rfl⟩
end
end Go.Proofs.YtjajcmedipjfhaaGreatDoor
