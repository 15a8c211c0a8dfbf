/- Texts put together by a program: ShpC RevH. -/
import Derived.Test.YtophlopiigpbgaaGreatDoorMh
import Derived.Test.YtophlopiigpbgaaGreatDoorMb
import Derived.Test.YtophlopiigpbgaaGreatDoorMj
import Derived.Test.YtophlopiigpbgaaGreatDoorMc
import Derived.Test.YtophlopiigpbgaaGreatDoorMg
import Derived.Test.YtophlopiigpbgaaGreatDoorMi
set_option linter.unusedVariables false
set_option linter.unusedSimpArgs false
/- The walk of the program's look at a value: is it well shaped. -/
namespace Go.Proofs.YtophlopiigpbgaaGreatDoor
open Sg Go.IntWalk
set_option maxRecDepth 100000
set_option maxHeartbeats 4000000
section
variable {F:World} {M:List Nat} {H:List Res} {oa:Option Addr} {oc n:Nat} {v:List Nd}
theorem Z04:∀ (st:Stk) (H:List Res),PSub H (ZC st H)
 | [],_=>PSub.refl _
 | (_,none)::r,H=>Z04 r H
 | (_,some _)::r,H=>PSub.drop (Z04 r H)
theorem Z6Y {a:Option Addr} {vs:List Value}:∀ (st:Stk),Rd F M H a vs→Rd F M (ZC st H) a vs
 | [],h=>h
 | (_,none)::r,h=>Z6Y r h
 | (_,some _)::r,h=>have:=Z6Y r h;Rd.tl
instance Rd.maps {st:Stk} {a:Option Addr} {vs:List Value} [h:Rd F M H a vs]:Rd F M (ZC st H) a vs:=Z6Y st h
theorem Z7R:∀ l:List Lv,(popL l).length≤l.length
 | []=>Nat.le_refl _
 | (k,nm)::l=>by
  have:=Z7R l
  unfold popL
  split<;>simp only [List.length_cons]<;>omega
theorem Zbq {k:Nat} {nm:Option (List (List UInt8))} {l:List Lv} (h:popL ((k,nm)::l)=(k,nm)::l):k≠0:=by
 rintro rfl
 rw [Z64] at h
 have:=Z7R l
 rw [h] at this
 simp only [List.length_cons] at this
 omega
def mlen (z:Nat × Option (Nat × Ents)):Nat:=match z.2 with
 | none=>0
 | some y=>y.2.length
abbrev lv2 (n:Nd):Option (List (List UInt8)):=if n.kind=7 then some [] else none
def Z9z (n:Nd) (r:List Nd) (x:Lv) (s:List Lv):Bool:=if ZF n then (if 32 < s.length+1 then false else shM Lib.validD r (popL ((n.kids.toNat,lv2 n)::x::s))) else shM Lib.validD r (popL (x::s))
theorem ZcJ {n:Nd} {r:List Nd} {k:Nat} {nm:Option (List (List UInt8))} {s:List Lv} (hp:Zl Lib.validD n=true):shM Lib.validD (n::r) ((k,nm)::s)=if (nm=none∧n.key≠[])∨hasN nm n.key=true∨Lib.validD n.key=false then false else Z9z n r (k - 1,nm.map (n.key::·)) s:=by
 have h:¬Zl Lib.validD n=false:=by rw [hp];simp
 simp only [shM]
 rw [if_neg h]
 rfl
theorem _root_.Sg.Y15 {P R:Prop} (k:R) (h:Sg.Kp R→P:=by intro k;(first|(apply T.sadd;apply rfl;apply rfl;(first|omega|(simp only [List.length_append,List.length_cons,List.length_nil];omega));apply rfl)|(apply T.sadd;apply rfl;apply rfl;decide;apply rfl)|(apply T.nilCheckS;apply rfl;apply rfl)|(apply T.fieldAddrS;apply rfl;apply rfl)|(apply T.convBU64;apply rfl;apply rfl)|(apply T.sslice;(iterate 3 apply rfl);omega;apply rfl)|(apply T.ixN;apply rfl;apply rfl;infer_instance;omega;(first|omega|(simp only [List.length_map];omega)|(simp;omega));apply rfl)|(apply T.mapLook;apply rfl;apply rfl;infer_instance;(first|assumption|(simp only [maxLen];omega)|omega);apply rfl)|(apply T.convS;apply rfl;infer_instance;(first|rfl|assumption|exact beN_len _ _|(simp;done)|(simp;omega));apply rfl)|(apply T.neqP;apply rfl;apply rfl)|(apply T.neqP0;apply rfl;apply rfl)|(apply T.mv;apply rfl;apply rfl)|(apply T.asn;apply rfl;apply rfl)|(apply T.len;apply rfl;apply rfl)|(apply T.nilCheck;apply rfl;apply rfl)|(apply T.fieldAddrZ;apply rfl;apply rfl)|(apply T.load;apply rfl;apply rfl;infer_instance;apply rfl;apply rfl)|(apply T.lss;(iterate 3 apply rfl))|(apply T.eql;(iterate 3 apply rfl))|(apply T.addI;apply rfl;apply rfl;omega;apply rfl)|(apply T.extract;(iterate 3 apply rfl))|(apply T.ixF;apply rfl;apply rfl;infer_instance;exact (fun _=>rfl);apply rfl;omega;omega;apply rfl)|(apply T.fieldAddrF;apply rfl;infer_instance;exact (fun _=>rfl);apply rfl;omega;apply rfl)|(apply T.loadF;apply rfl;apply rfl;infer_instance;exact (fun _=>rfl);apply rfl;exact Zf (by omega);apply rfl;apply rfl)|(apply T.notB;apply rfl;apply rfl)|(apply T.pickT;(iterate 3 apply rfl))|(apply T.pickF;(iterate 3 apply rfl))|(apply T.buildL;(iterate 3 apply rfl))|(apply T.loadW;apply rfl;apply rfl;infer_instance;(first|rfl|(simp only [List.length_append,List.length_map,List.length_set,List.length_replicate,List.length_cons,List.length_nil];first|done|omega));apply rfl)|(apply T.sliceLC;apply rfl;omega;apply rfl)|(apply T.storeW;apply rfl;apply rfl;infer_instance;(first|rfl|(simp only [List.length_append,List.length_map,List.length_set,List.length_replicate,List.length_cons,List.length_nil];first|done|omega));(first|rfl|(simp only [List.length_append,List.length_map,List.length_set,List.length_replicate,List.length_cons,List.length_nil];first|done|omega));(first|rfl|(repeat' first|apply all_nV|apply Z11|apply all_iV|rfl|apply all_app)))|(apply T.store;apply rfl;apply rfl;infer_instance;(first|decide|(simp;omega)|simp);apply rfl)|(with_reducible refine Sr.nil ?_)|(with_reducible refine S.reg ?_)|(with_reducible refine S.skip ?_)|(with_reducible refine S.inBlock ?_)|(apply S.exit;apply rfl)|(apply T.ungV;apply rfl;(first|with_reducible rfl|decide))|(apply T.skip;apply rfl;(first|with_reducible rfl|decide);apply rfl)|(apply S.condTV;apply rfl;(first|with_reducible rfl|decide))|(apply S.condFV;apply rfl;(first|with_reducible rfl|decide))|(apply T.retW;apply rfl)|(apply T.doneW;apply rfl)|(with_reducible apply T.diesW)|(with_reducible apply T.ofRet)|(with_reducible apply T.ofPan)|(apply T.retC;apply rfl;((repeat' first|apply RV.nil|(apply RV.tmp;apply rfl)|(apply RV.cellW;apply rfl;apply rfl;infer_instance;(first|rfl|(simp only [List.length_append,List.length_map,List.length_set,List.length_replicate,List.length_cons,List.length_nil];first|done|omega)))|(apply RV.cellP;apply rfl;apply rfl;infer_instance;apply rfl)));apply rfl)|(apply SA.en;apply rfl;apply rfl;kernel_rfl)|fail);exact k.h):P:=h ⟨k⟩
theorem _root_.Sg.Y16 {P R:Prop} (k:R) (h:Sg.Kp R→P:=by intro k;(first|(apply T.sadd;apply rfl;apply rfl;(first|omega|(simp only [List.length_append,List.length_cons,List.length_nil];omega));apply rfl)|(apply T.nilCheckS;apply rfl;apply rfl)|(apply T.fieldAddrS;apply rfl;apply rfl)|(apply T.orU64;apply rfl;apply rfl;omega;omega;apply rfl)|((with_reducible apply T.mulNK 3);apply rfl;apply rfl;omega;apply rfl)|((with_reducible apply T.addKN 2);apply rfl;apply rfl;omega;apply rfl)|((with_reducible apply T.mulNK 4);apply rfl;apply rfl;omega;apply rfl)|(apply T.sadd;apply rfl;apply rfl;omega;apply rfl)|(apply T.sslice;(iterate 3 apply rfl);omega;apply rfl)|(apply T.mapLook;apply rfl;apply rfl;infer_instance;(first|assumption|(simp only [maxLen];omega)|omega);apply rfl)|(apply T.seql;(iterate 3 apply rfl))|(apply T.slen;apply rfl;apply rfl)|(apply T.sidx;apply rfl;apply rfl;omega;apply rfl)|(apply T.convS;apply rfl;infer_instance;(first|rfl|assumption|exact beN_len _ _|(simp;done)|(simp;omega));apply rfl)|(apply T.eqlP;apply rfl;apply rfl)|(apply T.eqlP0;apply rfl;apply rfl)|(apply T.neqP0;apply rfl;apply rfl)|(apply T.mapLook0;apply rfl;apply rfl;(first|assumption|(simp only [maxLen];omega)|omega);apply rfl)|(apply T.eqlM;apply rfl;apply rfl)|(apply T.eqlM0;apply rfl;apply rfl)|(apply T.neqM;apply rfl;apply rfl)|(apply T.neqM0;apply rfl;apply rfl)|(apply T.ptrLook;apply rfl;apply rfl;infer_instance;(first|assumption|(simp only [maxLen];omega)|omega);apply rfl)|(apply T.mv;apply rfl;apply rfl)|(apply T.asn;apply rfl;apply rfl)|(apply T.len;apply rfl;apply rfl)|(apply T.nilCheck;apply rfl;apply rfl)|(apply T.fieldAddrZ;apply rfl;apply rfl)|(apply T.load;apply rfl;apply rfl;infer_instance;apply rfl;apply rfl)|(apply T.lss;(iterate 3 apply rfl))|(apply T.gtr;(iterate 3 apply rfl))|(apply T.geq;(iterate 3 apply rfl))|(apply T.eql;(iterate 3 apply rfl))|(apply T.neq;(iterate 3 apply rfl))|(apply T.addI;apply rfl;apply rfl;omega;apply rfl)|(apply T.subI;apply rfl;apply rfl;omega;apply rfl)|(apply T.extract;(iterate 3 apply rfl))|(apply T.ixC;apply rfl;infer_instance;omega;(first|omega|(simp only [List.length_map];omega)|(simp;omega));apply rfl)|(apply T.ixF;apply rfl;apply rfl;infer_instance;exact (fun _=>rfl);apply rfl;omega;omega;apply rfl)|(apply T.fieldAddrF;apply rfl;infer_instance;exact (fun _=>rfl);apply rfl;omega;apply rfl)|(apply T.loadF;apply rfl;apply rfl;infer_instance;exact (fun _=>rfl);apply rfl;exact Zf (by omega);apply rfl;apply rfl)|(apply T.loadFN;apply rfl;apply rfl;infer_instance;exact (fun _=>rfl);apply rfl;exact Zf (by omega);apply rfl)|(apply T.loadB;apply rfl;infer_instance;omega;apply rfl)|(apply T.not;apply rfl;apply rfl)|(apply T.notB;apply rfl;apply rfl)|(apply T.pickT;(iterate 3 apply rfl))|(apply T.pickF;(iterate 3 apply rfl))|(apply T.buildL;(iterate 3 apply rfl))|(apply T.loadW;apply rfl;apply rfl;infer_instance;(first|rfl|(simp only [List.length_append,List.length_map,List.length_set,List.length_replicate,List.length_cons,List.length_nil];first|done|omega));apply rfl)|(apply T.sliceHK;apply rfl;apply rfl;omega;apply rfl)|(apply T.assert;(iterate 4 apply rfl))|(apply T.neqIf;apply rfl;apply rfl)|(apply T.neqNil;apply rfl;apply rfl)|(apply T.storeW;apply rfl;apply rfl;infer_instance;(first|rfl|(simp only [List.length_append,List.length_map,List.length_set,List.length_replicate,List.length_cons,List.length_nil];first|done|omega));(first|rfl|(simp only [List.length_append,List.length_map,List.length_set,List.length_replicate,List.length_cons,List.length_nil];first|done|omega));(first|rfl|(repeat' first|apply all_nV|apply Z11|apply all_iV|rfl|apply all_app)))|(apply T.store;apply rfl;apply rfl;infer_instance;(first|decide|(simp;omega)|simp);apply rfl)|(apply T.makeI;(iterate 3 apply rfl))|(with_reducible refine Sr.nil ?_)|(with_reducible refine S.seq ?_)|(with_reducible refine S.block ?_)|(with_reducible refine S.reg ?_)|(with_reducible refine S.skip ?_)|(with_reducible refine S.inBlock ?_)|(apply S.exit;apply rfl)|(apply S.quiet;apply rfl;kernel_rfl)|(apply T.ungV;apply rfl;(first|with_reducible rfl|decide))|(apply T.skip;apply rfl;(first|with_reducible rfl|decide);apply rfl)|(apply T.skipU;apply rfl;apply rfl)|(apply S.condTV;apply rfl;(first|with_reducible rfl|decide))|(apply S.condFV;apply rfl;(first|with_reducible rfl|decide))|(apply T.retW;apply rfl)|(apply T.doneW;apply rfl)|(with_reducible apply T.ofRet)|(apply T.retC;apply rfl;((repeat' first|apply RV.nil|(apply RV.tmp;apply rfl)|(apply RV.cellW;apply rfl;apply rfl;infer_instance;(first|rfl|(simp only [List.length_append,List.length_map,List.length_set,List.length_replicate,List.length_cons,List.length_nil];first|done|omega)))|(apply RV.cellP;apply rfl;apply rfl;infer_instance;apply rfl)));apply rfl)|(apply SA.en;apply rfl;apply rfl;kernel_rfl)|(apply T.ung;apply rfl)|fail);exact k.h):P:=h ⟨k⟩
theorem _root_.Sg.Y17 {P R:Prop} (k:R) (h:Sg.Kp R→P:=by intro k;(first|(apply T.sadd;apply rfl;apply rfl;(first|omega|(simp only [List.length_append,List.length_cons,List.length_nil];omega));apply rfl)|(apply T.fieldAddrS;apply rfl;apply rfl)|(apply T.convBU64;apply rfl;apply rfl)|(apply T.loadE;apply rfl;apply rfl;infer_instance;apply rfl;apply rfl)|(apply T.convM;apply rfl;apply rfl)|(apply T.convI32;apply rfl;omega;apply rfl)|(apply T.ixN;apply rfl;apply rfl;infer_instance;omega;(first|omega|(simp only [List.length_map];omega)|(simp;omega));apply rfl)|(apply T.convU32;apply rfl;omega;apply rfl)|(apply T.mapLook;apply rfl;apply rfl;infer_instance;(first|assumption|(simp only [maxLen];omega)|omega);apply rfl)|(apply T.seql;(iterate 3 apply rfl))|(apply T.sneq;(iterate 3 apply rfl))|(apply T.slen;apply rfl;apply rfl)|(apply T.sidx;apply rfl;apply rfl;omega;apply rfl)|(apply T.loadS;apply rfl;infer_instance;(first|omega|(simp only [List.length_map];omega));apply rfl)|(apply T.convS;apply rfl;infer_instance;(first|rfl|assumption|exact beN_len _ _|(simp;done)|(simp;omega));apply rfl)|(apply T.mv;apply rfl;apply rfl)|(apply T.asn;apply rfl;apply rfl)|(apply T.len;apply rfl;apply rfl)|(apply T.nilCheck;apply rfl;apply rfl)|(apply T.fieldAddrZ;apply rfl;apply rfl)|(apply T.load;apply rfl;apply rfl;infer_instance;apply rfl;apply rfl)|(apply T.lss;(iterate 3 apply rfl))|(apply T.leq;(iterate 3 apply rfl))|(apply T.gtr;(iterate 3 apply rfl))|(apply T.geq;(iterate 3 apply rfl))|(apply T.eql;(iterate 3 apply rfl))|(apply T.neq;(iterate 3 apply rfl))|(apply T.addI;apply rfl;apply rfl;omega;apply rfl)|(apply T.subI;apply rfl;apply rfl;omega;apply rfl)|(apply T.extract;(iterate 3 apply rfl))|(apply T.ixC;apply rfl;infer_instance;omega;(first|omega|(simp only [List.length_map];omega)|(simp;omega));apply rfl)|(apply T.ixK;apply rfl;apply rfl;infer_instance;decide;decide;apply rfl)|(apply T.ixF;apply rfl;apply rfl;infer_instance;exact (fun _=>rfl);apply rfl;omega;omega;apply rfl)|(apply T.fieldAddrF;apply rfl;infer_instance;exact (fun _=>rfl);apply rfl;omega;apply rfl)|(apply T.ixAZ;apply rfl;apply rfl;omega;apply rfl)|(apply T.ixA;apply rfl;apply rfl;omega;apply rfl)|(apply T.loadF;apply rfl;apply rfl;infer_instance;exact (fun _=>rfl);apply rfl;exact Zf (by omega);apply rfl;apply rfl)|(apply T.loadFN;apply rfl;apply rfl;infer_instance;exact (fun _=>rfl);apply rfl;exact Zf (by omega);apply rfl)|(apply T.loadB;apply rfl;infer_instance;omega;apply rfl)|(apply T.loadI;apply rfl;infer_instance;omega;apply rfl)|(apply T.loadNat;apply rfl;infer_instance;(first|omega|(simp only [List.length_map];omega)|(simp;omega));apply rfl)|(apply T.notB;apply rfl;apply rfl)|(apply T.pickT;(iterate 3 apply rfl))|(apply T.pickF;(iterate 3 apply rfl))|(apply T.convI64;apply rfl;omega;apply rfl)|(apply T.convU64;apply rfl;omega;apply rfl)|(apply T.remI64;apply rfl;apply rfl;omega;apply rfl)|(apply T.buildL;(iterate 3 apply rfl))|(apply T.buildAL;(iterate 3 apply rfl))|(apply T.loadW;apply rfl;apply rfl;infer_instance;(first|rfl|(simp only [List.length_append,List.length_map,List.length_set,List.length_replicate,List.length_cons,List.length_nil];first|done|omega));apply rfl)|(apply T.sliceLK;apply rfl;apply rfl;omega;apply rfl)|(apply T.sliceHK;apply rfl;apply rfl;omega;apply rfl)|(apply T.storeW;apply rfl;apply rfl;infer_instance;(first|rfl|(simp only [List.length_append,List.length_map,List.length_set,List.length_replicate,List.length_cons,List.length_nil];first|done|omega));(first|rfl|(simp only [List.length_append,List.length_map,List.length_set,List.length_replicate,List.length_cons,List.length_nil];first|done|omega));(first|rfl|(repeat' first|apply all_nV|apply Z11|apply all_iV|rfl|apply all_app)))|(apply T.store;apply rfl;apply rfl;infer_instance;(first|decide|(simp;omega)|simp);apply rfl)|(apply S.deferM;apply rfl;apply rfl)|(with_reducible refine Sr.nil ?_)|(with_reducible refine S.seq ?_)|(with_reducible refine S.block ?_)|(with_reducible refine S.reg ?_)|(with_reducible refine S.skip ?_)|(with_reducible refine S.inBlock ?_)|(apply S.exit;apply rfl)|(apply S.quiet;apply rfl;kernel_rfl)|(apply T.ungV;apply rfl;(first|with_reducible rfl|decide))|(apply T.skip;apply rfl;(first|with_reducible rfl|decide);apply rfl)|(apply T.skipU;apply rfl;apply rfl)|(apply S.condTV;apply rfl;(first|with_reducible rfl|decide))|(apply S.condFV;apply rfl;(first|with_reducible rfl|decide))|(apply T.retW;apply rfl)|(apply T.doneW;apply rfl)|(with_reducible apply T.ofRet)|(apply T.retC;apply rfl;((repeat' first|apply RV.nil|(apply RV.tmp;apply rfl)|(apply RV.cellW;apply rfl;apply rfl;infer_instance;(first|rfl|(simp only [List.length_append,List.length_map,List.length_set,List.length_replicate,List.length_cons,List.length_nil];first|done|omega)))|(apply RV.cellP;apply rfl;apply rfl;infer_instance;apply rfl)));apply rfl)|(apply SA.en;apply rfl;apply rfl;kernel_rfl)|(apply S.condQ;apply rfl;intro _;rotate_left;intro _;exfalso;(first|omega|with_reducible contradiction))|(apply S.condQ;apply rfl;intro _;exfalso;(first|omega|with_reducible contradiction);intro _)|(apply T.gcase;apply rfl;apply rfl;intro _;rotate_left;intro _;exfalso;(first|omega|with_reducible contradiction))|(apply T.gcase;apply rfl;apply rfl;intro _;exfalso;(first|omega|with_reducible contradiction);intro _)|fail);exact k.h):P:=h ⟨k⟩
theorem Z1n (hT:Tabs F M) [Rd F M H oa (v.flatMap ndV)] (hn:v.length=n) (hl:n≤2200000) (htx:∀ x∈v,(x.kind=4→x.text.length≤2200000)∧x.text.length≤9223372036854775807∧x.key.length≤2200000∧x.kids≤9223372036854775807) :
  Meets Tryz.prog 21 [.slice oa n oc] F M H (fun e H'=>e=.returned (.bool (ZG Lib.validD v))∧H'=H):=by
 subst hn
 refine Meets.enter Tryz.func21 rfl rfl ?_
 unfold ZG
 generalize hQ:shM Lib.validD v [(1,none)]=Q
 repeat' (first|(apply T.bsL;(iterate 5 apply rfl);intro nb)|refine Sg.Y1 ?_|fail)
 refine S.rowOfN (n:=1) (sz:=2) rfl (by decide) ?_
 refine S.loopE 1 [10,11] (fun R b' μ H' e=>∃ (i:Nat) (a:Option Addr) (cp k:Nat) (st:Stk) (l:List Lv),H'=.row a cp 98 2 k (st.reverse.flatMap lvV)::ZC st R∧e=(3,.slice a k cp)::(12,.int .i64 i)::b'∧(i≤v.length∧k=st.length∧k≤33∧(∀ z∈st,z.1≤9223372036854775807∧mlen z≤i)∧LvOf st l∧popL l=l∧shM Lib.validD (v.drop i) l=Q)∧μ=v.length - i) rfl rfl ?_ _ _ ⟨0,_,_,1,[(1,none)],[(1,none)],rfl,rfl,⟨Nat.zero_le _,rfl,by decide,by simp [mlen],.list .nil,rfl,hQ⟩,rfl⟩ (by repeat' first|exact trivial|refine And.intro rfl ?_)
 rintro _ _ _ ⟨i,a,cp,k,st,l,rfl,rfl,⟨h1,h2,h3,hb,h4,h5,h6⟩,rfl⟩ ih
 by_cases h7:i < v.length
 ·have e1:v.drop i=v.getD i default::v.drop (i+1):=by
   rw [List.drop_eq_getElem_cons h7,List.getD_eq_getElem?_getD,List.getElem?_eq_getElem h7,Option.getD_some]
  have hx:=htx (v.getD i default) (by rw [List.getD_eq_getElem?_getD,List.getElem?_eq_getElem h7,Option.getD_some];exact List.getElem_mem h7)
  rw [e1] at h6
  obtain ⟨x1,x2,x3,x4⟩:=hx
  cases st with
  | nil =>
   cases h4
   have h8:Q=false:=by rw [←h6];rfl
   subst h8
   subst h2
   repeat' (first|(apply T.alloc;apply rfl;intro nb)|refine Sg.Y3 ?_|(apply S.condQ;apply rfl;all_goals intro _)|fail)
   exact ⟨_,PSub.drop (PSub.drop (Z04 _ _)),rfl,rfl⟩
  | cons y s =>
   refine S.rowSome (by rw [h2];simp) ?_
   rintro g rfl
   have hs:(y::s).length=s.length+1:=rfl
   cases hp:Zl Lib.validD (v.getD i default) with
   | false =>
    have h9:Q=false:=by
     rw [←h6]
     cases l with
     | nil=>rfl
     | cons z r=>simp only [shM];rw [if_pos hp]
    subst h9
    subst h2
    repeat' (first|(apply T.alloc;apply rfl;intro nb)|refine Sg.Y3 ?_|(apply S.condQ;apply rfl;all_goals intro _)|(apply T.gcase;apply rfl;apply rfl;all_goals intro _)|fail)
    refine T.call rfl rfl (Z4Q hT x1 x2) ?_
    rintro _ _ ⟨rfl,rfl⟩
    rw [hp]
    repeat' (first|refine Sg.Y1 ?_|fail)
    exact ⟨_,PSub.drop (PSub.drop (Z04 _ _)),rfl,rfl⟩
   | true =>
    subst h2
    obtain ⟨k0,y2⟩:=y
    obtain ⟨nm,l',rfl,hs',hrel⟩:=h4.inv
    dsimp only at hrel h5 h6
    have hk:=Zbq h5
    obtain ⟨hb0,hml⟩:k0≤9223372036854775807∧mlen (k0,y2)≤i:=hb (k0,y2) (List.mem_cons_self ..)
    have hbs:∀ z∈s,z.1≤9223372036854775807∧mlen z≤i:=fun z hz=>hb z (List.mem_cons_of_mem _ hz)
    have hsl:=hs'.len
    rw [ZcJ hp] at h6
    clear hb
    have hrl:((k0,y2)::s:Stk).reverse.length=s.length+1:=by rw [List.length_reverse,hs]
    have hget:((k0,y2)::s:Stk).reverse[s.length]?=some (k0,y2):=by simp
    have i1:((((k0,y2)::s:Stk).length:Nat):Int) - 1=(s.length:Nat):=by rw [hs];omega
    have i2:((k0:Nat):Int) - 1=((k0 - 1:Nat):Int):=by omega
    have hset:((k0,y2)::s:Stk).reverse.set s.length (k0 - 1,y2)=((k0 - 1,y2)::s:Stk).reverse:=by
     rw [List.reverse_cons,List.reverse_cons,List.set_append_right _ _ (by simp)]
     simp
    have hget2:((k0 - 1,y2)::s:Stk).reverse[s.length]?=some (k0 - 1,y2):=by simp
    have hrl2:((k0 - 1,y2)::s:Stk).reverse.length=s.length+1:=by simp
    generalize hnd:v.getD i default=nd0 at *
    repeat' (first|(apply T.alloc;apply rfl;intro nb)|refine Sg.Y3 ?_|(apply S.condQ;apply rfl;all_goals intro _)|(apply T.gcase;apply rfl;apply rfl;all_goals intro _)|fail)
    rw [hnd]
    refine T.call rfl rfl (Z4Q hT x1 x2) ?_
    rintro _ _ ⟨rfl,rfl⟩
    rw [hp]
    repeat' (first|refine Sg.Y2 ?_|fail)
    refine S.seq ?_
    repeat' (first|(apply T.subI;apply rfl;apply rfl;(first|omega|(dsimp only;omega));apply rfl;(first|rw [i1]|rw [i2]))|refine Sg.Y2 ?_|fail)
    refine S.seq ?_
    repeat' (first|(apply T.subI;apply rfl;apply rfl;(first|omega|(dsimp only;omega));apply rfl;(first|rw [i1]|rw [i2]))|(refine T.storeF (g:=lvV) (k0 - 1,y2) rfl rfl inferInstance (fun _=>rfl) rfl hget rfl rfl ?_;rw [hset])|(refine T.loadF (g:=lvV) (v:=.int .i64 (k0:Int)) rfl rfl inferInstance (fun _=>rfl) rfl hget rfl rfl ?_)|refine Sg.Y15 ?_|fail)
    refine S.seq ?_
    refine S.cut (fun H' e'=>∃ (z:Nat × Option (Nat × Ents)) (lv0:Lv),H'=.blk nb (ndV nd0) 34::.row (some ⟨g,0,none⟩) cp 98 2 (s.length+1) ((z::s:Stk).reverse.flatMap lvV)::ZC (z::s) H ∧
     e'=[(3,.slice (some ⟨g,0,none⟩) (s.length+1) cp),(5,.pointer (some ⟨nb,0,none⟩)),(10,.slice oa v.length oc),(11,.int .i64 v.length),(12,.int .i64 i)]∧z.1≤9223372036854775807∧mlen z≤i+1∧LvOf (z::s) (lv0::l')∧Z9z nd0 (v.drop (i+1)) lv0 l'=Q) ?_ ?_
    ·intro k' hrest
     rcases hrel with ⟨rfl,rfl⟩|⟨b,m,ns,rfl,rfl,hkn⟩
     ·dsimp only [ZC]
      by_cases hkey:nd0.key=[]
      ·have hvk:Lib.validD nd0.key=true:=by rw [hkey];rfl
       have hk2:decide (¬nd0.key=[])=false:=by simp [hkey]
       rw [if_neg (by rw [hvk];simp [hkey,hasN])] at h6
       repeat' (first|with_reducible refine S.seq ?_|with_reducible refine S.block ?_|fail)
       (apply S.draw;(case Hs=>exact .blk nb (ndV nd0) 34::.row (some ⟨g,0,none⟩) cp 98 2 ((k0,none)::s:Stk).length (((k0 - 1,none)::s:Stk).reverse.flatMap lvV)::ZC s H);(case es=>exact  [23]);(case n=>exact  27);(case hn=>rfl))
       repeat' (first|(apply T.sneq;(iterate 3 apply rfl);rw [hk2])|(apply Sr.same;refine T.loadF (g:=lvV) (v:=.map none) rfl rfl inferInstance (fun _=>rfl) rfl hget2 rfl rfl ?_)|(apply Sr.same;refine T.call rfl rfl (Z06 hT (by omega)) ?_;rintro _ _ ⟨rfl,rfl⟩;rw [hvk])|(apply SA.gz;(iterate 4 apply rfl);(first|with_reducible rfl|decide);apply rfl;kernel_rfl)|(apply SA.gn;(iterate 4 apply rfl);(first|with_reducible rfl|decide);apply rfl;kernel_rfl)|(apply SA.qn;(iterate 4 apply rfl);kernel_rfl)|(apply SA.qz;(iterate 4 apply rfl);kernel_rfl)|(apply SA.done;apply rfl;kernel_rfl)|(apply SK.intro;(first|exact fun _ h=>h|exact fun _ h=>St.psub h (by ((repeat (first|dsimp only [List.set_cons_zero]|dsimp only [List.set_cons_succ]));repeat' first|exact PSub.refl _|exact PSub.nil|(apply PSub.take;(repeat' first|(with_reducible exact Z0)|(with_reducible apply Z1)))|(with_reducible apply PSub.drop)|((apply PSub.take);(repeat' first|exact Z0|(apply Z1)))))))|refine Sg.Y16 ?_|fail)
       all_goals
        skip
        exact hrest _ _ _ ⟨(k0 - 1,none),(k0 - 1,none),rfl,rfl,by omega,by simp [mlen],.list hs',h6⟩ (by repeat' first|exact trivial|refine And.intro rfl ?_)
      ·have hk2:decide (¬nd0.key=[])=true:=by simp [hkey]
       rw [if_pos (.inl ⟨rfl,hkey⟩)] at h6
       subst h6
       repeat' (first|with_reducible refine S.seq ?_|with_reducible refine S.block ?_|fail)
       (apply S.draw;(case Hs=>exact .blk nb (ndV nd0) 34::.row (some ⟨g,0,none⟩) cp 98 2 ((k0,none)::s:Stk).length (((k0 - 1,none)::s:Stk).reverse.flatMap lvV)::ZC s H);(case es=>exact  [23]);(case n=>exact  27);(case hn=>rfl))
       repeat' (first|(apply T.sneq;(iterate 3 apply rfl);rw [hk2])|(apply Sr.same;refine T.loadF (g:=lvV) (v:=.map none) rfl rfl inferInstance (fun _=>rfl) rfl hget2 rfl rfl ?_)|(apply SA.gxv;(iterate 5 apply rfl);kernel_rfl;apply rfl)|(apply SA.gz;(iterate 4 apply rfl);(first|with_reducible rfl|decide);apply rfl;kernel_rfl)|(apply SA.gn;(iterate 4 apply rfl);(first|with_reducible rfl|decide);apply rfl;kernel_rfl)|(apply SA.qn;(iterate 4 apply rfl);kernel_rfl)|(apply SA.qz;(iterate 4 apply rfl);kernel_rfl)|(apply SA.done;apply rfl;kernel_rfl)|(apply SK.intro;(first|exact fun _ h=>h|exact fun _ h=>St.psub h (by ((repeat (first|dsimp only [List.set_cons_zero]|dsimp only [List.set_cons_succ]));repeat' first|exact PSub.refl _|exact PSub.nil|(apply PSub.take;(repeat' first|(with_reducible exact Z0)|(with_reducible apply Z1)))|(with_reducible apply PSub.drop)|((apply PSub.take);(repeat' first|exact Z0|(apply Z1)))))))|refine Sg.Y16 ?_|fail)
       all_goals
        skip
        exact ⟨_,PSub.drop (PSub.drop (Z04 _ _)),rfl,rfl⟩
     ·dsimp only [ZC]
      have hml2:m.length≤i:=hml
      by_cases hmem:nd0.key∈ns
      ·have hg:(eget m nd0.key).getD 0=1:=by rw [hkn,if_pos hmem]
       rw [if_pos (.inr (.inl (by simp [hasN,hmem])))] at h6
       subst h6
       repeat' (first|with_reducible refine S.seq ?_|with_reducible refine S.block ?_|fail)
       (apply S.draw;(case Hs=>exact .blk nb (ndV nd0) 34::.row (some ⟨g,0,none⟩) cp 98 2 ((k0,some (b,m))::s:Stk).length (((k0 - 1,some (b,m))::s:Stk).reverse.flatMap lvV)::mpR b m::ZC s H);(case es=>exact  [23]);(case n=>exact  27);(case hn=>rfl))
       repeat' (first|(apply Sr.same;refine T.loadF (g:=lvV) (v:=.map (some b)) rfl rfl inferInstance (fun _=>rfl) rfl hget2 rfl rfl ?_)|(apply T.mapLook;apply rfl;apply rfl;infer_instance;(simp only [maxLen];omega);apply rfl;rw [hg])|(apply SA.gxv;(iterate 5 apply rfl);kernel_rfl;apply rfl)|(apply SA.gz;(iterate 4 apply rfl);(first|with_reducible rfl|decide);apply rfl;kernel_rfl)|(apply SA.gn;(iterate 4 apply rfl);(first|with_reducible rfl|decide);apply rfl;kernel_rfl)|(apply SA.qn;(iterate 4 apply rfl);kernel_rfl)|(apply SA.qz;(iterate 4 apply rfl);kernel_rfl)|(apply SA.done;apply rfl;kernel_rfl)|(apply SK.intro;(first|exact fun _ h=>h|exact fun _ h=>St.psub h (by ((repeat (first|dsimp only [List.set_cons_zero]|dsimp only [List.set_cons_succ]));repeat' first|exact PSub.refl _|exact PSub.nil|(apply PSub.take;(repeat' first|(with_reducible exact Z0)|(with_reducible apply Z1)))|(with_reducible apply PSub.drop)|((apply PSub.take);(repeat' first|exact Z0|(apply Z1)))))))|refine Sg.Y16 ?_|fail)
       all_goals
        skip
        exact ⟨_,PSub.drop (PSub.drop (PSub.drop (Z04 _ _))),rfl,rfl⟩
      ·have hg:(eget m nd0.key).getD 0=0:=by rw [hkn,if_neg hmem]
       cases hvk:Lib.validD nd0.key with
       | false =>
        rw [if_pos (.inr (.inr hvk))] at h6
        subst h6
        repeat' (first|with_reducible refine S.seq ?_|with_reducible refine S.block ?_|fail)
        (apply S.draw;(case Hs=>exact .blk nb (ndV nd0) 34::.row (some ⟨g,0,none⟩) cp 98 2 ((k0,some (b,m))::s:Stk).length (((k0 - 1,some (b,m))::s:Stk).reverse.flatMap lvV)::mpR b m::ZC s H);(case es=>exact  [23]);(case n=>exact  27);(case hn=>rfl))
        repeat' (first|(apply Sr.same;refine T.loadF (g:=lvV) (v:=.map (some b)) rfl rfl inferInstance (fun _=>rfl) rfl hget2 rfl rfl ?_)|(apply T.mapLook;apply rfl;apply rfl;infer_instance;(simp only [maxLen];omega);apply rfl;rw [hg])|(apply Sr.same;refine T.call rfl rfl (Z06 hT (by omega)) ?_;rintro _ _ ⟨rfl,rfl⟩;rw [hvk])|(apply SA.gxv;(iterate 5 apply rfl);kernel_rfl;apply rfl)|(apply SA.gz;(iterate 4 apply rfl);(first|with_reducible rfl|decide);apply rfl;kernel_rfl)|(apply SA.gn;(iterate 4 apply rfl);(first|with_reducible rfl|decide);apply rfl;kernel_rfl)|(apply SA.qn;(iterate 4 apply rfl);kernel_rfl)|(apply SA.qz;(iterate 4 apply rfl);kernel_rfl)|(apply SA.done;apply rfl;kernel_rfl)|(apply SK.intro;(first|exact fun _ h=>h|exact fun _ h=>St.psub h (by ((repeat (first|dsimp only [List.set_cons_zero]|dsimp only [List.set_cons_succ]));repeat' first|exact PSub.refl _|exact PSub.nil|(apply PSub.take;(repeat' first|(with_reducible exact Z0)|(with_reducible apply Z1)))|(with_reducible apply PSub.drop)|((apply PSub.take);(repeat' first|exact Z0|(apply Z1)))))))|refine Sg.Y16 ?_|fail)
        all_goals
         skip
         exact ⟨_,PSub.drop (PSub.drop (PSub.drop (Z04 _ _))),rfl,rfl⟩
       | true =>
        rw [if_neg (by rw [hvk];simp [hasN,hmem])] at h6
        have hel:=Z0O m nd0.key 1
        repeat' (first|with_reducible refine S.seq ?_|with_reducible refine S.block ?_|fail)
        (apply S.draw;(case Hs=>exact .blk nb (ndV nd0) 34::.row (some ⟨g,0,none⟩) cp 98 2 ((k0,some (b,m))::s:Stk).length (((k0 - 1,some (b,m))::s:Stk).reverse.flatMap lvV)::mpR b m::ZC s H);(case es=>exact  [23]);(case n=>exact  27);(case hn=>rfl))
        repeat' (first|(apply Sr.same;refine T.loadF (g:=lvV) (v:=.map (some b)) rfl rfl inferInstance (fun _=>rfl) rfl hget2 rfl rfl ?_)|(apply T.mapLook;apply rfl;apply rfl;infer_instance;(simp only [maxLen];omega);apply rfl;rw [hg])|(apply Sr.same;refine T.call rfl rfl (Z06 hT (by omega)) ?_;rintro _ _ ⟨rfl,rfl⟩;rw [hvk])|(apply SA.gxv;(iterate 5 apply rfl);kernel_rfl;apply rfl)|(apply SA.gz;(iterate 4 apply rfl);(first|with_reducible rfl|decide);apply rfl;kernel_rfl)|(apply SA.gn;(iterate 4 apply rfl);(first|with_reducible rfl|decide);apply rfl;kernel_rfl)|(apply SA.qn;(iterate 4 apply rfl);kernel_rfl)|(apply SA.qz;(iterate 4 apply rfl);kernel_rfl)|(apply SA.done;apply rfl;kernel_rfl)|(apply SK.intro;(first|exact fun _ h=>h|exact fun _ h=>St.psub h (by ((repeat (first|dsimp only [List.set_cons_zero]|dsimp only [List.set_cons_succ]));repeat' first|exact PSub.refl _|exact PSub.nil|(apply PSub.take;(repeat' first|(with_reducible exact Z0)|(with_reducible apply Z1)))|(with_reducible apply PSub.drop)|((apply PSub.take);(repeat' first|exact Z0|(apply Z1)))))))|refine Sg.Y16 ?_|fail)
        all_goals
         skip
         (apply S.draw;(case Hs=>exact []);(case es=>exact  [6]);(case n=>exact  7);(case hn=>rfl))
         repeat' (first|(apply Sr.same;refine T.loadF (g:=lvV) (v:=.map (some b)) rfl rfl inferInstance (fun _=>rfl) rfl hget2 rfl rfl ?_)|(apply SA.qn;(iterate 4 apply rfl);kernel_rfl)|refine Sg.Y15 ?_|fail)
         refine Sr.front b ?_
         refine T.mapPutT rfl rfl rfl (by simp only [maxLen];omega) (by simp only [maxLen];omega) rfl ?_
         refine Sr.frontR (some ⟨g,0,none⟩) ?_
         refine Sr.front nb ?_
         repeat' (first|with_reducible refine Sr.nil ?_|with_reducible refine S.inBlock ?_|(apply SA.done;apply rfl;kernel_rfl)|(apply SK.intro;(first|exact fun _ h=>h|exact fun _ h=>St.psub h (by ((repeat (first|dsimp only [List.set_cons_zero]|dsimp only [List.set_cons_succ]));repeat' first|exact PSub.refl _|exact PSub.nil|(apply PSub.take;(repeat' first|(with_reducible exact Z0)|(with_reducible apply Z1)))|(with_reducible apply PSub.drop)|((apply PSub.take);(repeat' first|exact Z0|(apply Z1)))))))|fail)
         skip
         rw [show ((k0 - 1,some (b,m))::s:Stk).reverse.flatMap lvV=((k0 - 1,some (b,eput m nd0.key 1))::s:Stk).reverse.flatMap lvV by rw [List.reverse_cons,List.reverse_cons,List.flatMap_append,List.flatMap_append];rfl]
         exact hrest _ _ _ ⟨(k0 - 1,some (b,eput m nd0.key 1)),(k0 - 1,some (nd0.key::ns)),rfl,rfl,by omega,by show (eput m nd0.key 1).length≤_;omega,.obj (hkn.put _) hs',h6⟩ (by repeat' first|exact trivial|refine And.intro rfl ?_)
    ·rintro _ _ ⟨z,lv0,rfl,rfl,hz,hzm,hlv,hQ2⟩
     clear h6 hget2 hrl2 hset hrl hget i1 i2 hrel h4 h5 hk hml hb0
     have hlen:l'.length+1=s.length+1:=by omega
     refine S.seq ?_
     refine S.cut (fun H' e'=>∃ (st2:Stk) (l2:List Lv) (a2:Option Addr) (cp2:Nat),H'=.row a2 cp2 98 2 st2.length (st2.reverse.flatMap lvV)::ZC st2 H∧e'=[(3,.slice a2 st2.length cp2),(10,.slice oa v.length oc),(11,.int .i64 v.length),(12,.int .i64 i)] ∧
      st2.length≤33∧(∀ z∈st2,z.1≤9223372036854775807∧mlen z≤i+1)∧LvOf st2 l2∧shM Lib.validD (v.drop (i+1)) (popL l2)=Q) ?_ ?_
     ·intro k' hrest
      have hbz:∀ y∈(z::s:Stk),y.1≤9223372036854775807∧mlen y≤i+1:=fun y hy=>by
       rcases List.mem_cons.1 hy with rfl|hy
       ·exact ⟨hz,hzm⟩
       ·have:=hbs y hy
        exact ⟨this.1,by omega⟩
      have hzl:(z::s:Stk).reverse.length=s.length+1:=by rw [List.length_reverse];rfl
      unfold Z9z at hQ2
      by_cases hrow:ZF nd0
      ·rw [if_pos hrow] at hQ2
       obtain ⟨kk,hkk⟩:∃ kk:Nat,nd0.kids=(kk:Int):=⟨_,(Int.toNat_of_nonneg (Z3r hp).2).symm⟩
       rw [hkk,Int.toNat_natCast] at hQ2
       have hkl:kk≤9223372036854775807:=by omega
       by_cases hd:32 < l'.length+1
       ·rw [if_pos hd] at hQ2
        subst hQ2
        rcases hrow with h6' | h7'
        ·repeat' (first|refine Sg.Y3 ?_|(apply S.condQ;apply rfl;all_goals intro _)|(apply T.gcase;apply rfl;apply rfl;all_goals intro _)|fail)
         exact ⟨_,PSub.drop (PSub.drop (Z04 _ _)),rfl,rfl⟩
        ·have h6':¬nd0.kind=6:=by omega
         repeat' (first|refine Sg.Y3 ?_|(apply S.condQ;apply rfl;all_goals intro _)|(apply T.gcase;apply rfl;apply rfl;all_goals intro _)|fail)
         exact ⟨_,PSub.drop (PSub.drop (Z04 _ _)),rfl,rfl⟩
       ·rw [if_neg hd] at hQ2
        rcases hrow with h6' | h7'
        ·have h7':¬nd0.kind=7:=by omega
         rw [show lv2 nd0=none from if_neg h7'] at hQ2
         repeat' (first|(apply Sr.same;refine T.appendF (g:=lvV) (kk,none) rfl rfl (by show [Value.int .i64 nd0.kids,_]=_;rw [hkk];rfl) inferInstance (fun _=>rfl) rfl rfl rfl (by constructor<;>omega) rfl ?_;intro a2 cp2;rw [←List.reverse_cons])|(apply T.alloc;apply rfl;intro nb)|(apply T.bsL;(iterate 5 apply rfl);intro nb)|refine Sg.Y3 ?_|(apply S.condQ;apply rfl;all_goals intro _)|(apply T.gcase;apply rfl;apply rfl;all_goals intro _)|fail)
         refine S.sublist ?_ (PSub.drop (PSub.drop (PSub.refl _)))
         exact hrest _ _ _ ⟨(kk,none)::z::s,(kk,none)::lv0::l',a2,cp2,rfl,rfl,by show s.length+1+1≤33;omega,fun y hy=>(List.mem_cons.1 hy).elim (fun h=>by subst h;exact ⟨hkl,Nat.zero_le _⟩) (hbz y),.list hlv,hQ2⟩ (by repeat' first|exact trivial|refine And.intro rfl ?_)
        ·have h6':¬nd0.kind=6:=by omega
         rw [show lv2 nd0=some [] from if_pos h7'] at hQ2
         repeat' (first|(apply Sr.same;refine T.appendF (g:=lvV) (kk,some (mb,[])) rfl rfl (by show [Value.int .i64 nd0.kids,_]=_;rw [hkk];rfl) inferInstance (fun _=>rfl) rfl rfl rfl (by constructor<;>omega) rfl ?_;intro a2 cp2;rw [←List.reverse_cons])|(apply T.mapMake;apply rfl;intro mb)|(apply T.alloc;apply rfl;intro nb)|(apply T.bsL;(iterate 5 apply rfl);intro nb)|refine Sg.Y3 ?_|(apply S.condQ;apply rfl;all_goals intro _)|(apply T.gcase;apply rfl;apply rfl;all_goals intro _)|fail)
         refine S.sublist (H':=.row a2 cp2 98 2 (s.length+1+1) (((kk,some (mb,[]))::z::s:Stk).reverse.flatMap lvV)::mpR mb []::ZC (z::s) H) ?_ (by first|exact PSub.take (Z1 (Z1 (Z1 Z0))) (PSub.take Z0 (PSub.drop (PSub.drop (PSub.refl _))))|exact PSub.take (Z1 (Z1 (Z1 Z0))) (PSub.take (Z1 Z0) (PSub.drop (PSub.drop (PSub.refl _))))|exact PSub.take (Z1 (Z1 Z0)) (PSub.drop (PSub.drop (PSub.refl _))))
         exact hrest _ _ _ ⟨(kk,some (mb,[]))::z::s,(kk,some [])::lv0::l',a2,cp2,rfl,rfl,by show s.length+1+1≤33;omega,fun y hy=>(List.mem_cons.1 hy).elim (fun h=>by subst h;exact ⟨hkl,Nat.zero_le _⟩) (hbz y),.obj KN.nil hlv,hQ2⟩ (by repeat' first|exact trivial|refine And.intro rfl ?_)
      ·rw [if_neg hrow] at hQ2
       have h6':¬nd0.kind=6:=fun h=>hrow (.inl h)
       have h7':¬nd0.kind=7:=fun h=>hrow (.inr h)
       repeat' (first|refine Sg.Y3 ?_|(apply S.condQ;apply rfl;all_goals intro _)|(apply T.gcase;apply rfl;apply rfl;all_goals intro _)|fail)
       refine S.sublist ?_ (PSub.drop (PSub.refl _))
       exact hrest _ _ _ ⟨z::s,lv0::l',_,_,rfl,rfl,by show s.length+1≤33;omega,hbz,hlv,hQ2⟩ (by repeat' first|exact trivial|refine And.intro rfl ?_)
     ·rintro _ _ ⟨st2,l2,a2,cp2,rfl,rfl,hl2,hb2,hlv2,hQ3⟩
      clear hQ2 hlv hzm hz hlen
      refine S.block ?_
      refine S.loopE 0 [10,11,12] (fun R b' μ H' e=>∃ (k:Nat) (st:Stk) (l:List Lv),H'=.row a2 cp2 98 2 k (st.reverse.flatMap lvV)::ZC st H∧e=(3,.slice a2 k cp2)::b' ∧
       (k=st.length∧k≤33∧(∀ z∈st,z.1≤9223372036854775807∧mlen z≤i+1)∧LvOf st l∧shM Lib.validD (v.drop (i+1)) (popL l)=Q)∧μ=k) rfl rfl ?_ _ _ ⟨_,st2,l2,rfl,rfl,⟨rfl,hl2,hb2,hlv2,hQ3⟩,rfl⟩ (by repeat' first|exact trivial|refine And.intro rfl ?_)
      rintro _ _ _ ⟨k,st,l,rfl,rfl,⟨c1,c2,c3,c4,c5⟩,rfl⟩ ih2
      cases st with
      | nil =>
       cases c4
       subst c1
       repeat' (first|refine Sg.Y1 ?_|fail)
       exact ih _ _ _ _ ⟨i+1,a2,cp2,0,[],[],rfl,rfl,⟨h7,rfl,by omega,by simp,.nil,rfl,c5⟩,rfl⟩ (by omega) (by repeat' first|exact trivial|refine And.intro rfl ?_)
      | cons y s2 =>
       subst c1
       obtain ⟨k0,y2⟩:=y
       obtain ⟨nm2,l3,rfl,c6,c7⟩:=c4.inv
       refine S.rowSome (by simp) ?_
       rintro g2 rfl
       have c8:((k0,y2)::s2:Stk).length=s2.length+1:=rfl
       have j1:((((k0,y2)::s2:Stk).length:Nat):Int) - 1=(s2.length:Nat):=by rw [c8];omega
       have jrl:((k0,y2)::s2:Stk).reverse.length=s2.length+1:=by rw [List.length_reverse,c8]
       have jget:((k0,y2)::s2:Stk).reverse[s2.length]?=some (k0,y2):=by simp
       by_cases hk0:k0=0
       ·subst hk0
        refine S.capR (ad:=some ⟨g2,0,none⟩) inferInstance fun hcap=>?_
        repeat' (first|(apply T.subI;apply rfl;apply rfl;(first|omega|(dsimp only;omega));apply rfl;rw [j1])|(apply Sr.same;refine T.loadF (g:=lvV) (v:=.int .i64 ((0:Nat):Int)) rfl rfl inferInstance (fun _=>rfl) rfl jget rfl rfl ?_)|refine Sg.Y17 ?_|(apply T.gcase;apply rfl;apply rfl;all_goals intro _)|fail)
        refine S.weaken (H':=lvR (some ⟨g2,0,none⟩) cp2 s2::ZC s2 H) ?_ (fun w h=>ZdL h)
        exact ih2 _ _ _ _ ⟨s2.length,s2,l3,rfl,rfl,⟨rfl,by rw [c8] at c2;omega,fun z hz=>c3 z (List.mem_cons_of_mem _ hz),c6,c5⟩,rfl⟩ (by rw [c8];omega) (by repeat' first|exact trivial|refine And.intro rfl ?_)
       ·repeat' (first|(apply T.subI;apply rfl;apply rfl;(first|omega|(dsimp only;omega));apply rfl;rw [j1])|(apply Sr.same;refine T.loadF (g:=lvV) (v:=.int .i64 ((k0:Nat):Int)) rfl rfl inferInstance (fun _=>rfl) rfl jget rfl rfl ?_)|refine Sg.Y17 ?_|(apply S.condQ;apply rfl;all_goals intro _)|(apply T.gcase;apply rfl;apply rfl;all_goals intro _)|fail)
        have e5:popL ((k0,nm2)::l3)=(k0,nm2)::l3:=by
         obtain ⟨k,rfl⟩:∃ k,k0=k+1:=⟨k0 - 1,by omega⟩
         rfl
        dsimp only at c5
        rw [e5] at c5
        exact ih _ _ _ _ ⟨i+1,_,cp2,_,(k0,y2)::s2,(k0,nm2)::l3,rfl,rfl,⟨h7,rfl,c2,c3,c4,e5,c5⟩,rfl⟩ (by omega) (by repeat' first|exact trivial|refine And.intro rfl ?_)
 ·obtain rfl:i=v.length:=by omega
  rw [List.drop_length] at h6
  have h8:=h4.len
  have h9:(decide ((k:Int)=0))=Q:=by
   rw [←h6,h2,h8]
   cases l with
   | nil=>simp [shM]
   | cons x r =>
    simp only [shM,List.length_cons,List.isEmpty_cons,decide_eq_false_iff_not]
    omega
  subst h2
  repeat' (first|refine Sg.Y3 ?_|(apply S.condQ;apply rfl;all_goals intro _)|fail)
  exact ⟨_,PSub.drop (Z04 _ _),by rw [←h9],rfl⟩
end
end Go.Proofs.YtophlopiigpbgaaGreatDoor
/- The walk of the revealing's face. -/
/- ptrs -/
namespace Go.Proofs.YtophlopiigpbgaaGreatDoor
open Sg Go.IntWalk
set_option maxRecDepth 100000
set_option maxHeartbeats 4000000
section
variable {F:World} {M:List Nat} {H:List Res}
abbrev outR (b:Nat):Res:=.blk b [.slice none 0 0] 22
abbrev errR (b:Nat) (c:Int):Res:=.blk b [.int .i64 c] 27
theorem Z6X {p q:Nat}:MeetsR Tryz.prog 24 [.pointer (some ⟨p,0,none⟩),.pointer (some ⟨q,0,none⟩)] .returning .returning F M H (fun e H'=>e=.returned (.tuple #[])∧H'=H):=by
 refine MeetsR.enter Tryz.func24 rfl rfl ?_
 repeat refine SD.seq ?_
 apply SD.recoverA;rfl;rfl;rfl;rfl
 repeat' (first|refine Sg.Y1 ?_|fail)
 exact ⟨_,.refl _,rfl,rfl⟩
theorem ZcQ {p q:Nat} {x y:Value}:MeetsR Tryz.prog 24 [.pointer (some ⟨p,0,none⟩),.pointer (some ⟨q,0,none⟩)] (.panicking [Z3M]) (.panicking [{ Z3M with recovered:=true }]) F M (.blk q [y] 27::.blk p [x] 22::H)
  (fun e H'=>e=.returned (.tuple #[])∧H'=errR q 200::outR p::H):=by
 refine MeetsR.enter Tryz.func24 rfl rfl ?_
 repeat refine SD.seq ?_
 apply SD.recoverA;rfl;rfl;rfl;rfl
 repeat' (first|(apply T.alloc;apply rfl;intro nb)|refine Sg.Y1 ?_|fail)
 (apply S.draw;(case Hs=>exact .blk nb [.int .i64 200] 60::H);(case es=>exact  [2,3]);(case n=>exact  4);(case hn=>rfl))
 repeat' (first|(apply SA.qz;(iterate 4 apply rfl);kernel_rfl)|(apply SA.qsn;(iterate 3 apply rfl);kernel_rfl;(first|exact fun _ h=>h|exact fun _ h=>St.psub h (by ((repeat (first|dsimp only [List.set_cons_zero]|dsimp only [List.set_cons_succ]));repeat' first|exact PSub.refl _|exact PSub.nil|(apply PSub.take;(repeat' first|(with_reducible exact Z0)|(with_reducible apply Z1)))|(with_reducible apply PSub.drop)|((apply PSub.take);(repeat' first|exact Z0|(apply Z1)))))))|(apply SA.done;apply rfl;kernel_rfl)|(apply SK.intro;(first|exact fun _ h=>h|exact fun _ h=>St.psub h (by ((repeat (first|dsimp only [List.set_cons_zero]|dsimp only [List.set_cons_succ]));repeat' first|exact PSub.refl _|exact PSub.nil|(apply PSub.take;(repeat' first|(with_reducible exact Z0)|(with_reducible apply Z1)))|(with_reducible apply PSub.drop)|((apply PSub.take);(repeat' first|exact Z0|(apply Z1)))))))|refine Sg.Y2 ?_|fail)
 exact ⟨errR q 200::outR p::H,by ((repeat (first|dsimp only [List.set_cons_zero]|dsimp only [List.set_cons_succ]));repeat' first|exact PSub.refl _|exact PSub.nil|(with_reducible apply PSub.app)|(apply PSub.take;(repeat' first|(with_reducible exact Z0)|(with_reducible apply Z1)))|(with_reducible apply PSub.drop)|((apply PSub.take);(repeat' first|exact Z0|(apply Z1)))),rfl,rfl⟩
def Z2G (t:List UInt8):Option Said:=Z4z (Z2 t) (decO t)
abbrev noR (a:Option Addr) (c:Nat) (l:List Nd):Res:=.row a c 34 6 l.length (l.flatMap ndV)
def RvP (H:List Res) (z:Int × List Nd) (e:Ending) (H':List Res):Prop:=∃ oa oc,e=.returned (.tuple ⟨[.slice oa z.2.length oc,.int .i64 z.1]⟩)∧H'=noR oa oc z.2::H
theorem Z5U {v:List Nd} (h:ZG Lib.validD v=true) (hb:AllB v) (hl:v.length≤2200000):Fo 1 v∧NGood v:=by
 obtain ⟨h1,h2⟩:=Z5V h
 exact ⟨h1,fun n hn a b=>(h2 n hn).2.2 (fun hr=>hr.elim a b),fun n hn=>⟨Nat.le_trans (hb n hn).2 (by omega),Nat.le_trans (hb n hn).1 (by omega)⟩,hl⟩
theorem Zcf {a:Option Addr} {vs:List Value}:∀ X:List Res,Rd F M H a vs→Rd F M (X++H) a vs
 | [],h=>h
 | _::r,h=>have:=Zcf r h;Rd.tl
instance Rd.app {X:List Res} {a:Option Addr} {vs:List Value} [h:Rd F M H a vs]:Rd F M (X++H) a vs:=Zcf X h
theorem Z1y (H:List Res):∀ X:List Res,PSub H (X++H)
 | []=>PSub.refl _
 | _::r=>PSub.drop (Z1y H r)
theorem Z8e {t b:List UInt8} (h:decO t=some b):b.length≤t.length:=by
 unfold decO at h
 split at h
 ·cases h
  unfold decX
  split
  ·exact Nat.zero_le _
  ·split
   ·exact Nat.zero_le _
   ·split
    ·rw [Z8f];omega
    ·exact Nat.zero_le _
 ·cases h
theorem Zbk {t:List UInt8} {s:Said} (h:Z2G t=some s):s.dig=Z2 t∧s.value.length+2≤t.length∧Vl s.value∧AllB s.value∧s.name.length≤2200000:=by
 unfold Z2G at h
 cases hd:decO t with
 | none=>rw [hd] at h;cases h
 | some b =>
  rw [hd] at h
  have h2:=Z8e hd
  obtain ⟨a1,a2,a3⟩:=ZcR h
  exact ⟨a1,by omega,a3⟩
theorem Z0Z (t:List UInt8):(Z2 t).length=43:=by rw [Z2,Z5A,Z2Z];rfl
theorem Z9Q (L:List Said) (s:Said):pend (L++[s]) []=pend L []+(s.value.length+1):=by simp [pend]
theorem ZcB {ts:List (List UInt8)} {i:Nat} (h:i < ts.length):((ts.take (i+1)).map List.length).sum=((ts.take i).map List.length).sum+(ts.getD i []).length:=by
 rw [List.take_succ_eq_append_getElem h,List.map_append,List.sum_append]
 simp only [List.map_cons,List.map_nil,List.sum_cons,List.sum_nil,Nat.add_zero,List.getD,List.getElem?_eq_getElem h,Option.getD_some]
theorem Zdw {ts:List (List UInt8)} (i:Nat):((ts.take i).map List.length).sum≤(ts.map List.length).sum:=by
 have h:=congrArg (fun l=>(l.map List.length).sum) (List.take_append_drop i ts)
 simp only [List.map_append,List.sum_append] at h
 omega
section
variable {c:Ctx} {dr:Bool} {dd:List Deferred} {e:Env}
theorem D.sub {H':List Res} {chain:List PanicEntry} (h:D c dr dd H' chain e) (hs:PSub H' H):D c dr dd H chain e:=fun w a hw ha hd=>h w a (hw.psub hs) ha hd
end
section
variable {b:Nat} {vs:List Value} {E:TypeId} {g:Res→List Res} {met:List Dg}
theorem Zco:∀ ds:List Dc,AtB H b vs E g→AtB (dcR met ds H) b vs E (fun r=>dcR met ds (g r))
 | [],h=>h
 | _::r,h=>by
  have:=Zco r h
  exact AtB.tl
instance AtB.dc {ds:List Dc} [h:AtB H b vs E g]:AtB (dcR met ds H) b vs E (fun r=>dcR met ds (g r)):=Zco ds h
theorem ZaP:∀ X:List Res,AtB H b vs E g→AtB (X++H) b vs E (fun r=>X++g r)
 | [],h=>h
 | _::r,h=>by
  have:=ZaP r h
  exact AtB.tl
instance AtB.app {X:List Res} [h:AtB H b vs E g]:AtB (X++H) b vs E (fun r=>X++g r):=ZaP X h
theorem Zcl:∀ ds:List Dc,InB H b vs E→InB (dcR met ds H) b vs E
 | [],h=>h
 | _::r,h=>⟨List.mem_cons_of_mem _ (Zcl r h).h⟩
instance InB.dc {ds:List Dc} [h:InB H b vs E]:InB (dcR met ds H) b vs E:=Zcl ds h
instance InB.app {X:List Res} [h:InB H b vs E]:InB (X++H) b vs E:=⟨List.mem_append_right _ h.h⟩
end
structure ByD (B:Ents) (ds:List Dc):Prop where
 hit:∀ d∈ds.map (·.s.dig),∃ b:Nat,(eget B d).getD (-1)=(b:Int)
 miss:∀ d,d∉ds.map (·.s.dig)→eget B d=none
 one:(ds.map (·.s.dig)).Nodup→∀ d,(eget B d).getD (-1)=match Z1T ds d with
  | some x=>(x.b:Int)
  | none => -1
theorem Zdl:ByD [] []:=⟨fun d hd=>(by cases hd),fun d _=>rfl,fun _ d=>rfl⟩
theorem Zdk {B:Ents} {ds:List Dc} (h:ByD B ds) (x:Dc):ByD (eput B x.s.dig x.b) (ds++[x]):=by
 refine ⟨fun d hd=>?_,fun d hd=>?_,fun hn d=>?_⟩
 ·rw [Z1u]
  by_cases e:x.s.dig=d
  ·rw [if_pos e]
   exact ⟨x.b,rfl⟩
  ·rw [if_neg e]
   rw [List.map_append,List.mem_append] at hd
   rcases hd with hd|hd
   ·exact h.hit d hd
   ·exact absurd (List.mem_singleton.1 hd).symm e
 ·rw [List.map_append,List.mem_append] at hd
  rw [Z1u,if_neg (fun e=>hd (.inr (by rw [←e];exact List.mem_singleton.2 rfl)))]
  exact h.miss d fun hd2=>hd (.inl hd2)
 ·rw [List.map_append,List.nodup_append] at hn
  obtain ⟨n1,n2,n3⟩:=hn
  have hf:Z1T (ds++[x]) d=match Z1T ds d with
    | some y=>some y
    | none=>if x.s.dig=d then some x else none:=by
   unfold Z1T
   rw [List.find?_append]
   cases List.find? (fun x=>x.s.dig==d) ds with
   | some y=>rfl
   | none =>
    by_cases e:x.s.dig=d
    ·simp [e]
    ·simp [e]
  rw [hf,Z1u]
  by_cases e:x.s.dig=d
  ·rw [if_pos e,if_pos e]
   cases hfd:Z1T ds d with
   | none=>rfl
   | some y =>
    obtain ⟨y1,y2⟩:=Z1i hfd
    exact absurd (y2.trans e.symm) (n3 _ (List.mem_map_of_mem y1) _ (List.mem_singleton.2 rfl))
  ·rw [if_neg e,if_neg e,h.one n1 d]
   cases Z1T ds d<;>rfl
def DsOk (ds:List Dc) (rws:List Res):Prop:=∀ x∈ds,NGood x.s.value∧Vl x.s.value∧AllB x.s.value∧x.s.name.length≤2200000∧∀ F M X,Rd F M (rws++X) x.va (x.s.value.flatMap ndV)
theorem Zdg (x:Dc):dcV [] x=[sV x.s.name,.bool x.s.member,.slice x.va x.s.value.length x.vc,.bool false]:=by simp [dcV]
theorem Z7X (w p m r:Res) (X:List Res) (ds:List Dc) (x:Dc):(.blk x.b [sV x.s.name,.bool x.s.member,.slice x.va x.s.value.length x.vc,.bool false] 64::r::w::p::m::dcR [] ds X).Perm (w::p::m::dcR [] (ds++[x]) (r::X)):=by
 rw [←Zdg]
 refine (List.perm_append_comm_assoc [_,r] [w,p,m] (dcR [] ds X)).trans ?_
 refine List.Perm.append_left [w,p,m] ?_
 refine ((Z2g r X ds).cons _).trans ?_
 have h:=Z5E (met:=[]) ds [] x (r::X)
 rw [List.append_nil] at h
 exact h.symm
theorem Z2t (hT:Tabs F M) (hS:ShP F M) {v:List Nd} {ts:List (List UInt8)} {va ta:Option Addr} {vc tc:Nat} (hRv:Rd F M H va (v.flatMap ndV)) (hRt:Rd F M H ta (ts.map sV)) (hb:AllB v) (hk:∀ n∈v,n.kids≤9223372036854775807) (hsz:v.length+(ts.map List.length).sum≤2200000) (htl:ts.length≤2200000) :
  Meets Tryz.prog 8 [.slice va v.length vc,.slice ta ts.length tc] F M H (RvP H (Z31 Lib.validD Z2G v ts)):=by
 refine Meets.enter Tryz.func8 rfl rfl ?_
 generalize hQ:Z31 Lib.validD Z2G v ts=Q
 unfold Z31 at hQ
 have hvl:v.length≤2200000:=by omega
 refine S.nilrow 34 6 ?_
 repeat' (first|(apply T.alloc;apply rfl;intro nb)|refine Sg.Y1 ?_|fail)
 rename_i nb'
 refine T.call rfl rfl (Z1n hT (v:=v) rfl hvl (fun x hx=>⟨fun _=>(hb x hx).1,Nat.le_trans (hb x hx).1 (by omega),(hb x hx).2,hk x hx⟩)) ?_
 rintro _ _ ⟨rfl,rfl⟩
 cases hs:ZG Lib.validD v with
 | false =>
  rw [if_pos (.inl hs)] at hQ
  subst hQ
  repeat' (first|refine Sg.Y1 ?_|fail)
  exact ⟨_,PSub.drop (PSub.drop (PSub.refl _)),none,0,rfl,rfl⟩
 | true =>
  obtain ⟨hf,hg⟩:=Z5U hs hb hvl
  have ha:=IsAt.of_fo hf
  have hlt:=ha.lt
  have e0:Z3 v=v.getD 0 default:=by
   rw [←Zc hlt]
   have:=ZV hf
   rw [←ZS,this]
  by_cases k7:(v.getD 0 default).kind=7
  ·rw [if_neg (fun h=>h.elim (fun h=>by rw [hs] at h;cases h) (fun h=>h (by rw [e0];exact k7)))] at hQ
   repeat' (first|refine Sg.Y3 ?_|(apply S.condQ;apply rfl;all_goals intro _)|fail)
   refine T.call rfl rfl (Z0W (v:=v) (key:=algN) rfl hvl ha) ?_
   rintro _ _ ⟨rfl,rfl⟩
   have hm:=Z28 ha algN
   rw [ZV hf] at hm
   repeat' (first|refine Sg.Y2 ?_|fail)
   refine S.cut (fun H' e'=>¬Z1k v∧H'=errR nb 0::outR nb'::noR none 0 []::H∧e'=[(0,.slice va v.length vc),(1,.slice ta ts.length tc),(4,.pointer (some ⟨nb',0,none⟩)),(5,.pointer (some ⟨nb,0,none⟩))]) (fun k' hk'=>?_) (fun H' e' hJ=>?_)
   ·rcases hm with ⟨m1,m2⟩|⟨qa,m1,md,m2⟩
    ·have hna:¬Z1k v:=by unfold Z1k;rw [m2];exact id
     rw [m1]
     repeat' (first|refine Sg.Y1 ?_|fail)
     exact hk' _ _ _ ⟨hna,rfl,rfl⟩ (by repeat' first|exact trivial|refine And.intro rfl ?_)
    ·have e1:Z3 (Z8 v qa)=v.getD qa default:=Zc md.lt
     have hqa:=md.lt
     rw [m1]
     by_cases k5:(v.getD qa default).kind=5
     ·by_cases kt:(v.getD qa default).text=[115,104,97,45,50,53,54]
      ·have hna:¬Z1k v:=by unfold Z1k;rw [m2];simp only;rw [e1];exact fun h=>h ⟨k5,kt⟩
       repeat' (first|refine Sg.Y3 ?_|(apply S.condQ;apply rfl;all_goals intro _)|(apply T.gcase;apply rfl;apply rfl;all_goals intro _)|fail)
       exact hk' _ _ _ ⟨hna,rfl,rfl⟩ (by repeat' first|exact trivial|refine And.intro rfl ?_)
      ·have hna:Z1k v:=by unfold Z1k;rw [m2];simp only;rw [e1];exact fun h=>kt h.2
       rw [if_pos hna] at hQ
       subst hQ
       repeat' (first|refine Sg.Y3 ?_|(apply S.condQ;apply rfl;all_goals intro _)|(apply T.gcase;apply rfl;apply rfl;all_goals intro _)|fail)
       exact ⟨_,PSub.drop (PSub.drop (PSub.refl _)),none,0,rfl,rfl⟩
     ·have hna:Z1k v:=by unfold Z1k;rw [m2];simp only;rw [e1];exact fun h=>k5 h.1
      rw [if_pos hna] at hQ
      subst hQ
      repeat' (first|refine Sg.Y3 ?_|(apply T.gcase;apply rfl;apply rfl;all_goals intro _)|fail)
      exact ⟨_,PSub.drop (PSub.drop (PSub.refl _)),none,0,rfl,rfl⟩
   ·obtain ⟨hna,rfl,rfl⟩:=hJ
    rw [if_neg hna] at hQ
    repeat' (first|(apply Sr.same;refine T.ptrMake (t:=51) (k:=9) (E:=55) rfl ?_;intro mp)|(apply T.mapMake;apply rfl;intro mb)|(apply T.box;apply rfl;apply rfl;intro nb)|refine Sg.Y1 ?_|fail)
    rename_i b5
    obtain ⟨wb,hwb⟩:∃ wb,wb=nb:=⟨_,rfl⟩
    obtain ⟨sb,hsb⟩:∃ sb,sb=mb:=⟨_,rfl⟩
    rw [←hwb,←hsb]
    obtain ⟨base,hbase⟩:∃ base,base=errR b5 0::outR nb'::noR none 0 []::H:=⟨_,rfl⟩
    have hRt2:Rd F M base ta (ts.map sV):=by rw [hbase];exact Rd.tl
    have hRv2:Rd F M base va (v.flatMap ndV):=by rw [hbase];exact Rd.tl
    generalize hQ1:allO Z2G ts=Q1 at hQ
    dsimp only
    rw [←hbase]
    refine S.perm ?_ ((List.Perm.swap _ _ _).cons _)
    refine S.loopE 3 [0,4,5,7,49,50] (fun R b' μ H' e=>∃ (i:Nat) (ds:List Dc) (rws:List Res) (B:Ents),H'=.blk wb (wkV mp sb (dupL (ds.map (·.s.dig))) none 0 0) 54::.ex mp (ptrQ Tryz.prog 9 B.length (mapD B))::.ex sb (mapQ Tryz.prog 9 3 0 (mapD []))::dcR [] ds (rws++base)∧e=(51,.int .i64 i)::b' ∧
     (i≤ts.length∧addQ (ds.map (·.s)) (allO Z2G (ts.drop i))=Q1∧B.length≤i∧ByD B ds∧DsOk ds rws∧pend (ds.map (·.s)) []≤((ts.take i).map List.length).sum)∧μ=ts.length - i) rfl rfl ?_ _ _
     ⟨0,[],[],[],by simp [dupL,dcR],rfl,⟨Nat.zero_le _,by rw [List.drop_zero,List.map_nil,Zc4];exact hQ1,Nat.le_refl _,Zdl,fun x hx=>(by cases hx),by simp [pend]⟩,rfl⟩ (by repeat' first|exact trivial|refine And.intro rfl ?_)
    rintro _ _ _ ⟨i,ds,rws,B,rfl,rfl,⟨g1,g2,g3,g4,g5,g6⟩,rfl⟩ ih
    by_cases h1:i < ts.length
    ·have hdr:ts.drop i=ts.getD i []::ts.drop (i+1):=by
      rw [List.drop_eq_getElem_cons h1]
      simp [List.getD,h1]
     rw [hdr] at g2
     have hst:=ZcB h1
     have hsl:=Zdw (ts:=ts) (i+1)
     repeat' (first|refine Sg.Y3 ?_|(apply S.condQ;apply rfl;all_goals intro _)|fail)
     generalize ts.getD i []=t at *
     refine T.call rfl rfl (Z6S (dg:=Z2 t) hT (by omega)) ?_
     cases hr:Z2G t with
     | none =>
      rw [Zdr hr] at g2
      subst g2
      dsimp only at hQ
      subst hQ
      have hr':Z4z (Z2 t) (decO t)=none:=hr
      rw [hr']
      rintro _ _ ⟨rfl,rfl⟩
      refine T.ofRet ?_
      refine Sr.sublist ?_ (PSub.trans (PSub.trans (Z1y base rws) (Z0k [] ds _)) (PSub.drop (PSub.drop (PSub.drop (PSub.refl _)))))
      subst hbase
      repeat' (first|refine Sg.Y1 ?_|fail)
      exact ⟨_,PSub.drop (PSub.drop (PSub.refl _)),none,0,rfl,rfl⟩
     | some s =>
      rw [Zds hr] at g2
      have hr':Z4z (Z2 t) (decO t)=some s:=hr
      obtain ⟨r1,r2,r3,r4,r5⟩:=Zbk hr
      rw [hr']
      rintro _ _ ⟨b,xa,xc,r,rfl,k1,k2,k3,k4,rfl⟩
      repeat' (first|refine Sg.Y1 ?_|fail)
      refine T.call rfl rfl (Z0Q hS (by omega)) ?_
      rintro _ _ ⟨rfl,rfl⟩
      rw [←r1]
      have hdup:dupL (ds.map (·.s.dig)++[s.dig])=(dupL (ds.map (·.s.dig)) || decide (s.dig∈ds.map (·.s.dig))):=Z6A _ _
      have hnp:=Zdk g4 ⟨b,s,xa,xc⟩
      have hel:=Z0O B s.dig (b:Int)
      have hdl:s.dig.length≤maxLen:=by rw [r1,Z0Z];decide
      have hpn:=Z9Q (ds.map (·.s)) s
      have hmp:(ds++[(⟨b,s,xa,xc⟩:Dc)]).map (·.s)=ds.map (·.s)++[s]:=List.map_append
      have hmd:(ds++[(⟨b,s,xa,xc⟩:Dc)]).map (·.s.dig)=ds.map (·.s.dig)++[s.dig]:=List.map_append
      have hok:DsOk (ds++[⟨b,s,xa,xc⟩]) (r::rws):=fun x hx=>by
       rcases List.mem_append.1 hx with hx|hx
       ·obtain ⟨q1,q2,q3,q4,q5⟩:=g5 x hx
        exact ⟨q1,q2,q3,q4,fun F M X=>by have:=q5 F M X;exact Rd.tl⟩
       ·obtain rfl:=List.mem_singleton.1 hx
        exact ⟨k2,r3,r4,r5,fun F M X=>k1 F M (rws++X)⟩
      have fin:=fun e''=>ih _ _ _ e'' ⟨i+1,ds++[⟨b,s,xa,xc⟩],r::rws,eput B s.dig b,rfl,rfl,⟨by omega,by rw [hmp];exact g2,by omega,hnp,hok,by rw [hmp,hpn];omega⟩,rfl⟩ (by omega)
      clear ih
      obtain ⟨tw,htw⟩:∃ tw,dupL (ds.map (·.s.dig))=tw:=⟨_,rfl⟩
      rw [hmd,hdup,htw] at fin
      rw [htw]
      by_cases hmem:s.dig∈ds.map (·.s.dig)
      ·obtain ⟨b0,hb0⟩:=g4.hit _ hmem
       rw [decide_eq_true hmem] at fin
       cases tw
       all_goals
        repeat' (first|refine Sg.Y1 ?_|fail)
        try rw [hb0,Z4V]
        repeat' (first|refine Sg.Y2 ?_|fail)
        refine T.ptrPutA (p:=b) rfl rfl rfl inferInstance hdl (by simp only [maxLen];omega) ?_
        dsimp only
        repeat' (first|refine Sg.Y2 ?_|fail)
        refine S.perm ?_ (Z7X _ _ _ r (rws++base) ds ⟨b,s,xa,xc⟩)
        exact fin _ (by repeat' first|exact trivial|refine And.intro rfl ?_)
      ·have hm0:(eget B s.dig).getD (-1) = -1:=by rw [g4.miss _ hmem];rfl
       rw [decide_eq_false hmem] at fin
       cases tw
       all_goals
        repeat' (first|refine Sg.Y1 ?_|fail)
        try rw [hm0,show pV (-1)=.pointer none from rfl]
        repeat' (first|refine Sg.Y2 ?_|fail)
        refine T.ptrPutA (p:=b) rfl rfl rfl inferInstance hdl (by simp only [maxLen];omega) ?_
        dsimp only
        repeat' (first|refine Sg.Y2 ?_|fail)
        refine S.perm ?_ (Z7X _ _ _ r (rws++base) ds ⟨b,s,xa,xc⟩)
        exact fin _ (by repeat' first|exact trivial|refine And.intro rfl ?_)
    ·obtain rfl:i=ts.length:=by omega
     clear ih
     rw [List.drop_length] at g2
     have hq2:Q1=some (ds.map (·.s)):=by rw [←g2];simp [allO,addQ]
     subst hq2
     dsimp only at hQ
     rw [List.map_map,show ((fun x:Said=>x.dig) ∘ fun x:Dc=>x.s)=fun x=>x.s.dig from rfl] at hQ
     subst hbase
     rw [List.take_length] at g6
     obtain ⟨tw,htw⟩:∃ tw,dupL (ds.map (·.s.dig))=tw:=⟨_,rfl⟩
     rw [htw] at hQ ⊢
     cases tw with
     | true =>
      rw [if_pos rfl] at hQ
      subst hQ
      repeat' (first|refine Sg.Y3 ?_|(apply S.condQ;apply rfl;all_goals intro _)|fail)
      exact ⟨_,PSub.trans (PSub.trans (PSub.trans (PSub.drop (PSub.drop (PSub.refl _))) (Z1y _ rws)) (Z0k [] ds _)) (PSub.drop (PSub.drop (PSub.drop (PSub.refl _)))),none,0,rfl,rfl⟩
     | false =>
      rw [if_neg (by simp)] at hQ
      have hnd:(ds.map (·.s.dig)).Nodup:=by
       unfold dupL at htw
       simpa using htw
      generalize hL:ds.map (·.s)=L at *
      have hc:=Z9h (F:=F) (M:=M) (p:=wb) (bb:=mp) (sb:=sb) (B:=B) (ds:=ds) (fun x hx=>⟨(g5 x hx).1,(g5 x hx).2.1.1⟩) (fun x hx=>Nat.le_trans (g5 x hx).2.2.2.1 (by simp only [maxLen];omega)) (v.length+pend L []+1) (rws++(errR b5 0::outR nb'::noR none 0 []::H)) [] [] none 0 [] v va vc 0 [] true inferInstance hg ha (by simp [maxLen]) (fun x hx=>(g5 x hx).2.2.2.2 F M _)
       ⟨g4.one hnd,fun d=>by simp [eget],Nat.le_refl _,hnd⟩ (by rw [hL,ZV hf];omega) (by rw [hL,ZV hf];simp only [List.length_nil];omega)
      rw [hL,ZV hf] at hc
      have hfl:Tryz.f8.results=(#[.cell 4 22,.cell 5 27]:Array ResultVar):=rfl
      have hLok:LOk L:=fun s hs=>by
       rw [←hL] at hs
       obtain ⟨x,hx,rfl⟩:=List.mem_map.1 hs
       exact ⟨(g5 x hx).2.1,(g5 x hx).2.2.1,(g5 x hx).2.2.2.1⟩
      have hkeep:=Z0J (L:=L) (fun s hs=>(hLok s hs).1) (v.length+pend L []+1) true [] v []
      have hbnd:=ZdI hLok (v.length+pend L []+1) true [] v []
      repeat' (first|refine Sg.Y3 ?_|(apply S.condQ;apply rfl;all_goals intro _)|fail)
      refine Sr.nilrow 34 6 ?_
      refine Sr.perm ?_ ((List.Perm.swap _ _ _).trans (((List.Perm.swap _ _ _).trans ((List.Perm.swap _ _ _).cons _)).cons _))
      refine T.call rfl rfl hc ?_
      clear hc
      cases hr:revV (v.length+pend L []+1) L true [] v [] with
      | none =>
       rw [hr] at hQ
       dsimp only at hQ
       subst hQ
       rintro _ _ ⟨rfl,rfl⟩
       refine T.ofPan ?_
       refine D.sub ?_ (Z1y _ rws)
       refine D.recovered HFn.h hfl rfl rfl ZcQ ?_
       rintro _ _ ⟨rfl,rfl⟩
       refine ⟨⟨_,rfl⟩,[.slice none 0 0,.int .i64 200],?_,noR none 0 []::H,fun w h=>h.psub (PSub.drop (PSub.drop (PSub.refl _))),none,0,rfl,rfl⟩
       (repeat' first|apply RV.nil|(apply RV.cellP;apply rfl;apply rfl;infer_instance;apply rfl))
      | some my =>
       obtain ⟨m,y⟩:=my
       rw [hr] at hQ
       dsimp only at hQ
       obtain ⟨b1,b2⟩:=hkeep m y ⟨hf,hg.flat⟩ (by omega) hr
       have b3:=b1.size
       have b4:=hbnd m y ⟨hf,hg.flat⟩ hb (by simp) hr
       have hyl:y.length≤2200000:=by simp only [List.length_nil] at b3;omega
       rintro _ _ ⟨E2,oa,oc,k1,rfl,rfl⟩
       rw [List.nil_append]
       repeat' (first|refine Sg.Y1 ?_|fail)
       refine Sr.front mp ?_
       refine T.ptrRange (t:=51) (k:=9) (E:=55) rfl rfl (fun r=>?_)
       dsimp only
       repeat' (first|with_reducible refine Sr.nil ?_|with_reducible refine S.block ?_|fail)
       have hB0:∀ x∈ds,Maps.has (mapD B) (.string x.s.dig)=true:=fun x hx=>by
        obtain ⟨b0,h0⟩:=g4.hit _ (List.mem_map_of_mem hx)
        rw [Zby]
        cases hg0:eget B x.s.dig with
        | none=>rw [hg0] at h0;simp at h0;try omega
        | some z=>rfl
       refine S.loopE 2 [4,5,7,99] (fun R b' μ H' e=>∃ (left:Lit→Bool) (tw:Bool),H'=.ex2 mp r (Z3n Tryz.prog 9 mp B.length (mapD B) left μ)::.blk wb (wkV mp sb tw oa y.length oc) 54::R∧e=b'∧(tw=true↔(dupB m=true∨∃ x∈ds,left (.string x.s.dig)=false∧x.s.dig∉m))) rfl rfl ?_ _ _
        ⟨Maps.has (mapD B),dupB m,rfl,rfl,⟨.inl,fun h=>h.elim id fun ⟨x,hx,h1,_⟩=>by rw [hB0 x hx] at h1;cases h1⟩⟩ (by repeat' first|exact trivial|refine And.intro rfl ?_)
       rintro μ _ _ ⟨left,tw,rfl,rfl,hI⟩ ih
       refine S.seq ?_
       refine S.reg ?_
       refine T.ptrNext rfl rfl (fun hl=>?_) (fun kk z cnt' hlf hge hlt2=>?_)
       ·clear ih
        refine Sr.ptrUnrange ?_
        repeat' (first|refine Sg.Y1 ?_|fail)
        have hall:tw=true↔(dupL m=true∨∃ s∈L,s.dig∉m):=by
         rw [hI]
         refine or_congr Iff.rfl ⟨fun ⟨x,h1,_,h2⟩=>⟨x.s,by rw [←hL];exact List.mem_map_of_mem h1,h2⟩,fun ⟨s,h1,h2⟩=>?_⟩
         rw [←hL] at h1
         obtain ⟨x,h3,rfl⟩:=List.mem_map.1 h1
         exact ⟨x,h3,hl _,h2⟩
        cases tw with
        | true =>
         rw [if_pos (hall.1 rfl)] at hQ
         subst hQ
         repeat' (first|refine Sg.Y1 ?_|fail)
         refine T.retDr hfl rfl rfl Z6X ?_
         rintro _ _ ⟨rfl,rfl⟩
         refine ⟨⟨_,rfl⟩,[.slice none 0 0,.int .i64 201],?_,noR none 0 []::H,fun w h=>h.psub (PSub.trans (PSub.trans (PSub.trans (PSub.drop (PSub.drop (PSub.refl _))) (Z1y _ rws)) (Z0k m ds _)) (PSub.drop (PSub.drop (PSub.drop (PSub.drop (PSub.refl _)))))),none,0,rfl,rfl⟩
         (repeat' first|apply RV.nil|(apply RV.cellP;apply rfl;apply rfl;infer_instance;apply rfl))
        | false =>
         rw [if_neg (fun h=>by cases hall.2 h)] at hQ
         have hky:=b2.1.kids_le
         repeat' (first|refine Sg.Y1 ?_|fail)
         refine T.call rfl rfl (Z1n hT (v:=y) rfl hyl (fun x hx=>⟨fun _=>(b4 x hx).1,Nat.le_trans (b4 x hx).1 (by omega),(b4 x hx).2,by have:=hky x hx;omega⟩)) ?_
         rintro _ _ ⟨rfl,rfl⟩
         cases hsy:ZG Lib.validD y with
         | false =>
          rw [if_pos hsy] at hQ
          subst hQ
          repeat' (first|refine Sg.Y1 ?_|fail)
          refine T.retDr hfl rfl rfl Z6X ?_
          rintro _ _ ⟨rfl,rfl⟩
          refine ⟨⟨_,rfl⟩,[.slice none 0 0,.int .i64 11],?_,noR none 0 []::H,fun w h=>h.psub (PSub.trans (PSub.trans (PSub.trans (PSub.drop (PSub.drop (PSub.refl _))) (Z1y _ rws)) (Z0k m ds _)) (PSub.drop (PSub.drop (PSub.drop (PSub.drop (PSub.refl _)))))),none,0,rfl,rfl⟩
          (repeat' first|apply RV.nil|(apply RV.cellP;apply rfl;apply rfl;infer_instance;apply rfl))
         | true =>
          rw [if_neg (by rw [hsy];simp)] at hQ
          subst hQ
          repeat' (first|refine Sg.Y1 ?_|fail)
          refine T.retDr hfl rfl rfl Z6X ?_
          rintro _ _ ⟨rfl,rfl⟩
          refine ⟨⟨_,rfl⟩,[.slice oa y.length oc,.int .i64 0],?_,noR oa oc y::H,fun w h=>h.psub (PSub.take (Z1 (Z1 (Z1 Z0))) (PSub.trans (PSub.trans (PSub.trans (PSub.drop (PSub.drop (PSub.drop (PSub.refl _)))) (Z1y _ rws)) (Z0k m ds _)) (PSub.drop (PSub.drop (PSub.drop (PSub.refl _)))))),oa,oc,rfl,rfl⟩
          (repeat' first|apply RV.nil|(apply RV.cellP;apply rfl;apply rfl;infer_instance;apply rfl))
       ·have hkm:kk∈ds.map (·.s.dig):=by
         rcases Decidable.em (kk∈ds.map (·.s.dig)) with h|h
         ·exact h
         ·rw [g4.miss _ h] at hge
          cases hge
        have h1:=g4.one hnd kk
        rw [hge] at h1
        cases hfd:Z1T ds kk with
        | none =>
         obtain ⟨x,hx,hxk⟩:=List.mem_map.1 hkm
         exact absurd (List.find?_eq_none.1 hfd x hx) (by simp [hxk])
        | some x =>
         rw [hfd] at h1
         have h1':z=(x.b:Int):=h1
         subst h1'
         rw [Z4V]
         obtain ⟨x1,x2⟩:=Z1i hfd
         haveI hI2:InB (dcR m ds (rws++errR b5 0::outR nb'::noR none 0 []::H)) x.b (dcV m x) 64:=⟨Z69 x1⟩
         have hks:∀ x':Dc,(left (.string x'.s.dig)&&!(Lit.string x'.s.dig).sameKey (.string kk))=false↔(left (.string x'.s.dig)=false∨x'.s.dig=kk):=fun x'=>by
          have hsk:(Lit.string x'.s.dig).sameKey (.string kk)=(x'.s.dig==kk):=rfl
          rw [hsk]
          cases left (.string x'.s.dig)<;>by_cases h:x'.s.dig=kk<;>simp [h]
         cases tw with
         | true =>
          repeat' (first|(apply T.ptrEntry;apply rfl;apply rfl;rw [Z4V])|refine Sg.Y1 ?_|fail)
          refine S.ptrUncur ?_
          refine ih _ _ _ _ ⟨_,true,rfl,rfl,⟨fun _=>?_,fun _=>rfl⟩⟩ hlt2 (by repeat' first|exact trivial|refine And.intro rfl ?_)
          rcases hI.1 rfl with h|⟨x',q1,q2,q3⟩
          ·exact .inl h
          ·exact .inr ⟨x',q1,(hks x').2 (.inl q2),q3⟩
         | false =>
          have hI0:¬(dupB m=true∨∃ x∈ds,left (.string x.s.dig)=false∧x.s.dig∉m):=fun h=>by cases hI.2 h
          repeat' (first|(apply T.ptrEntry;apply rfl;apply rfl;rw [Z4V])|refine Sg.Y1 ?_|fail)
          refine S.ptrUncur ?_
          by_cases hu:x.s.dig∈m
          ·rw [decide_eq_false (fun h=>h hu)]
           refine ih _ _ _ _ ⟨_,false,rfl,rfl,⟨(fun h=>by cases h),fun h=>?_⟩⟩ hlt2 (by repeat' first|exact trivial|refine And.intro rfl ?_)
           refine absurd ?_ hI0
           rcases h with h|⟨x',q1,q2,q3⟩
           ·exact .inl h
           ·rcases (hks x').1 q2 with q2|q2
            ·exact .inr ⟨x',q1,q2,q3⟩
            ·rw [q2,←x2] at q3
             exact absurd hu q3
          ·rw [decide_eq_true hu]
           exact ih _ _ _ _ ⟨_,true,rfl,rfl,⟨fun _=>.inr ⟨x,x1,(hks x).2 (.inr x2),hu⟩,fun _=>rfl⟩⟩ hlt2 (by repeat' first|exact trivial|refine And.intro rfl ?_)
  ·rw [if_pos (.inr (by rw [e0];exact k7))] at hQ
   subst hQ
   repeat' (first|refine Sg.Y3 ?_|(apply S.condQ;apply rfl;all_goals intro _)|fail)
   exact ⟨_,PSub.drop (PSub.drop (PSub.refl _)),none,0,rfl,rfl⟩
end
end Go.Proofs.YtophlopiigpbgaaGreatDoor
