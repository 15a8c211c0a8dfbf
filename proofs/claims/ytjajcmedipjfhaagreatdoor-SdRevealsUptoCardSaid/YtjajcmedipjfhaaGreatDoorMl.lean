/- Texts put together by a program: RevH Bey UtfV NumV ShpQ PlnA LwA Bld Blda SplA SplB LwB PlnB. -/
import Derived.Test.YtjajcmedipjfhaaGreatDoorMj
import Derived.Test.YtjajcmedipjfhaaGreatDoorMk
import Derived.Test.YtjajcmedipjfhaaGreatDoorMb
import Derived.Test.YtjajcmedipjfhaaGreatDoorMc
import Derived.Lib.ValidLaws
import Derived.Lib.TrimUEq
import Derived.Test.YtjajcmedipjfhaaGreatDoorMd
import Derived.Test.YtjajcmedipjfhaaGreatDoorMg
import Derived.Test.YtjajcmedipjfhaaGreatDoorMa
import Derived.Laws.StructEq
import Derived.ChangeKeysEq
import Derived.Lib.Builder
import Derived.Lib.MakeNoZero
import Derived.Lib.UnsafeStr
import Derived.Laws.Externs
import Derived.Laws.CopyRow
import Derived.Test.YtjajcmedipjfhaaGreatDoorFacts
import Derived.Lib.Bytealg
/- The walk of the revealing's face. -/
/- ptrs -/
namespace Go.Proofs.YtjajcmedipjfhaaGreatDoor
open Sg Go.IntWalk
set_option maxRecDepth 100000
set_option maxHeartbeats 4000000
section
variable {F:World} {M:List Nat} {H:List Res}
abbrev outR (b:Nat):Res:=.blk b [.slice none 0 0] 22
abbrev errR (b:Nat) (c:Int):Res:=.blk b [.int .i64 c] 27
theorem Z77 {p q:Nat}:MeetsR Tryz.prog 28 [.pointer (some ⟨p,0,none⟩),.pointer (some ⟨q,0,none⟩)] .returning .returning F M H (fun e H'=>e=.returned (.tuple #[])∧H'=H):=by
 refine MeetsR.enter Tryz.func28 rfl rfl ?_
 repeat refine SD.seq ?_
 apply SD.recoverA;rfl;rfl;rfl;rfl
 repeat' (first|refine Sg.Y1 ?_|fail)
 exact ⟨_,.refl _,rfl,rfl⟩
theorem ZcM {p q:Nat} {x y:Value}:MeetsR Tryz.prog 28 [.pointer (some ⟨p,0,none⟩),.pointer (some ⟨q,0,none⟩)] (.panicking [Z3D]) (.panicking [{ Z3D with recovered:=true }]) F M (.blk q [y] 27::.blk p [x] 22::H)
  (fun e H'=>e=.returned (.tuple #[])∧H'=errR q 200::outR p::H):=by
 refine MeetsR.enter Tryz.func28 rfl rfl ?_
 repeat refine SD.seq ?_
 apply SD.recoverA;rfl;rfl;rfl;rfl
 repeat' (first|(apply T.alloc;apply rfl;intro nb)|refine Sg.Y1 ?_|fail)
 (apply S.draw;(case Hs=>exact .blk nb [.int .i64 200] 62::H);(case es=>exact  [2,3]);(case n=>exact  4);(case hn=>rfl))
 repeat' (first|(apply SA.qz;(iterate 4 apply rfl);kernel_rfl)|(apply SA.qsn;(iterate 3 apply rfl);kernel_rfl;(first|exact fun _ h=>h|exact fun _ h=>St.psub h (by ((repeat (first|dsimp only [List.set_cons_zero]|dsimp only [List.set_cons_succ]));repeat' first|exact PSub.refl _|exact PSub.nil|(apply PSub.take;(repeat' first|(with_reducible exact Z0)|(with_reducible apply Z1)))|(with_reducible apply PSub.drop)|((apply PSub.take);(repeat' first|exact Z0|(apply Z1)))))))|(apply SA.done;apply rfl;kernel_rfl)|(apply SK.intro;(first|exact fun _ h=>h|exact fun _ h=>St.psub h (by ((repeat (first|dsimp only [List.set_cons_zero]|dsimp only [List.set_cons_succ]));repeat' first|exact PSub.refl _|exact PSub.nil|(apply PSub.take;(repeat' first|(with_reducible exact Z0)|(with_reducible apply Z1)))|(with_reducible apply PSub.drop)|((apply PSub.take);(repeat' first|exact Z0|(apply Z1)))))))|refine Sg.Y2 ?_|fail)
 exact ⟨errR q 200::outR p::H,by ((repeat (first|dsimp only [List.set_cons_zero]|dsimp only [List.set_cons_succ]));repeat' first|exact PSub.refl _|exact PSub.nil|(apply PSub.take;(repeat' first|(with_reducible exact Z0)|(with_reducible apply Z1)))|(with_reducible apply PSub.drop)|((apply PSub.take);(repeat' first|exact Z0|(apply Z1)))),rfl,rfl⟩
def Z12 (t:List UInt8):Option Said:=Z4m (Z03 t) (decO t)
abbrev noR (a:Option Addr) (c:Nat) (l:List Nd):Res:=.row a c 34 6 l.length (l.flatMap ndV)
def RvP (H:List Res) (z:Int × List Nd) (e:Ending) (H':List Res):Prop:=∃ oa oc,e=.returned (.tuple ⟨[.slice oa z.2.length oc,.int .i64 z.1]⟩)∧H'=noR oa oc z.2::H
theorem Z1C {v:List Nd} (h:ZH Lib.validD v=true) (hb:AllB v) (hl:v.length≤2200000):Fo 1 v∧NGood v:=by
 obtain ⟨h1,h2⟩:=Z9O h
 exact ⟨h1,fun n hn a b=>(h2 n hn).2.2 (fun hr=>hr.elim a b),fun n hn=>⟨Nat.le_trans (hb n hn).2 (by omega),Nat.le_trans (hb n hn).1 (by omega)⟩,hl⟩
theorem Zc9 {a:Option Addr} {vs:List Value}:∀ X:List Res,Rd F M H a vs→Rd F M (X++H) a vs
 | [],h=>h
 | _::r,h=>have:=Zc9 r h;Rd.tl
instance Rd.app {X:List Res} {a:Option Addr} {vs:List Value} [h:Rd F M H a vs]:Rd F M (X++H) a vs:=Zc9 X h
theorem Z0J (H:List Res):∀ X:List Res,PSub H (X++H)
 | []=>PSub.refl _
 | _::r=>PSub.drop (Z0J H r)
theorem Z8u {t b:List UInt8} (h:decO t=some b):b.length≤t.length:=by
 unfold decO at h
 split at h
 ·cases h
  unfold decX
  split
  ·exact Nat.zero_le _
  ·split
   ·exact Nat.zero_le _
   ·split
    ·rw [Z5N];omega
    ·exact Nat.zero_le _
 ·cases h
theorem Z5w {t:List UInt8} {s:Said} (h:Z12 t=some s):s.dig=Z03 t∧s.value.length+2≤t.length∧Vl s.value∧AllB s.value∧s.name.length≤2200000:=by
 unfold Z12 at h
 cases hd:decO t with
 | none=>rw [hd] at h;cases h
 | some b =>
  rw [hd] at h
  have h2:=Z8u hd
  obtain ⟨a1,a2,a3⟩:=ZcP h
  exact ⟨a1,by omega,a3⟩
theorem Z6O (t:List UInt8):(Z03 t).length=43:=by rw [Z03,Zd6,Z17];rfl
theorem Za4 (L:List Said) (s:Said):pend (L++[s]) []=pend L []+(s.value.length+1):=by simp [pend]
theorem Zcx {ts:List (List UInt8)} {i:Nat} (h:i < ts.length):((ts.take (i+1)).map List.length).sum=((ts.take i).map List.length).sum+(ts.getD i []).length:=by
 rw [List.take_succ_eq_append_getElem h,List.map_append,List.sum_append]
 simp only [List.map_cons,List.map_nil,List.sum_cons,List.sum_nil,Nat.add_zero,List.getD,List.getElem?_eq_getElem h,Option.getD_some]
theorem Zdm {ts:List (List UInt8)} (i:Nat):((ts.take i).map List.length).sum≤(ts.map List.length).sum:=by
 have h:=congrArg (fun l=>(l.map List.length).sum) (List.take_append_drop i ts)
 simp only [List.map_append,List.sum_append] at h
 omega
section
variable {c:Ctx} {dr:Bool} {dd:List Deferred} {e:Env}
theorem D.sub {H':List Res} {chain:List PanicEntry} (h:D c dr dd H' chain e) (hs:PSub H' H):D c dr dd H chain e:=fun w a hw ha hd=>h w a (hw.psub hs) ha hd
end
section
variable {b:Nat} {vs:List Value} {E:TypeId} {g:Res→List Res} {met:List Dg}
theorem Zco:∀ ds:List Dc,AtB H b vs E g→AtB (dcR met ds H) b vs E (fun r=>dcR met ds (g r))
 | [],h=>h
 | _::r,h=>by
  have:=Zco r h
  exact AtB.tl
instance AtB.dc {ds:List Dc} [h:AtB H b vs E g]:AtB (dcR met ds H) b vs E (fun r=>dcR met ds (g r)):=Zco ds h
theorem ZaZ:∀ X:List Res,AtB H b vs E g→AtB (X++H) b vs E (fun r=>X++g r)
 | [],h=>h
 | _::r,h=>by
  have:=ZaZ r h
  exact AtB.tl
instance AtB.app {X:List Res} [h:AtB H b vs E g]:AtB (X++H) b vs E (fun r=>X++g r):=ZaZ X h
theorem Zcj:∀ ds:List Dc,InB H b vs E→InB (dcR met ds H) b vs E
 | [],h=>h
 | _::r,h=>⟨List.mem_cons_of_mem _ (Zcj r h).h⟩
instance InB.dc {ds:List Dc} [h:InB H b vs E]:InB (dcR met ds H) b vs E:=Zcj ds h
instance InB.app {X:List Res} [h:InB H b vs E]:InB (X++H) b vs E:=⟨List.mem_append_right _ h.h⟩
end
structure ByD (B:Ents) (ds:List Dc):Prop where
 hit:∀ d∈ds.map (·.s.dig),∃ b:Nat,(eget B d).getD (-1)=(b:Int)
 miss:∀ d,d∉ds.map (·.s.dig)→eget B d=none
 one:(ds.map (·.s.dig)).Nodup→∀ d,(eget B d).getD (-1)=match Z1M ds d with
  | some x=>(x.b:Int)
  | none => -1
theorem Zdd:ByD [] []:=⟨fun d hd=>(by cases hd),fun d _=>rfl,fun _ d=>rfl⟩
theorem Zdc {B:Ents} {ds:List Dc} (h:ByD B ds) (x:Dc):ByD (eput B x.s.dig x.b) (ds++[x]):=by
 refine ⟨fun d hd=>?_,fun d hd=>?_,fun hn d=>?_⟩
 ·rw [Z1t]
  by_cases e:x.s.dig=d
  ·rw [if_pos e]
   exact ⟨x.b,rfl⟩
  ·rw [if_neg e]
   rw [List.map_append,List.mem_append] at hd
   rcases hd with hd|hd
   ·exact h.hit d hd
   ·exact absurd (List.mem_singleton.1 hd).symm e
 ·rw [List.map_append,List.mem_append] at hd
  rw [Z1t,if_neg (fun e=>hd (.inr (by rw [←e];exact List.mem_singleton.2 rfl)))]
  exact h.miss d fun hd2=>hd (.inl hd2)
 ·rw [List.map_append,List.nodup_append] at hn
  obtain ⟨n1,n2,n3⟩:=hn
  have hf:Z1M (ds++[x]) d=match Z1M ds d with
    | some y=>some y
    | none=>if x.s.dig=d then some x else none:=by
   unfold Z1M
   rw [List.find?_append]
   cases List.find? (fun x=>x.s.dig==d) ds with
   | some y=>rfl
   | none =>
    by_cases e:x.s.dig=d
    ·simp [e]
    ·simp [e]
  rw [hf,Z1t]
  by_cases e:x.s.dig=d
  ·rw [if_pos e,if_pos e]
   cases hfd:Z1M ds d with
   | none=>rfl
   | some y =>
    obtain ⟨y1,y2⟩:=Z1g hfd
    exact absurd (y2.trans e.symm) (n3 _ (List.mem_map_of_mem y1) _ (List.mem_singleton.2 rfl))
  ·rw [if_neg e,if_neg e,h.one n1 d]
   cases Z1M ds d<;>rfl
def DsOk (ds:List Dc) (rws:List Res):Prop:=∀ x∈ds,NGood x.s.value∧Vl x.s.value∧AllB x.s.value∧x.s.name.length≤2200000∧∀ F M X,Rd F M (rws++X) x.va (x.s.value.flatMap ndV)
theorem Zd8 (x:Dc):dcV [] x=[sV x.s.name,.bool x.s.member,.slice x.va x.s.value.length x.vc,.bool false]:=by simp [dcV]
theorem Z8f (w p m r:Res) (X:List Res) (ds:List Dc) (x:Dc):(.blk x.b [sV x.s.name,.bool x.s.member,.slice x.va x.s.value.length x.vc,.bool false] 66::r::w::p::m::dcR [] ds X).Perm (w::p::m::dcR [] (ds++[x]) (r::X)):=by
 rw [←Zd8]
 refine (List.perm_append_comm_assoc [_,r] [w,p,m] (dcR [] ds X)).trans ?_
 refine List.Perm.append_left [w,p,m] ?_
 refine ((Z29 r X ds).cons _).trans ?_
 have h:=Z5O (met:=[]) ds [] x (r::X)
 rw [List.append_nil] at h
 exact h.symm
theorem Z3G (hT:Tabs F M) (hS:ShP F M) {v:List Nd} {ts:List (List UInt8)} {va ta:Option Addr} {vc tc:Nat} (hRv:Rd F M H va (v.flatMap ndV)) (hRt:Rd F M H ta (ts.map sV)) (hb:AllB v) (hk:∀ n∈v,n.kids≤9223372036854775807) (hsz:v.length+(ts.map List.length).sum≤2200000) (htl:ts.length≤2200000) :
  Meets Tryz.prog 11 [.slice va v.length vc,.slice ta ts.length tc] F M H (RvP H (Z10 Lib.validD Z12 v ts)):=by
 refine Meets.enter Tryz.func11 rfl rfl ?_
 generalize hQ:Z10 Lib.validD Z12 v ts=Q
 unfold Z10 at hQ
 have hvl:v.length≤2200000:=by omega
 refine S.nilrow 34 6 ?_
 repeat' (first|(apply T.alloc;apply rfl;intro nb)|refine Sg.Y1 ?_|fail)
 rename_i nb'
 refine T.call rfl rfl (Z3A hT (v:=v) rfl hvl (fun x hx=>⟨fun _=>(hb x hx).1,Nat.le_trans (hb x hx).1 (by omega),(hb x hx).2,hk x hx⟩)) ?_
 rintro _ _ ⟨rfl,rfl⟩
 cases hs:ZH Lib.validD v with
 | false =>
  rw [if_pos (.inl hs)] at hQ
  subst hQ
  repeat' (first|refine Sg.Y1 ?_|fail)
  exact ⟨_,PSub.drop (PSub.drop (PSub.refl _)),none,0,rfl,rfl⟩
 | true =>
  obtain ⟨hf,hg⟩:=Z1C hs hb hvl
  have ha:=IsAt.of_fo hf
  have hlt:=ha.lt
  have e0:Z2 v=v.getD 0 default:=by
   rw [←Z4 hlt]
   have:=Zj hf
   rw [←ZA,this]
  by_cases k7:(v.getD 0 default).kind=7
  ·rw [if_neg (fun h=>h.elim (fun h=>by rw [hs] at h;cases h) (fun h=>h (by rw [e0];exact k7)))] at hQ
   repeat' (first|refine Sg.Y3 ?_|(apply S.condQ;apply rfl;all_goals intro _)|fail)
   refine T.call rfl rfl (Z1I (v:=v) (key:=algN) rfl hvl ha) ?_
   rintro _ _ ⟨rfl,rfl⟩
   have hm:=Z0l ha algN
   rw [Zj hf] at hm
   repeat' (first|refine Sg.Y2 ?_|fail)
   refine S.cut (fun H' e'=>¬ZS v∧H'=errR nb 0::outR nb'::noR none 0 []::H∧e'=[(0,.slice va v.length vc),(1,.slice ta ts.length tc),(4,.pointer (some ⟨nb',0,none⟩)),(5,.pointer (some ⟨nb,0,none⟩))]) (fun k' hk'=>?_) (fun H' e' hJ=>?_)
   ·rcases hm with ⟨m1,m2⟩|⟨qa,m1,md,m2⟩
    ·have hna:¬ZS v:=by unfold ZS;rw [m2];exact id
     rw [m1]
     repeat' (first|refine Sg.Y1 ?_|fail)
     exact hk' _ _ _ ⟨hna,rfl,rfl⟩ (by repeat' first|exact trivial|refine And.intro rfl ?_)
    ·have e1:Z2 (Za v qa)=v.getD qa default:=Z4 md.lt
     have hqa:=md.lt
     rw [m1]
     by_cases k5:(v.getD qa default).kind=5
     ·by_cases kt:(v.getD qa default).text=[115,104,97,45,50,53,54]
      ·have hna:¬ZS v:=by unfold ZS;rw [m2];simp only;rw [e1];exact fun h=>h ⟨k5,kt⟩
       repeat' (first|refine Sg.Y3 ?_|(apply S.condQ;apply rfl;all_goals intro _)|(apply T.gcase;apply rfl;apply rfl;all_goals intro _)|fail)
       exact hk' _ _ _ ⟨hna,rfl,rfl⟩ (by repeat' first|exact trivial|refine And.intro rfl ?_)
      ·have hna:ZS v:=by unfold ZS;rw [m2];simp only;rw [e1];exact fun h=>kt h.2
       rw [if_pos hna] at hQ
       subst hQ
       repeat' (first|refine Sg.Y3 ?_|(apply S.condQ;apply rfl;all_goals intro _)|(apply T.gcase;apply rfl;apply rfl;all_goals intro _)|fail)
       exact ⟨_,PSub.drop (PSub.drop (PSub.refl _)),none,0,rfl,rfl⟩
     ·have hna:ZS v:=by unfold ZS;rw [m2];simp only;rw [e1];exact fun h=>k5 h.1
      rw [if_pos hna] at hQ
      subst hQ
      repeat' (first|refine Sg.Y3 ?_|(apply T.gcase;apply rfl;apply rfl;all_goals intro _)|fail)
      exact ⟨_,PSub.drop (PSub.drop (PSub.refl _)),none,0,rfl,rfl⟩
   ·obtain ⟨hna,rfl,rfl⟩:=hJ
    rw [if_neg hna] at hQ
    repeat' (first|(apply Sr.same;refine T.ptrMake (t:=54) (k:=9) (E:=58) rfl ?_;intro mp)|(apply T.mapMake;apply rfl;intro mb)|(apply T.box;apply rfl;apply rfl;intro nb)|refine Sg.Y1 ?_|fail)
    rename_i b5
    obtain ⟨wb,hwb⟩:∃ wb,wb=nb:=⟨_,rfl⟩
    obtain ⟨sb,hsb⟩:∃ sb,sb=mb:=⟨_,rfl⟩
    rw [←hwb,←hsb]
    obtain ⟨base,hbase⟩:∃ base,base=errR b5 0::outR nb'::noR none 0 []::H:=⟨_,rfl⟩
    have hRt2:Rd F M base ta (ts.map sV):=by rw [hbase];exact Rd.tl
    have hRv2:Rd F M base va (v.flatMap ndV):=by rw [hbase];exact Rd.tl
    generalize hQ1:allO Z12 ts=Q1 at hQ
    dsimp only
    rw [←hbase]
    refine S.perm ?_ ((List.Perm.swap _ _ _).cons _)
    refine S.loopE 3 [0,4,5,7,49,50] (fun R b' μ H' e=>∃ (i:Nat) (ds:List Dc) (rws:List Res) (B:Ents),H'=.blk wb (wkV mp sb (dupL (ds.map (·.s.dig))) none 0 0) 57::.ex mp (ptrQ Tryz.prog 9 B.length (mapD B))::.ex sb (mapQ Tryz.prog 9 3 0 (mapD []))::dcR [] ds (rws++base)∧e=(51,.int .i64 i)::b' ∧
     (i≤ts.length∧addQ (ds.map (·.s)) (allO Z12 (ts.drop i))=Q1∧B.length≤i∧ByD B ds∧DsOk ds rws∧pend (ds.map (·.s)) []≤((ts.take i).map List.length).sum)∧μ=ts.length - i) rfl rfl ?_ _ _
     ⟨0,[],[],[],by simp [dupL,dcR],rfl,⟨Nat.zero_le _,by rw [List.drop_zero,List.map_nil,Z8D];exact hQ1,Nat.le_refl _,Zdd,fun x hx=>(by cases hx),by simp [pend]⟩,rfl⟩ (by repeat' first|exact trivial|refine And.intro rfl ?_)
    rintro _ _ _ ⟨i,ds,rws,B,rfl,rfl,⟨g1,g2,g3,g4,g5,g6⟩,rfl⟩ ih
    by_cases h1:i < ts.length
    ·have hdr:ts.drop i=ts.getD i []::ts.drop (i+1):=by
      rw [List.drop_eq_getElem_cons h1]
      simp [List.getD,h1]
     rw [hdr] at g2
     have hst:=Zcx h1
     have hsl:=Zdm (ts:=ts) (i+1)
     repeat' (first|refine Sg.Y3 ?_|(apply S.condQ;apply rfl;all_goals intro _)|fail)
     generalize ts.getD i []=t at *
     refine T.call rfl rfl (Z72 (dg:=Z03 t) hT (by omega)) ?_
     cases hr:Z12 t with
     | none =>
      rw [Zb2 hr] at g2
      subst g2
      dsimp only at hQ
      subst hQ
      have hr':Z4m (Z03 t) (decO t)=none:=hr
      rw [hr']
      rintro _ _ ⟨rfl,rfl⟩
      refine T.ofRet ?_
      refine Sr.sublist ?_ (PSub.trans (PSub.trans (Z0J base rws) (Z0p [] ds _)) (PSub.drop (PSub.drop (PSub.drop (PSub.refl _)))))
      subst hbase
      repeat' (first|refine Sg.Y1 ?_|fail)
      exact ⟨_,PSub.drop (PSub.drop (PSub.refl _)),none,0,rfl,rfl⟩
     | some s =>
      rw [Zb3 hr] at g2
      have hr':Z4m (Z03 t) (decO t)=some s:=hr
      obtain ⟨r1,r2,r3,r4,r5⟩:=Z5w hr
      rw [hr']
      rintro _ _ ⟨b,xa,xc,r,rfl,k1,k2,k3,k4,rfl⟩
      repeat' (first|refine Sg.Y1 ?_|fail)
      refine T.call rfl rfl (Z7E hS (by omega)) ?_
      rintro _ _ ⟨rfl,rfl⟩
      rw [←r1]
      have hdup:dupL (ds.map (·.s.dig)++[s.dig])=(dupL (ds.map (·.s.dig)) || decide (s.dig∈ds.map (·.s.dig))):=Z6L _ _
      have hnp:=Zdc g4 ⟨b,s,xa,xc⟩
      have hel:=Z0R B s.dig (b:Int)
      have hdl:s.dig.length≤maxLen:=by rw [r1,Z6O];decide
      have hpn:=Za4 (ds.map (·.s)) s
      have hmp:(ds++[(⟨b,s,xa,xc⟩:Dc)]).map (·.s)=ds.map (·.s)++[s]:=List.map_append
      have hmd:(ds++[(⟨b,s,xa,xc⟩:Dc)]).map (·.s.dig)=ds.map (·.s.dig)++[s.dig]:=List.map_append
      have hok:DsOk (ds++[⟨b,s,xa,xc⟩]) (r::rws):=fun x hx=>by
       rcases List.mem_append.1 hx with hx|hx
       ·obtain ⟨q1,q2,q3,q4,q5⟩:=g5 x hx
        exact ⟨q1,q2,q3,q4,fun F M X=>by have:=q5 F M X;exact Rd.tl⟩
       ·obtain rfl:=List.mem_singleton.1 hx
        exact ⟨k2,r3,r4,r5,fun F M X=>k1 F M (rws++X)⟩
      have fin:=fun e''=>ih _ _ _ e'' ⟨i+1,ds++[⟨b,s,xa,xc⟩],r::rws,eput B s.dig b,rfl,rfl,⟨by omega,by rw [hmp];exact g2,by omega,hnp,hok,by rw [hmp,hpn];omega⟩,rfl⟩ (by omega)
      clear ih
      obtain ⟨tw,htw⟩:∃ tw,dupL (ds.map (·.s.dig))=tw:=⟨_,rfl⟩
      rw [hmd,hdup,htw] at fin
      rw [htw]
      by_cases hmem:s.dig∈ds.map (·.s.dig)
      ·obtain ⟨b0,hb0⟩:=g4.hit _ hmem
       rw [decide_eq_true hmem] at fin
       cases tw
       all_goals
        repeat' (first|refine Sg.Y1 ?_|fail)
        try rw [hb0,Z4Q]
        repeat' (first|refine Sg.Y2 ?_|fail)
        refine T.ptrPutA (p:=b) rfl rfl rfl inferInstance hdl (by simp only [maxLen];omega) ?_
        dsimp only
        repeat' (first|refine Sg.Y2 ?_|fail)
        refine S.perm ?_ (Z8f _ _ _ r (rws++base) ds ⟨b,s,xa,xc⟩)
        exact fin _ (by repeat' first|exact trivial|refine And.intro rfl ?_)
      ·have hm0:(eget B s.dig).getD (-1) = -1:=by rw [g4.miss _ hmem];rfl
       rw [decide_eq_false hmem] at fin
       cases tw
       all_goals
        repeat' (first|refine Sg.Y1 ?_|fail)
        try rw [hm0,show pV (-1)=.pointer none from rfl]
        repeat' (first|refine Sg.Y2 ?_|fail)
        refine T.ptrPutA (p:=b) rfl rfl rfl inferInstance hdl (by simp only [maxLen];omega) ?_
        dsimp only
        repeat' (first|refine Sg.Y2 ?_|fail)
        refine S.perm ?_ (Z8f _ _ _ r (rws++base) ds ⟨b,s,xa,xc⟩)
        exact fin _ (by repeat' first|exact trivial|refine And.intro rfl ?_)
    ·obtain rfl:i=ts.length:=by omega
     clear ih
     rw [List.drop_length] at g2
     have hq2:Q1=some (ds.map (·.s)):=by rw [←g2];simp [allO,addQ]
     subst hq2
     dsimp only at hQ
     rw [List.map_map,show ((fun x:Said=>x.dig) ∘ fun x:Dc=>x.s)=fun x=>x.s.dig from rfl] at hQ
     subst hbase
     rw [List.take_length] at g6
     obtain ⟨tw,htw⟩:∃ tw,dupL (ds.map (·.s.dig))=tw:=⟨_,rfl⟩
     rw [htw] at hQ ⊢
     cases tw with
     | true =>
      rw [if_pos rfl] at hQ
      subst hQ
      repeat' (first|refine Sg.Y3 ?_|(apply S.condQ;apply rfl;all_goals intro _)|fail)
      exact ⟨_,PSub.trans (PSub.trans (PSub.trans (PSub.drop (PSub.drop (PSub.refl _))) (Z0J _ rws)) (Z0p [] ds _)) (PSub.drop (PSub.drop (PSub.drop (PSub.refl _)))),none,0,rfl,rfl⟩
     | false =>
      rw [if_neg (by simp)] at hQ
      have hnd:(ds.map (·.s.dig)).Nodup:=by
       unfold dupL at htw
       simpa using htw
      generalize hL:ds.map (·.s)=L at *
      have hc:=Z9w (F:=F) (M:=M) (p:=wb) (bb:=mp) (sb:=sb) (B:=B) (ds:=ds) (fun x hx=>⟨(g5 x hx).1,(g5 x hx).2.1.1⟩) (fun x hx=>Nat.le_trans (g5 x hx).2.2.2.1 (by simp only [maxLen];omega)) (v.length+pend L []+1) (rws++(errR b5 0::outR nb'::noR none 0 []::H)) [] [] none 0 [] v va vc 0 [] true inferInstance hg ha (by simp [maxLen]) (fun x hx=>(g5 x hx).2.2.2.2 F M _)
       ⟨g4.one hnd,fun d=>by simp [eget],Nat.le_refl _,hnd⟩ (by rw [hL,Zj hf];omega) (by rw [hL,Zj hf];simp only [List.length_nil];omega)
      rw [hL,Zj hf] at hc
      have hfl:Tryz.f11.results=(#[.cell 4 22,.cell 5 27]:Array ResultVar):=rfl
      have hLok:LOk L:=fun s hs=>by
       rw [←hL] at hs
       obtain ⟨x,hx,rfl⟩:=List.mem_map.1 hs
       exact ⟨(g5 x hx).2.1,(g5 x hx).2.2.1,(g5 x hx).2.2.2.1⟩
      have hkeep:=Z0b (L:=L) (fun s hs=>(hLok s hs).1) (v.length+pend L []+1) true [] v []
      have hbnd:=ZcN hLok (v.length+pend L []+1) true [] v []
      repeat' (first|refine Sg.Y3 ?_|(apply S.condQ;apply rfl;all_goals intro _)|fail)
      refine Sr.nilrow 34 6 ?_
      refine Sr.perm ?_ ((List.Perm.swap _ _ _).trans (((List.Perm.swap _ _ _).trans ((List.Perm.swap _ _ _).cons _)).cons _))
      refine T.call rfl rfl hc ?_
      clear hc
      cases hr:revV (v.length+pend L []+1) L true [] v [] with
      | none =>
       rw [hr] at hQ
       dsimp only at hQ
       subst hQ
       rintro _ _ ⟨rfl,rfl⟩
       refine T.ofPan ?_
       refine D.sub ?_ (Z0J _ rws)
       refine D.recovered HFn.h hfl rfl rfl ZcM ?_
       rintro _ _ ⟨rfl,rfl⟩
       refine ⟨⟨_,rfl⟩,[.slice none 0 0,.int .i64 200],?_,noR none 0 []::H,fun w h=>h.psub (PSub.drop (PSub.drop (PSub.refl _))),none,0,rfl,rfl⟩
       (repeat' first|apply RV.nil|(apply RV.cellP;apply rfl;apply rfl;infer_instance;apply rfl))
      | some my =>
       obtain ⟨m,y⟩:=my
       rw [hr] at hQ
       dsimp only at hQ
       obtain ⟨b1,b2⟩:=hkeep m y ⟨hf,hg.flat⟩ (by omega) hr
       have b3:=b1.size
       have b4:=hbnd m y ⟨hf,hg.flat⟩ hb (by simp) hr
       have hyl:y.length≤2200000:=by simp only [List.length_nil] at b3;omega
       rintro _ _ ⟨E2,oa,oc,k1,rfl,rfl⟩
       rw [List.nil_append]
       repeat' (first|refine Sg.Y1 ?_|fail)
       refine Sr.front mp ?_
       refine T.ptrRange (t:=54) (k:=9) (E:=58) rfl rfl (fun r=>?_)
       dsimp only
       repeat' (first|with_reducible refine Sr.nil ?_|with_reducible refine S.block ?_|fail)
       have hB0:∀ x∈ds,Maps.has (mapD B) (.string x.s.dig)=true:=fun x hx=>by
        obtain ⟨b0,h0⟩:=g4.hit _ (List.mem_map_of_mem hx)
        rw [ZbD]
        cases hg0:eget B x.s.dig with
        | none=>rw [hg0] at h0;simp at h0;try omega
        | some z=>rfl
       refine S.loopE 2 [4,5,7,99] (fun R b' μ H' e=>∃ (left:Lit→Bool) (tw:Bool),H'=.ex2 mp r (Z3a Tryz.prog 9 mp B.length (mapD B) left μ)::.blk wb (wkV mp sb tw oa y.length oc) 57::R∧e=b'∧(tw=true↔(dupB m=true∨∃ x∈ds,left (.string x.s.dig)=false∧x.s.dig∉m))) rfl rfl ?_ _ _
        ⟨Maps.has (mapD B),dupB m,rfl,rfl,⟨.inl,fun h=>h.elim id fun ⟨x,hx,h1,_⟩=>by rw [hB0 x hx] at h1;cases h1⟩⟩ (by repeat' first|exact trivial|refine And.intro rfl ?_)
       rintro μ _ _ ⟨left,tw,rfl,rfl,hI⟩ ih
       refine S.seq ?_
       refine S.reg ?_
       refine T.ptrNext rfl rfl (fun hl=>?_) (fun kk z cnt' hlf hge hlt2=>?_)
       ·clear ih
        refine Sr.ptrUnrange ?_
        repeat' (first|refine Sg.Y1 ?_|fail)
        have hall:tw=true↔(dupL m=true∨∃ s∈L,s.dig∉m):=by
         rw [hI]
         refine or_congr Iff.rfl ⟨fun ⟨x,h1,_,h2⟩=>⟨x.s,by rw [←hL];exact List.mem_map_of_mem h1,h2⟩,fun ⟨s,h1,h2⟩=>?_⟩
         rw [←hL] at h1
         obtain ⟨x,h3,rfl⟩:=List.mem_map.1 h1
         exact ⟨x,h3,hl _,h2⟩
        cases tw with
        | true =>
         rw [if_pos (hall.1 rfl)] at hQ
         subst hQ
         repeat' (first|refine Sg.Y1 ?_|fail)
         refine T.retDr hfl rfl rfl Z77 ?_
         rintro _ _ ⟨rfl,rfl⟩
         refine ⟨⟨_,rfl⟩,[.slice none 0 0,.int .i64 201],?_,noR none 0 []::H,fun w h=>h.psub (PSub.trans (PSub.trans (PSub.trans (PSub.drop (PSub.drop (PSub.refl _))) (Z0J _ rws)) (Z0p m ds _)) (PSub.drop (PSub.drop (PSub.drop (PSub.drop (PSub.refl _)))))),none,0,rfl,rfl⟩
         (repeat' first|apply RV.nil|(apply RV.cellP;apply rfl;apply rfl;infer_instance;apply rfl))
        | false =>
         rw [if_neg (fun h=>by cases hall.2 h)] at hQ
         have hky:=b2.1.kids_le
         repeat' (first|refine Sg.Y1 ?_|fail)
         refine T.call rfl rfl (Z3A hT (v:=y) rfl hyl (fun x hx=>⟨fun _=>(b4 x hx).1,Nat.le_trans (b4 x hx).1 (by omega),(b4 x hx).2,by have:=hky x hx;omega⟩)) ?_
         rintro _ _ ⟨rfl,rfl⟩
         cases hsy:ZH Lib.validD y with
         | false =>
          rw [if_pos hsy] at hQ
          subst hQ
          repeat' (first|refine Sg.Y1 ?_|fail)
          refine T.retDr hfl rfl rfl Z77 ?_
          rintro _ _ ⟨rfl,rfl⟩
          refine ⟨⟨_,rfl⟩,[.slice none 0 0,.int .i64 11],?_,noR none 0 []::H,fun w h=>h.psub (PSub.trans (PSub.trans (PSub.trans (PSub.drop (PSub.drop (PSub.refl _))) (Z0J _ rws)) (Z0p m ds _)) (PSub.drop (PSub.drop (PSub.drop (PSub.drop (PSub.refl _)))))),none,0,rfl,rfl⟩
          (repeat' first|apply RV.nil|(apply RV.cellP;apply rfl;apply rfl;infer_instance;apply rfl))
         | true =>
          rw [if_neg (by rw [hsy];simp)] at hQ
          subst hQ
          repeat' (first|refine Sg.Y1 ?_|fail)
          refine T.retDr hfl rfl rfl Z77 ?_
          rintro _ _ ⟨rfl,rfl⟩
          refine ⟨⟨_,rfl⟩,[.slice oa y.length oc,.int .i64 0],?_,noR oa oc y::H,fun w h=>h.psub (PSub.take (Z1 (Z1 (Z1 Z0))) (PSub.trans (PSub.trans (PSub.trans (PSub.drop (PSub.drop (PSub.drop (PSub.refl _)))) (Z0J _ rws)) (Z0p m ds _)) (PSub.drop (PSub.drop (PSub.drop (PSub.refl _)))))),oa,oc,rfl,rfl⟩
          (repeat' first|apply RV.nil|(apply RV.cellP;apply rfl;apply rfl;infer_instance;apply rfl))
       ·have hkm:kk∈ds.map (·.s.dig):=by
         rcases Decidable.em (kk∈ds.map (·.s.dig)) with h|h
         ·exact h
         ·rw [g4.miss _ h] at hge
          cases hge
        have h1:=g4.one hnd kk
        rw [hge] at h1
        cases hfd:Z1M ds kk with
        | none =>
         obtain ⟨x,hx,hxk⟩:=List.mem_map.1 hkm
         exact absurd (List.find?_eq_none.1 hfd x hx) (by simp [hxk])
        | some x =>
         rw [hfd] at h1
         have h1':z=(x.b:Int):=h1
         subst h1'
         rw [Z4Q]
         obtain ⟨x1,x2⟩:=Z1g hfd
         haveI hI2:InB (dcR m ds (rws++errR b5 0::outR nb'::noR none 0 []::H)) x.b (dcV m x) 66:=⟨Z6m x1⟩
         have hks:∀ x':Dc,(left (.string x'.s.dig)&&!(Lit.string x'.s.dig).sameKey (.string kk))=false↔(left (.string x'.s.dig)=false∨x'.s.dig=kk):=fun x'=>by
          have hsk:(Lit.string x'.s.dig).sameKey (.string kk)=(x'.s.dig==kk):=rfl
          rw [hsk]
          cases left (.string x'.s.dig)<;>by_cases h:x'.s.dig=kk<;>simp [h]
         cases tw with
         | true =>
          repeat' (first|(apply T.ptrEntry;apply rfl;apply rfl;rw [Z4Q])|refine Sg.Y1 ?_|fail)
          refine S.ptrUncur ?_
          refine ih _ _ _ _ ⟨_,true,rfl,rfl,⟨fun _=>?_,fun _=>rfl⟩⟩ hlt2 (by repeat' first|exact trivial|refine And.intro rfl ?_)
          rcases hI.1 rfl with h|⟨x',q1,q2,q3⟩
          ·exact .inl h
          ·exact .inr ⟨x',q1,(hks x').2 (.inl q2),q3⟩
         | false =>
          have hI0:¬(dupB m=true∨∃ x∈ds,left (.string x.s.dig)=false∧x.s.dig∉m):=fun h=>by cases hI.2 h
          repeat' (first|(apply T.ptrEntry;apply rfl;apply rfl;rw [Z4Q])|refine Sg.Y1 ?_|fail)
          refine S.ptrUncur ?_
          by_cases hu:x.s.dig∈m
          ·rw [decide_eq_false (fun h=>h hu)]
           refine ih _ _ _ _ ⟨_,false,rfl,rfl,⟨(fun h=>by cases h),fun h=>?_⟩⟩ hlt2 (by repeat' first|exact trivial|refine And.intro rfl ?_)
           refine absurd ?_ hI0
           rcases h with h|⟨x',q1,q2,q3⟩
           ·exact .inl h
           ·rcases (hks x').1 q2 with q2|q2
            ·exact .inr ⟨x',q1,q2,q3⟩
            ·rw [q2,←x2] at q3
             exact absurd hu q3
          ·rw [decide_eq_true hu]
           exact ih _ _ _ _ ⟨_,true,rfl,rfl,⟨fun _=>.inr ⟨x,x1,(hks x).2 (.inr x2),hu⟩,fun _=>rfl⟩⟩ hlt2 (by repeat' first|exact trivial|refine And.intro rfl ?_)
  ·rw [if_pos (.inr (by rw [e0];exact k7))] at hQ
   subst hQ
   repeat' (first|refine Sg.Y3 ?_|(apply S.condQ;apply rfl;all_goals intro _)|fail)
   exact ⟨_,PSub.drop (PSub.drop (PSub.refl _)),none,0,rfl,rfl⟩
end
end Go.Proofs.YtjajcmedipjfhaaGreatDoor
/- The document's look at how deep nodes are nested: it ends, with some answer. -/
namespace Go.Proofs.YtjajcmedipjfhaaGreatDoor
open Sg Go Go.RowKit Go.IntWalk
set_option maxRecDepth 100000
set_option maxHeartbeats 4000000
section
variable {F:World} {M:List Nat} {H:List Res}
abbrev opI (a:Option Addr) (c:Nat) (l:List Int):Res:=.row a c 3 1 l.length (l.map iV)
def RngI (l:List Int):Prop:=∀ x∈l,-9223372036854775808≤x∧x≤9223372036854775807
theorem Z7J {v:List Nd} {va:Option Addr} {vc:Nat} (hR:Rd F M H va (v.flatMap ndV)) (hk:∀ n∈v,-9223372036854775808≤n.kids∧n.kids≤9223372036854775807) (hl:v.length≤2200000) :
  Meets Tryz.prog 8 [.slice va v.length vc] F M H (fun e H'=>∃ b,e=.returned (.bool b)∧H'=H):=by
 refine Meets.enter Tryz.func8 rfl rfl ?_
 refine S.nilrow 3 1 ?_
 repeat' (first|refine Sg.Y9 ?_|fail)
 refine S.loopE 1 [0] (fun R b' μ H' e=>∃ (i:Nat) (a:Option Addr) (c:Nat) (l:List Int),H'=opI a c l::R∧e=(3,.slice a l.length c)::(4,.int .i64 i)::b'∧(i≤v.length∧l.length≤i∧RngI l)∧μ=v.length - i) rfl rfl ?_ _ _ ⟨0,none,0,[],rfl,rfl,⟨by omega,Nat.le_refl _,fun x hx=>by cases hx⟩,rfl⟩ (by repeat' first|exact trivial|refine And.intro rfl ?_)
 rintro _ _ _ ⟨i,a,c,l,rfl,rfl,⟨h1,h2,h3⟩,rfl⟩ ih
 by_cases hi:i < v.length
 ·have hki:=hk (v.getD i default) (by rw [List.getD_eq_getElem?_getD,List.getElem?_eq_getElem hi];exact List.getElem_mem hi)
  repeat' (first|refine Sg.Y8 ?_|(apply S.condQ;apply rfl;all_goals intro _)|fail)
  refine S.loopE 1 [0,4] (fun R b' μ H' e=>∃ (c:Nat) (a:Option Addr) (l':List Int),H'=opI a c l'::R∧e=(3,.slice a l'.length c)::b'∧(l'.length≤i∧RngI l')∧μ=l'.length) rfl rfl ?_ _ _ ⟨c,a,l,rfl,rfl,⟨h2,h3⟩,rfl⟩ (by repeat' first|exact trivial|refine And.intro rfl ?_)
  clear h2 h3
  rintro _ _ _ ⟨c,a,l,rfl,rfl,⟨h2,h3⟩,rfl⟩ ih2
  rcases List.eq_nil_or_concat l with rfl|⟨ys,x,rfl⟩
  ·have g0:([]:List Int).length=0:=rfl
   repeat' (first|(apply T.bs;(iterate 6 apply rfl);intro nb)|(apply T.append;apply rfl;apply rfl;infer_instance;(first|rfl|(simp;done));(first|rfl|(simp;done));apply rfl;apply rfl;(constructor<;>omega);apply rfl;intro na nc)|refine Sg.Y9 ?_|fail)
   exact ih _ _ _ _ ⟨i+1,na,nc,[(v.getD i default).kids],rfl,rfl,⟨by omega,by simp,fun y hy=>by
    obtain rfl:=List.mem_singleton.1 hy
    exact hki⟩,rfl⟩ (by omega) (by repeat' first|exact trivial|refine And.intro rfl ?_)
  ·have hcl:(ys.concat x).length=ys.length+1:=by simp
   rw [hcl] at h2 ⊢
   have e1:((ys.length+1:Nat):Int) - 1=((ys.length:Nat):Int):=by omega
   have hm:opI a c (ys.concat x)=.row a c 3 1 (ys.length+1) (ys.map iV++[iV x]):=by rw [opI,List.concat_eq_append,List.map_append,List.length_append];rfl
   have hx3:=h3 x (by simp)
   have hset:((ys.concat x).map iV).set ys.length (iV (x - 1))++[iV (v.getD i default).kids]=(ys++[x - 1,(v.getD i default).kids]).map iV:=by simp [List.set_append_right]
   have hv:(ys.concat x).getD ys.length 0=x:=by simp [List.getD]
   refine S.capR (ad:=a) inferInstance fun hcap=>?_
   by_cases hx:x≤0
   ·repeat' (first|(apply T.subI;apply rfl;apply rfl;omega;apply rfl;rw [e1])|(apply T.loadI;apply rfl;infer_instance;omega;apply rfl;rw [hv])|refine Sg.Y8 ?_|(apply S.condQ;apply rfl;all_goals intro _)|(apply T.gcase;apply rfl;apply rfl;all_goals intro _)|fail)
    rw [hm]
    refine S.frontR a ?_
    refine S.shrink ?_
    exact ih2 _ _ _ _ ⟨c,a,ys,rfl,rfl,⟨by omega,fun y hy=>h3 y (by simp [hy])⟩,rfl⟩ (by rw [hcl];omega) (by repeat' first|exact trivial|refine And.intro rfl ?_)
   ·repeat' (first|(apply T.subI;apply rfl;apply rfl;omega;apply rfl;rw [e1])|(apply T.loadI;apply rfl;infer_instance;omega;apply rfl;rw [hv])|(apply T.bs;(iterate 6 apply rfl);intro nb)|refine Sg.Y8 ?_|(apply S.condQ;apply rfl;all_goals intro _)|(apply T.gcase;apply rfl;apply rfl;all_goals intro _)|fail)
    rw [hcl]
    repeat' (first|(apply T.append;apply rfl;apply rfl;infer_instance;(first|rfl|(simp;done));(first|rfl|(simp;done));apply rfl;apply rfl;(constructor<;>omega);apply rfl;intro na nc)|refine Sg.Y8 ?_|(apply S.condQ;apply rfl;all_goals intro _)|fail)
    ·exact ⟨_,by ((repeat (first|dsimp only [List.set_cons_zero]|dsimp only [List.set_cons_succ]));repeat' first|exact PSub.refl _|exact PSub.nil|(apply PSub.take;(repeat' first|(with_reducible exact Z0)|(with_reducible apply Z1)))|(with_reducible apply PSub.drop)|((apply PSub.take);(repeat' first|exact Z0|(apply Z1)))),_,rfl,rfl⟩
    ·rw [hset]
     have hl2:(ys++[x - 1,(v.getD i default).kids]).length=ys.length+1+1:=by simp
     rw [←hl2]
     exact ih _ _ _ _ ⟨i+1,na,nc,_,rfl,rfl,⟨by omega,by omega,fun y hy=>by
      rcases List.mem_append.1 hy with hy|hy
      ·exact h3 y (by simp [hy])
      ·rcases List.mem_cons.1 hy with rfl|hy
       ·omega
       ·obtain rfl:=List.mem_singleton.1 hy
        exact hki⟩,rfl⟩ (by omega) (by repeat' first|exact trivial|refine And.intro rfl ?_)
 ·clear ih
  repeat' (first|refine Sg.Y8 ?_|(apply S.condQ;apply rfl;all_goals intro _)|fail)
  exact ⟨_,by ((repeat (first|dsimp only [List.set_cons_zero]|dsimp only [List.set_cons_succ]));repeat' first|exact PSub.refl _|exact PSub.nil|(apply PSub.take;(repeat' first|(with_reducible exact Z0)|(with_reducible apply Z1)))|(with_reducible apply PSub.drop)|((apply PSub.take);(repeat' first|exact Z0|(apply Z1)))),_,rfl,rfl⟩
end
end Go.Proofs.YtjajcmedipjfhaaGreatDoor
/- Texts that have been read as strings are well formed UTF-8; plain. -/
namespace Sg
open Go.Lib
def Ch (s:List UInt8):Prop:=(∃ c:UInt8,s=[c]∧c.toNat < 128)∨(2≤s.length∧(decodeL s).2=s.length)
theorem Z2H {s b:List UInt8} {i:Nat} (h:i < s.length):(s++b).getD i 0=s.getD i 0:=by simp [List.getD,List.getElem?_append,h]
theorem Zda {s:List UInt8} (h:Ch s) (b:List UInt8):validD (s++b)=validD b:=by
 rcases h with ⟨c,rfl,hc⟩|⟨h2,hw⟩
 ·exact validD_cons c b hc
 ·have hne:s++b≠[]:=fun e=>by
   have:=congrArg List.length e
   rw [List.length_append,List.length_nil] at this
   omega
  have h3:decodeL (s++b)=decodeL s:=by
   rw [decodeL_N] at hw
   rw [decodeL_N (s++b),decodeL_N s,Z2H (show 0 < s.length by omega)]
   exact decodeN_more s.length (s++b).length _ _ _ _ _ _ _ h2 (by rw [List.length_append];omega) hw (fun h=>by rw [Z2H h]) (fun h=>by rw [Z2H h]) (fun h=>by rw [Z2H h])
  rw [validD_step _ hne,h3,hw,if_neg (fun h=>by omega),List.drop_left]
set_option maxRecDepth 100000 in
theorem ZdD {u:Nat} (h:u < 1114112∧(u < 55296∨57343 < u)):Ch (utfL u):=by
 unfold utfL
 split
 ·exact .inl ⟨_,rfl,by rw [UInt8.toNat_ofNat'];omega⟩
 ·split
  ·refine .inr ⟨Nat.le_refl _,?_⟩
   rw [decodeL_N]
   simp only [List.length_cons,List.length_nil,List.getD_cons_zero,List.getD_cons_succ,UInt8.toNat_ofNat']
   unfold decodeN
   repeat' split
   all_goals first|rfl|(exfalso;omega)
  ·split
   ·refine .inr ⟨by simp,?_⟩
    rw [decodeL_N]
    simp only [List.length_cons,List.length_nil,List.getD_cons_zero,List.getD_cons_succ,UInt8.toNat_ofNat']
    unfold decodeN
    repeat' split
    all_goals first|rfl|(exfalso;omega)
   ·refine .inr ⟨by simp,?_⟩
    rw [decodeL_N]
    simp only [List.length_cons,List.length_nil,List.getD_cons_zero,List.getD_cons_succ,UInt8.toNat_ofNat']
    unfold decodeN
    repeat' split
    all_goals first|rfl|(exfalso;omega)
set_option maxRecDepth 100000 in
theorem Z6P {n w b0 b1 b2 b3 c2 c3:Nat} (h:(decodeN n b0 b1 b2 b3).2=w) (hw:2≤w) (e2:2 < w→c2=b2) (e3:3 < w→c3=b3):(decodeN w b0 b1 c2 c3).2=w:=by
 unfold decodeN at h ⊢
 repeat' split at h
 all_goals first
  | (exfalso;simp only at h;omega)
  | (simp only at h;subst h;(first
    | (have E2:=e2 (by omega);have E3:=e3 (by omega);subst E2 E3)
    | (have E2:=e2 (by omega);subst E2)
    | skip))
 all_goals (repeat' split)
 all_goals first|rfl|(exfalso;omega)
theorem ZdE {t:List UInt8} {p a:Nat} {c:UInt8} {u:Unit} (hc:t[p]?=some c) (h:128≤c.toNat) (hs:Z0G t p c=.ok a u):Ch ((t.drop p).take (a - p)):=by
 have h1:=Z5o hc h
 rw [hs] at h1
 obtain ⟨h2,h3,h4⟩:=h1
 have hl:((t.drop p).take (a - p)).length=a - p:=by rw [List.length_take,List.length_drop];omega
 refine .inr ⟨by omega,?_⟩
 rw [decodeL_N,hl]
 have g:∀ k,k < a - p→((t.drop p).take (a - p)).getD k 0=t.getD (p+k) 0:=fun k hk=>by rw [getD_takeU _ _ _ hk,getD_dropU]
 have g0:(((t.drop p).take (a - p)).getD 0 0).toNat=c.toNat:=by rw [g 0 (by omega)];simp [List.getD,hc]
 rw [g0,g 1 (by omega)]
 exact Z6P h2 (by omega) (fun h=>by rw [g 2 h];rfl) (fun h=>by rw [g 3 h];rfl)
def VB (acc:List UInt8):Prop:=∀ b,validD (acc++b)=validD b
theorem VB.nil:VB []:=fun _=>rfl
theorem VB.add {acc s:List UInt8} (h:VB acc) (hs:Ch s):VB (acc++s):=fun b=>by rw [List.append_assoc,h,Zda hs]
theorem VB.ok {acc:List UInt8} (h:VB acc):validD acc=true:=by
 have:=h []
 rw [List.append_nil] at this
 rw [this]
 rfl
theorem Z1n {t:List UInt8}:∀ {f p a:Nat} {acc s:List UInt8},Z0c t f p acc=.ok a s→VB acc→VB s
 | 0,p,a,acc,s,h,_=>by rw [Z0c] at h;cases h
 | f+1,p,a,acc,s,h,hv=>by
  rw [Z0c] at h
  split at h
  ·cases h
  ·rename_i c hc
   split at h
   ·cases h
   ·split at h
    ·cases h
     exact hv
    ·split at h
     ·obtain ⟨b,u,h1,h2⟩:=Zo h
      exact Z1n h2 (hv.add (ZdD (Z6J h1)))
     ·split at h
      ·rename_i h128
       exact Z1n h (hv.add (.inl ⟨c,rfl,by simpa [UInt8.lt_iff_toNat_lt] using h128⟩))
      ·rename_i h128
       obtain ⟨b,u,h1,h2⟩:=Zo h
       exact Z1n h2 (hv.add (ZdE hc (by have:¬c.toNat < 128:=(by simpa [UInt8.lt_iff_toNat_lt] using h128);omega) h1))
theorem Z35 {t:List UInt8} {p a:Nat} {s:List UInt8} (h:ZB t p=.ok a s):validD s=true:=(Z1n h VB.nil).ok
end Sg
/- A number that has been read is one by itself; plain. -/
namespace Sg
theorem Z1U {t:List UInt8} {a b c:Nat} (h1:a≤b) (h2:b≤c):sl t a c=sl t a b++sl t b c:=by
 unfold sl
 rw [show c - a=(b - a)+(c - b) by omega,List.take_add,List.drop_drop,show a+(b - a)=b by omega]
theorem Z5k (t:List UInt8) (a:Nat):sl t a a=[]:=by simp [sl]
theorem Z3y {t:List UInt8} {a:Nat} {c:UInt8} (h:atB t a c=true):sl t a (a+1)=[c]:=by
 unfold atB at h
 have h1:t[a]?=some c:=by simpa using h
 obtain ⟨h2,h3⟩:=List.getElem?_eq_some_iff.1 h1
 unfold sl
 rw [List.drop_eq_getElem_cons h2,show a+1 - a=1 by omega,h3]
 rfl
def Digs (s:List UInt8):Prop:=s≠[]∧∀ c∈s,ZQ c=true
theorem Zdl {f:UInt8→Bool} {l r:List UInt8} (hl:∀ c∈l,f c=true) (hr:∀ c,r.head?=some c→f c=false):(l++r).takeWhile f=l:=by
 induction l with
 | nil =>
  cases r with
  | nil=>rfl
  | cons c r=>rw [List.nil_append,List.takeWhile_cons_of_neg (by rw [hr c rfl];simp)]
 | cons x l ih =>
  rw [List.cons_append,List.takeWhile_cons_of_pos (hl x (List.mem_cons_self ..)),ih fun c hc=>hl c (List.mem_cons_of_mem _ hc)]
theorem Z7D {t:List UInt8} {p a:Nat} {u:Unit} (h:Z07 t p=.ok a u):p≤a∧Digs (sl t p a)∧∀ c,t[p]?=some c→(sl t p a).head?=some c:=by
 unfold Z07 at h
 split at h
 ·cases h
 ·rename_i hne
  cases h
  unfold Zt at hne ⊢
  have h1:sl t p (p+((t.drop p).takeWhile ZQ).length)=(t.drop p).takeWhile ZQ:=by
   unfold sl
   rw [show p+((t.drop p).takeWhile ZQ).length - p=((t.drop p).takeWhile ZQ).length by omega]
   obtain ⟨r,hr⟩:=List.takeWhile_prefix ZQ (l:=t.drop p)
   conv=>lhs;rw [←hr]
   rw [List.take_append_of_le_length (by rw [hr];exact Nat.le_refl _)]
   conv=>lhs;rw [hr]
   exact List.take_of_length_le (Nat.le_refl _)
  have h2:(t.drop p).takeWhile ZQ≠[]:=fun e=>hne (by rw [e];rfl)
  rw [h1]
  refine ⟨by omega,⟨h2,fun c hc=>Zap hc⟩,fun c hc=>?_⟩
  obtain ⟨hp,hq⟩:=List.getElem?_eq_some_iff.1 hc
  rw [List.drop_eq_getElem_cons hp] at h2 ⊢
  by_cases hd:ZQ t[p]=true
  ·rw [List.takeWhile_cons_of_pos hd,hq]
   rfl
  ·rw [List.takeWhile_cons_of_neg hd] at h2
   exact absurd rfl h2
structure NumS (M D F E:List UInt8):Prop where
 m:M=[]∨M=[45]
 d:D=[48]∨(Digs D∧D.head?≠some 48)
 f:F=[]∨∃ r,F=46::r∧Digs r
 e:E=[]∨∃ x sg r,E=x::(sg++r)∧(x=101∨x=69)∧(sg=[]∨sg=[43]∨sg=[45])∧Digs r
theorem Z8X {t:List UInt8} {p a:Nat} {u:Unit} (h:numX t p=.ok a u):∃ M D F E,sl t p a=M++(D++(F++E))∧NumS M D F E:=by
 unfold numX at h
 obtain ⟨q1,u1,h1,h⟩:=Zo h
 obtain ⟨q2,u2,h2,h3⟩:=Zo h
 obtain ⟨m,hm,hmp⟩:∃ m,m=(if atB t p 45 then p+1 else p)∧p≤m:=⟨_,rfl,by split<;>omega⟩
 rw [←hm] at h1
 have hM:sl t p m=[]∨sl t p m=[45]:=by
  rw [hm]
  split
  ·rename_i h4
   exact .inr (Z3y h4)
  ·exact .inl (Z5k t p)
 have hD:m≤q1∧(sl t m q1=[48]∨(Digs (sl t m q1)∧(sl t m q1).head?≠some 48)):=by
  unfold Z19 at h1
  split at h1
  ·rename_i h4
   cases h1
   exact ⟨by omega,.inl (Z3y h4)⟩
  ·rename_i h4
   obtain ⟨d1,d2,d3⟩:=Z7D h1
   refine ⟨d1,.inr ⟨d2,fun e=>?_⟩⟩
   cases hc:t[m]? with
   | none =>
    have hm2:=List.getElem?_eq_none_iff.1 hc
    refine d2.1 ?_
    unfold sl
    rw [List.drop_eq_nil_of_le hm2,List.take_nil]
   | some c =>
    have:=d3 c hc
    rw [e] at this
    cases this
    exact h4 (by simp [atB,hc])
 have hF:q1≤q2∧(sl t q1 q2=[]∨∃ r,sl t q1 q2=46::r∧Digs r):=by
  unfold Z0w at h2
  split at h2
  ·rename_i h4
   obtain ⟨d1,d2,d3⟩:=Z7D h2
   refine ⟨by omega,.inr ⟨sl t (q1+1) q2,?_,d2⟩⟩
   rw [Z1U (b:=q1+1) (by omega) d1,Z3y h4]
   rfl
  ·cases h2
   exact ⟨Nat.le_refl _,.inl (Z5k t q1)⟩
 have hE:q2≤a∧(sl t q2 a=[]∨∃ x sg r,sl t q2 a=x::(sg++r)∧(x=101∨x=69)∧(sg=[]∨sg=[43]∨sg=[45])∧Digs r):=by
  unfold Z1a at h3
  split at h3
  ·rename_i h4
   obtain ⟨d1,d2,d3⟩:=Z7D h3
   obtain ⟨x,hx,hx2⟩:∃ x,sl t q2 (q2+1)=[x]∧(x=101∨x=69):=by
    rw [Bool.or_eq_true] at h4
    rcases h4 with h4|h4
    ·exact ⟨101,Z3y h4,.inl rfl⟩
    ·exact ⟨69,Z3y h4,.inr rfl⟩
   have hs:q2+1≤Z0n t (q2+1)∧(sl t (q2+1) (Z0n t (q2+1))=[]∨sl t (q2+1) (Z0n t (q2+1))=[43]∨sl t (q2+1) (Z0n t (q2+1))=[45]):=by
    unfold Z0n
    split
    ·rename_i h5
     rw [Bool.or_eq_true] at h5
     refine ⟨by omega,?_⟩
     rcases h5 with h5|h5
     ·exact .inr (.inl (Z3y h5))
     ·exact .inr (.inr (Z3y h5))
    ·exact ⟨Nat.le_refl _,.inl (Z5k _ _)⟩
   refine ⟨by omega,.inr ⟨x,_,_,?_,hx2,hs.2,d2⟩⟩
   rw [Z1U (b:=q2+1) (by omega) (by omega),Z1U (a:=q2+1) hs.1 d1,hx]
   rfl
  ·cases h3
   exact ⟨Nat.le_refl _,.inl (Z5k _ _)⟩
 refine ⟨sl t p m,sl t m q1,sl t q1 q2,sl t q2 a,?_,⟨hM,hD.2,hF.2,hE.2⟩⟩
 rw [Z1U hmp (by omega),Z1U hD.1 (by omega),Z1U hF.1 hE.1]
theorem Z74 {l r:List UInt8} (hl:∀ c∈l,ZQ c=true) (hr:∀ c,r.head?=some c→ZQ c=false):runD (l++r)=l.length:=by
 unfold runD
 rw [Zdl hl hr]
theorem Z90 {M D F E:List UInt8} (h:NumS M D F E):(numP (M++(D++(F++E)))).isSome=true:=by
 obtain ⟨hM,hD,hF,hE⟩:=h
 have hDd:∀ c∈D,ZQ c=true:=by
  rcases hD with rfl|⟨hD,-⟩
  ·intro c hc
   rw [List.mem_singleton.1 hc]
   decide
  ·exact hD.2
 have hDn:D≠[]:=by
  rcases hD with rfl|⟨hD,-⟩
  ·simp
  ·exact hD.1
 have hcut:cutP 45 (M++(D++(F++E)))=(D++(F++E),decide (M=[45])):=by
  rcases hM with rfl|rfl
  ·obtain ⟨x,r,rfl⟩:=List.exists_cons_of_ne_nil hDn
   have hx:=hDd x (List.mem_cons_self ..)
   rw [List.nil_append,List.cons_append,cutP,if_neg (fun e=>by rw [e] at hx;revert hx;decide)]
   rfl
  ·simp [cutP]
 have hEh:∀ c,E.head?=some c→c=101∨c=69:=by
  rcases hE with rfl|⟨x,sg,r,rfl,hx,-,-⟩
  ·intro c hc;cases hc
  ·intro c hc
   cases hc
   exact hx
 have hFE:∀ c,(F++E).head?=some c→ZQ c=false:=by
  rcases hF with rfl|⟨r,rfl,-⟩
  ·intro c hc
   rcases hEh c hc with rfl|rfl<;>decide
  ·intro c hc
   cases hc
   decide
 have hrun:runD (D++(F++E))=D.length:=Z74 hDd hFE
 have hbad:Z2G (D++(F++E))=false:=by
  unfold Z2G
  rw [hrun]
  have h0:D.length≠0:=fun e=>hDn (List.length_eq_zero_iff.1 e)
  rcases hD with rfl|⟨hD,h48⟩
  ·simp
  ·obtain ⟨x,r,rfl⟩:=List.exists_cons_of_ne_nil hDn
   have hx:x≠48:=fun e=>h48 (by rw [e];rfl)
   have hb:bAt (x::r++(F++E)) 0=x.toNat:=rfl
   rw [hb]
   have:x.toNat≠48:=fun e=>hx (UInt8.toNat_inj.1 (by rw [e];rfl))
   simp [this]
 unfold numP
 rw [hcut]
 simp only
 rw [hbad,if_neg (by simp),hrun,List.drop_left]
 have hfr:∃ p1,Z7t (F++E)=some (E,p1):=by
  unfold Z7t
  rcases hF with rfl|⟨r,rfl,hr⟩
  ·rw [List.nil_append]
   cases E with
   | nil=>exact ⟨true,rfl⟩
   | cons x r =>
    have hx:=hEh x rfl
    have h46:x≠46:=by rcases hx with rfl|rfl<;>decide
    rw [cutP,if_neg h46]
    exact ⟨true,rfl⟩
  ·have hrr:runD (r++E)=r.length:=Z74 hr.2 fun c hc=>by rcases hEh c hc with rfl|rfl<;>decide
   rw [List.cons_append,cutP,if_pos rfl]
   simp only
   rw [if_pos trivial,hrr,if_neg (fun e=>hr.1 (List.length_eq_zero_iff.1 e)),List.drop_left]
   exact ⟨false,rfl⟩
 obtain ⟨p1,hfr⟩:=hfr
 rw [hfr]
 simp only
 have hex:∃ p2,expP E=some ([],p2):=by
  rcases hE with rfl|⟨x,sg,r,rfl,hx,hsg,hr⟩
  ·exact ⟨true,rfl⟩
  ·obtain ⟨y,r',rfl⟩:=List.exists_cons_of_ne_nil hr.1
   have hy:=hr.2 y (List.mem_cons_self ..)
   have hsn:Z2y (sg++y::r')=y::r':=by
    rcases hsg with rfl|rfl|rfl
    ·rw [List.nil_append,Z2y,if_neg]
     rintro (rfl|rfl)<;>exact absurd hy (by decide)
    ·rfl
    ·rfl
   have hrr:runD (y::r')=(y::r').length:=by
    have:=Z74 (l:=y::r') (r:=[]) hr.2 (fun c hc=>by cases hc)
    rwa [List.append_nil] at this
   rw [expP,if_pos hx,hsn,hrr,if_neg (by simp)]
   exact ⟨false,rfl⟩
 obtain ⟨p2,hex⟩:=hex
 rw [hex]
 simp
theorem Zad {t:List UInt8} {p a:Nat} {u:Unit} (h:numX t p=.ok a u):(numP (sl t p a)).isSome=true:=by
 obtain ⟨M,D,F,E,h1,h2⟩:=Z8X h
 rw [h1]
 exact Z90 h2
end Sg
/- What has been read from a text is well shaped; plain. -/
namespace Sg
open Go.Lib
mutual
inductive VOk:Nat→Option (List (List UInt8))→List Nd→Prop
 | mk {d:Nat} {nm:Option (List (List UInt8))} {n:Nd} {xs:List (List Nd)}:Zk validD n=true→validD n.key=true→(nm=none→n.key=[])→hasN nm n.key=false→(Z0u n→d≠0)→n.kids=(xs.length:Int) →
   ROk (d - 1) (if n.kind=7 then some [] else none) xs→VOk d nm (n::xs.flatten)
inductive ROk:Nat→Option (List (List UInt8))→List (List Nd)→Prop
 | nil {d:Nat} {nm:Option (List (List UInt8))}:ROk d nm []
 | cons {d:Nat} {nm:Option (List (List UInt8))} {x:List Nd} {xs:List (List Nd)}:VOk d nm x→ROk d (nm.map ((Z2 x).key::·)) xs→ROk d nm (x::xs)
end
theorem VOk.inv {d:Nat} {nm:Option (List (List UInt8))} {x:List Nd} (h:VOk d nm x):∃ n xs,x=n::xs.flatten∧Zk validD n=true∧validD n.key=true∧(nm=none→n.key=[])∧hasN nm n.key=false∧(Z0u n→d≠0)∧n.kids=(xs.length:Int)∧ROk (d - 1) (if n.kind=7 then some [] else none) xs:=by
 cases h with
 | mk a1 a2 a3 a4 a5 a6 a7=>exact ⟨_,_,rfl,a1,a2,a3,a4,a5,a6,a7⟩
theorem ROk.inv {d:Nat} {nm:Option (List (List UInt8))} {x:List Nd} {xs:List (List Nd)} (h:ROk d nm (x::xs)):VOk d nm x∧ROk d (nm.map ((Z2 x).key::·)) xs:=by
 cases h with
 | cons a b=>exact ⟨a,b⟩
def Z7l (nm:Option (List (List UInt8))) (xs:List (List Nd)):Option (List (List UInt8)):=xs.foldl (fun m x=>m.map ((Z2 x).key::·)) nm
theorem Z82:∀ {xs:List (List Nd)} {d:Nat} {nm:Option (List (List UInt8))} {x:List Nd},ROk d nm xs→VOk d (Z7l nm xs) x→ROk d nm (xs++[x])
 | [],d,nm,x,_,hx=>.cons hx .nil
 | y::ys,d,nm,x,h,hx=>by
  obtain ⟨h1,h2⟩:=h.inv
  exact .cons h1 (Z82 h2 hx)
theorem Z9p (xs:List (List Nd)):Z7l none xs=none:=by
 induction xs with
 | nil=>rfl
 | cons x r ih=>exact ih
theorem Z5b:∀ (xs:List (List Nd)) (ns:List (List UInt8)),∃ ms,Z7l (some ns) xs=some ms∧∀ k,k∈ms↔(k∈ns∨k∈xs.map fun x=>(Z2 x).key)
 | [],ns=>⟨ns,rfl,fun k=>by simp⟩
 | x::r,ns=>by
  obtain ⟨ms,h1,h2⟩:=Z5b r ((Z2 x).key::ns)
  refine ⟨ms,h1,fun k=>?_⟩
  rw [h2,List.map_cons,List.mem_cons,List.mem_cons]
  exact ⟨fun h=>by rcases h with (h|h)|h<;>simp [h],fun h=>by rcases h with h|h|h<;>simp [h]⟩
theorem Z8G {d:Nat} {l:List Nd} {k:List UInt8} {ns:List (List UInt8)} (h:VOk d none l) (hk:validD k=true) (hn:k∉ns):VOk d (some ns) (ZJ l k):=by
 obtain ⟨n,xs,rfl,a1,a2,a3,a4,a5,a6,a7⟩:=h.inv
 refine VOk.mk (n:=n.named k) (xs:=xs) ?_ hk (fun h=>by cases h) (by simp [hasN,hn,Nd.named]) a5 a6 a7
 exact a1
theorem Z6D {t:List UInt8} {p a d:Nat} {c:UInt8} {l:List Nd} (h:Z0m Z6 t p c=.ok a l):VOk d none l:=by
 have one:∀ {n:Nd},Zk validD n=true→n.key=[]→n.kids=0→(n.kind≠6∧n.kind≠7)→VOk d none [n]:=fun {n} h1 h2 h3 h4=>by
  have:=VOk.mk (d:=d) (nm:=none) (n:=n) (xs:=[]) h1 (by rw [h2];rfl) (fun _=>h2) rfl (fun hr=>(hr.elim h4.1 h4.2).elim) h3 .nil
  exact this
 unfold Z0m at h
 split at h
 ·obtain ⟨b,s,h1,h⟩:=Zo h
  cases h
  refine one ?_ rfl rfl (by simp [nd])
  have:=Z35 h1
  simp [Zk,nd,this]
 ·split at h
  ·obtain ⟨b,s,h1,h⟩:=Zo h
   cases h
   refine one ?_ rfl rfl (by simp [nd])
   have:=Zad h1
   simp [Zk,nd,this]
  ·repeat' split at h
   all_goals first
    | (obtain ⟨b,v,-,h⟩:=Zo h;cases h;exact one (by decide) rfl rfl (by simp [nd]))
    | cases h
structure RowS (d:Nat) (obj:Bool) (names:List (List UInt8)) (hd:Nd) (out:List Nd) (xs:List (List Nd)):Prop where
 out_:out=xs.flatten
 kids:hd.kids=(xs.length:Int)
 kind:hd.kind=if obj then 7 else 6
 head:hd.key=[]∧hd.text=[]∧hd.whole=false∧hd.int=0
 rows:ROk d (if obj then some [] else none) xs
 names_:obj=true→∀ k,k∈names↔k∈xs.map fun x=>(Z2 x).key
theorem Z80 {d:Nat} {obj:Bool} {names:List (List UInt8)} {hd:Nd} {out:List Nd} {xs:List (List Nd)} (h:RowS d obj names hd out xs):VOk (d+1) none (hd::out):=by
 rw [h.out_]
 obtain ⟨h1,h2,h3,h4⟩:=h.head
 refine VOk.mk ?_ (by rw [h1];rfl) (fun _=>h1) rfl (fun _=>by omega) h.kids ?_
 ·have hk:=h.kind
  have hkd:=h.kids
  cases obj
  ·have hk2:hd.kind=6:=hk
   simp [Zk,hk2,h2,h3,h4,hkd]
  ·have hk2:hd.kind=7:=hk
   simp [Zk,hk2,h2,h3,h4,hkd]
 ·have hk:=h.kind
  cases obj
  ·have hk2:hd.kind=6:=hk
   rw [if_neg (by rw [hk2];decide)]
   exact h.rows
  ·have hk2:hd.kind=7:=hk
   rw [if_pos hk2]
   exact h.rows
theorem ZbG {d:Nat} {val:Nat→Gt (List Nd)} (hv:∀ {p a l},val p=.ok a l→VOk d none l) {t:List UInt8} {obj:Bool} {p a:Nat} {names:List (List UInt8)} {g:List Nd × List UInt8} (h:Z0O val t obj p names=.ok a g) :
  if obj then (∀ ns:List (List UInt8),(∀ k,k∈ns→k∈names)→VOk d (some ns) g.1)∧(Z2 g.1).key=g.2 else VOk d none g.1:=by
 unfold Z0O at h
 cases obj with
 | true =>
  rw [if_pos rfl] at h ⊢
  split at h
  ·obtain ⟨b,s,h1,h⟩:=Zo h
   split at h
   ·cases h
   ·rename_i hs
    split at h
    ·obtain ⟨e,v,h2,h⟩:=Zo h
     cases h
     have hq:=Z35 h1
     have hvv:=hv h2
     refine ⟨fun ns hns=>Z8G hvv hq fun hk=>hs (hns s hk),?_⟩
     obtain ⟨n,xs,rfl,-⟩:=hvv.inv
     rfl
    ·cases h
  ·cases h
 | false =>
  rw [if_neg (by simp)] at h ⊢
  obtain ⟨e,v,h1,h⟩:=Zo h
  cases h
  exact hv h1
theorem Z9T {d:Nat} {val:Nat→Gt (List Nd)} (hv:∀ {p a l},val p=.ok a l→VOk d none l) {t:List UInt8} {obj:Bool}:∀ {f p a:Nat} {names:List (List UInt8)} {hd:Nd} {out l:List Nd} {xs:List (List Nd)},rowX val t obj f p names hd out=.ok a l→RowS d obj names hd out xs→VOk (d+1) none l
 | 0,p,a,names,hd,out,l,xs,h,_=>by rw [rowX] at h;cases h
 | f+1,p,a,names,hd,out,l,xs,h,hs=>by
  rw [rowX] at h
  obtain ⟨b,g,hi,h⟩:=Zo h
  have hg:=ZbG hv hi
  have hs2:RowS d obj (names++[g.2]) hd.more (out++g.1) (xs++[g.1]):=by
   refine ⟨by rw [hs.out_];simp,by rw [List.length_append];simp [Nd.more,hs.kids],hs.kind,hs.head,?_,fun ho k=>?_⟩
   ·refine Z82 hs.rows ?_
    cases obj with
    | false =>
     rw [if_neg (by simp),Z9p]
     exact hg
    | true =>
     rw [if_pos rfl] at hg ⊢
     obtain ⟨ms,m1,m2⟩:=Z5b xs []
     rw [m1]
     refine hg.1 ms fun k hk=>?_
     rw [hs.names_ rfl]
     exact (m2 k).1 hk |>.resolve_left (by simp)
   ·subst ho
    rw [if_pos rfl] at hg
    rw [List.mem_append,List.map_append,List.mem_append,hs.names_ rfl,List.map_singleton,hg.2]
  unfold rowE at h
  split at h
  ·cases h
   exact Z80 hs2
  ·split at h
   ·exact Z9T hv h hs2
   ·cases h
theorem Zct {t:List UInt8}:∀ {d p a:Nat} {l:List Nd},valX Z6 t d p=.ok a l→VOk d none l:=by
 intro d
 induction d with
 | zero =>
  intro p a l h
  rw [valX] at h
  split at h
  ·cases h
  ·split at h
   ·cases h
   ·exact Z6D h
 | succ d ih =>
  intro p a l h
  rw [valX] at h
  split at h
  ·cases h
  ·split at h
   ·rename_i c hc hb
    have h':(if atB t (Z3 t (p+1)) (Z06 (decide (c=123)))=true then Gt.ok (Z3 t (p+1)+1) [nd (if c=123 then 7 else 6)] else rowX (valX Z6 t d) t (decide (c=123)) (t.length+1) (Z3 t (p+1)) [] (nd (if c=123 then 7 else 6)) [])=Gt.ok a l:=h
    have hrow:RowS d (decide (c=123)) [] (nd (if c=123 then 7 else 6)) [] []:=by
     refine ⟨rfl,rfl,?_,⟨rfl,rfl,rfl,rfl⟩,.nil,fun _ k=>by simp⟩
     by_cases h1:c=123<;>simp [nd,h1]
    split at h'
    ·cases h'
     exact Z80 hrow
    ·exact Z9T ih h' hrow
   ·exact Z6D h
theorem Za6 {t:List UInt8} {a:Nat} {l:List Nd} (h:Z05 Z6 t=.ok a l):VOk 32 none l:=by
 unfold Z05 at h
 split at h
 ·cases h
 ·obtain ⟨b,v,hv,h⟩:=Zo h
  split at h
  ·cases h
  ·cases h
   exact Zct hv
end Sg
/- Where nothing is hidden a payload reveals itself; plain. -/
namespace Sg
open Go.Lib
theorem Z2P:∀ {xs:List (List Nd)} {d:Nat} {nm:Option (List (List UInt8))},ROk d nm xs→∀ x∈xs,∃ nm',VOk d nm' x∧(nm=none→nm'=none)
 | [],_,_,_,x,hx=>by cases hx
 | y::r,d,nm,h,x,hx=>by
  obtain ⟨h1,h2⟩:=h.inv
  rcases List.mem_cons.1 hx with rfl|hx
  ·exact ⟨nm,h1,id⟩
  ·obtain ⟨nm',h3,h4⟩:=Z2P h2 x hx
   exact ⟨nm',h3,fun e=>h4 (by rw [e];rfl)⟩
theorem Zcf {n:Nd} {xs:List (List Nd)} {x:List Nd} (h:x∈xs):x.length < (n::xs.flatten).length:=by
 have:=ZW h
 rw [List.length_cons]
 omega
theorem Zc2:∀ (k:Nat) {d:Nat} {nm:Option (List (List UInt8))} {x:List Nd},x.length < k→VOk d nm x→Fo 1 x
 | 0,d,nm,x,hk,h=>by omega
 | k+1,d,nm,x,hk,h=>by
  obtain ⟨n,xs,rfl,a1,a2,a3,a4,a5,a6,a7⟩:=h.inv
  refine Fo.one (m:=xs.length) a6 (Fo.of fun y hy=>?_)
  obtain ⟨nm',h1,-⟩:=Z2P a7 y hy
  have:=Zcf (n:=n) hy
  exact Zc2 k (by omega) h1
theorem VOk.fo {d:Nat} {nm:Option (List (List UInt8))} {x:List Nd} (h:VOk d nm x):Fo 1 x:=Zc2 (x.length+1) (by omega) h
theorem VOk.open_ {d:Nat} {nm:Option (List (List UInt8))} {x:List Nd} (h:VOk d nm x):x=Z2 x::(kidsOf x 0).flatten∧Zk validD (Z2 x)=true∧validD (Z2 x).key=true∧(nm=none→(Z2 x).key=[])∧hasN nm (Z2 x).key=false∧(Z0u (Z2 x)→d≠0)∧(Z2 x).kids=((kidsOf x 0).length:Int)∧ROk (d - 1) (if (Z2 x).kind=7 then some [] else none) (kidsOf x 0):=by
 obtain ⟨n,xs,rfl,a1,a2,a3,a4,a5,a6,a7⟩:=h.inv
 rw [Z3V rfl a6 fun y hy=>(Z2P a7 y hy).choose_spec.1.fo]
 exact ⟨rfl,a1,a2,a3,a4,a5,a6,a7⟩
theorem Za3 {n:Nd} (h:Zk validD n=true) (hr:n.kind=6∨n.kind=7):n.text=[]∧n.whole=false∧n.int=0:=by
 unfold Zk at h
 by_cases hc:n.kind < 1∨7 < n.kind∨n.kids < 0∨(0 < n.kids∧n.kind≠6∧n.kind≠7)
 ·rw [if_pos hc] at h
  cases h
 ·rw [if_neg hc,if_neg (by omega)] at h
  by_cases hw:n.whole=true∨n.int≠0
  ·rw [if_pos hw] at h
   cases h
  ·rw [if_neg hw,if_neg (by omega)] at h
   have h4:=not_or.1 hw
   exact ⟨by simpa using h,by simpa using h4.1,Decidable.not_not.1 h4.2⟩
theorem Z92 {x:List Nd} (h:Fo 1 x) {k:List UInt8} (hk:(Z2 x).key=k):ZJ x k=x:=by
 subst hk
 obtain ⟨-,-,h3,-⟩:=Zu h
 cases x with
 | nil=>cases h3
 | cons n r=>rfl
end Sg
/- The law's small functions: nodes and texts held against each other, copies. -/
namespace Sg
def ndEq (a b:Nd):Bool:=a.kind==b.kind&&a.key==b.key&&a.text==b.text&&a.whole==b.whole&&a.int==b.int&&a.kids==b.kids
theorem ZbB (a b:Nd):ndEq a b=true↔a=b:=by
 obtain ⟨a1,a2,a3,a4,a5,a6⟩:=a
 obtain ⟨b1,b2,b3,b4,b5,b6⟩:=b
 simp [ndEq,and_assoc]
theorem Zaj (a:Nd):ndEq a a=true:=(ZbB a a).2 rfl
def Z5C (a b:List Nd):Bool:=decide (a.length=b.length)&&(List.range a.length).all fun i=>ndEq (a.getD i default) (b.getD i default)
theorem Z1b (a:List Nd):Z5C a a=true:=by simp [Z5C,Zaj]
end Sg
namespace Go.Proofs.YtjajcmedipjfhaaGreatDoor
open Sg Go Go.RowKit Go.IntWalk
set_option maxRecDepth 100000
set_option maxHeartbeats 4000000
section
variable {P:Program} {w:World} {d:Nat} {xs ys:Array Value} {f:Field} {fs:List Field}
theorem ZaL {r : Bool} {x y : Value} (hk : P.plainKey f.type = true) (hx : xs[f.offset]? = some x) (hy : ys[f.offset]? = some y) (hn : f.name ≠ "_") (he : (Op.equalIn d f.type x y).run P w = .ok r w) : (Op.eqFields d xs ys (f :: fs)).run P w = if r = true then (Op.eqFields d xs ys fs).run P w else .ok false w := by
 simp only [Op.eqFields,Sem.run_ite,Sem.run_bind,if_pos hn,run_part_plain w hk hx,run_part_plain w hk hy,Result.andThen_ok,he]
 cases r<;>simp
theorem Z7y {k k1 : IntKind} {a b : Int} (hu : P.underlying f.type = some (.int k)) (hx : xs[f.offset]? = some (.int k1 a)) (hy : ys[f.offset]? = some (.int k1 b)) (hn : f.name ≠ "_") : (Op.eqFields (d + 1) xs ys (f :: fs)).run P w = if (a == b) = true then (Op.eqFields (d + 1) xs ys fs).run P w else .ok false w :=
 ZaL (by simp [Program.plainKey,hu]) hx hy hn (run_equalIn_int w d f.type k1 k a b hu)
theorem ZbP {a b : Bool} (hu : P.underlying f.type = some .bool) (hx : xs[f.offset]? = some (.bool a)) (hy : ys[f.offset]? = some (.bool b)) (hn : f.name ≠ "_") : (Op.eqFields (d + 1) xs ys (f :: fs)).run P w = if (a == b) = true then (Op.eqFields (d + 1) xs ys fs).run P w else .ok false w :=
 ZaL (by simp [Program.plainKey,hu]) hx hy hn (run_equalIn_bool w d f.type a b hu)
theorem ZaK {a b : List UInt8} (hu : P.underlying f.type = some .string) (hx : xs[f.offset]? = some (sV a)) (hy : ys[f.offset]? = some (sV b)) (hn : f.name ≠ "_") : (Op.eqFields (d + 1) xs ys (f :: fs)).run P w = if (a == b) = true then (Op.eqFields (d + 1) xs ys fs).run P w else .ok false w :=
 ZaL (by simp [Program.plainKey,hu]) hx hy hn (by
  have h:=run_equalIn_string w d f.type (ByteArray.mk a.toArray) (ByteArray.mk b.toArray) hu
  rw [ByteArray.toList_eq,ByteArray.toList_eq] at h
  exact h)
end
theorem ZcW (a b:Nd) (w:World):(Op.equalIn 10000 34 (.agg ⟨ndV a⟩) (.agg ⟨ndV b⟩)).run Tryz.prog w=.ok (ndEq a b) w:=by
 have hS:Tryz.prog.underlying 34=some (.struct (Tryz.prog.fieldsOf 34)):=by kernel_rfl
 have hp:Tryz.prog.stoodInHeld 34=false:=by kernel_rfl
 rw [show (10000:Nat)=9999+1 from rfl,run_equalIn_struct w 9999 34 _ _ hS hp]
 simp only [Program.fieldsOf,Tryz.underlying34]
 rw [Z7y Tryz.underlying32 rfl rfl (by decide),ZaK Tryz.underlying9 rfl rfl (by decide),ZaK Tryz.underlying9 rfl rfl (by decide),ZbP Tryz.underlying4 rfl rfl (by decide),Z7y Tryz.underlying2 rfl rfl (by decide),Z7y Tryz.underlying3 rfl rfl (by decide)]
 unfold ndEq
 simp only [Op.eqFields,Sem.run_pure]
 cases a.kind==b.kind<;>cases a.key==b.key<;>cases a.text==b.text<;>cases a.whole==b.whole<;>cases a.int==b.int<;>cases a.kids==b.kids<;>rfl
section
variable {c:Ctx} {ds:List Deferred} {H:List Res} {ops:Array Oper} {l:List Oper} {κ:List Res→Env→Prop} {q:Sg.Mode} {e:Env} {ty:TypeId} {pos:String} {aft:Array Edge}
theorem ZbA (op:BinOp) (x y:Operand) (a b:Nd) (w:World):(eqGuard op 34 x y (.agg ⟨ndV a⟩) (.agg ⟨ndV b⟩)).run Tryz.prog w=.ok () w:=run_eqGuard_agg w op _ x y _ _ (by kernel_rfl)
theorem T.neqNd {x y:Operand} {d:Tmp} {a b:Nd} {u:TypeId} (hP:c.P=Tryz.prog) (hx:ev e x=some (.agg ⟨ndV a⟩)) (hy:ev e y=some (.agg ⟨ndV b⟩)) (hlt:Nat.blt d c.fn.ntmps=true) (hk:Sr q c ds H ops l κ ((d,.bool (!(ndEq a b)))::e)):Sr q c ds H ops (⟨some d,.binOp .neq 34 x y u,ty,pos,aft,none⟩::l) κ e :=
 Sr.p (fun w ac _ ha=>by
  have h:=ZcW a b w
  have hg:=ZbA .neq x y a b w
  rw [←hP] at h hg
  simp only [execOp,ha.ev hx,ha.ev hy,Sem.run_bind,hg,Result.andThen_ok,run_neq_struct,h]
  rfl) rfl hlt rfl hk
end
section
variable {F:World} {M:List Nat} {H:List Res}
theorem Z0a {a b:List Nd} {aa ba:Option Addr} {ac bc:Nat} (hA:Rd F M H aa (a.flatMap ndV)) (hB:Rd F M H ba (b.flatMap ndV)) (hl:a.length≤1000000000000) (hl2:b.length≤1000000000000) :
  Meets Tryz.prog 13 [.slice aa a.length ac,.slice ba b.length bc] F M H (fun e H'=>e=.returned (.bool (Z5C a b))∧H'=H):=by
 refine Meets.enter Tryz.func13 rfl rfl ?_
 by_cases h0:a.length=b.length
 ·repeat' (first|refine Sg.Y8 ?_|(apply S.condQ;apply rfl;all_goals intro _)|fail)
  refine S.loopE 0 [0,1] (fun R b' μ H' e=>∃ i:Nat,H'=R∧e=(5,.int .i64 i)::b'∧(i≤a.length∧∀ j,j < i→ndEq (a.getD j default) (b.getD j default)=true)∧μ=a.length - i) rfl rfl ?_ _ _ ⟨0,rfl,rfl,⟨Nat.zero_le _,fun j hj=>by omega⟩,rfl⟩ (by repeat' first|exact trivial|refine And.intro rfl ?_)
  rintro _ _ _ ⟨i,rfl,rfl,⟨h1,h2⟩,rfl⟩ ih
  by_cases h3:i < a.length
  ·cases hq:ndEq (a.getD i default) (b.getD i default) with
   | true =>
    repeat' (first|((with_reducible apply T.neqNd rfl);(iterate 3 apply rfl);rw [hq])|refine Sg.Y8 ?_|(apply S.condQ;apply rfl;all_goals intro _)|fail)
    exact ih _ _ _ _ ⟨i+1,rfl,rfl,⟨by omega,fun j hj=>by
     rcases Nat.lt_succ_iff_lt_or_eq.1 hj with hj|rfl
     ·exact h2 j hj
     ·exact hq⟩,rfl⟩ (by omega) (by repeat' first|exact trivial|refine And.intro rfl ?_)
   | false =>
    have hq2:Z5C a b=false:=by
     unfold Z5C
     rw [Bool.and_eq_false_iff]
     refine .inr ?_
     rw [List.all_eq_false]
     exact ⟨i,List.mem_range.2 h3,by rw [hq];simp⟩
    rw [hq2]
    repeat' (first|((with_reducible apply T.neqNd rfl);(iterate 3 apply rfl);rw [hq])|refine Sg.Y8 ?_|(apply S.condQ;apply rfl;all_goals intro _)|fail)
    exact ⟨_,PSub.refl _,rfl,rfl⟩
  ·obtain rfl:i=a.length:=by omega
   have hq:Z5C a b=true:=by
    unfold Z5C
    rw [decide_eq_true h0,Bool.true_and,List.all_eq_true]
    exact fun j hj=>h2 j (List.mem_range.1 hj)
   rw [hq]
   repeat' (first|refine Sg.Y8 ?_|(apply S.condQ;apply rfl;all_goals intro _)|fail)
   exact ⟨_,PSub.refl _,rfl,rfl⟩
 ·have hq:Z5C a b=false:=by
   unfold Z5C
   rw [decide_eq_false h0,Bool.false_and]
  rw [hq]
  repeat' (first|refine Sg.Y8 ?_|(apply S.condQ;apply rfl;all_goals intro _)|fail)
  exact ⟨_,PSub.refl _,rfl,rfl⟩
theorem Z2c {a:List (List UInt8)} {aa ba:Option Addr} {ac bc:Nat} (hA:Rd F M H aa (a.map sV)) (hB:Rd F M H ba (a.map sV)) (hl:a.length≤1000000000000) :
  Meets Tryz.prog 14 [.slice aa a.length ac,.slice ba a.length bc] F M H (fun e H'=>e=.returned (.bool true)∧H'=H):=by
 refine Meets.enter Tryz.func14 rfl rfl ?_
 repeat' (first|refine Sg.Y8 ?_|(apply S.condQ;apply rfl;all_goals intro _)|fail)
 refine S.loopE 0 [0,1] (fun R b' μ H' e=>∃ i:Nat,H'=R∧e=(5,.int .i64 i)::b'∧i≤a.length∧μ=a.length - i) rfl rfl ?_ _ _ ⟨0,rfl,rfl,Nat.zero_le _,rfl⟩ (by repeat' first|exact trivial|refine And.intro rfl ?_)
 rintro _ _ _ ⟨i,rfl,rfl,h1,rfl⟩ ih
 by_cases h3:i < a.length
 ·repeat' (first|refine Sg.Y8 ?_|(apply S.condQ;apply rfl;all_goals intro _)|fail)
  exact ih _ _ _ _ ⟨i+1,rfl,rfl,by omega,rfl⟩ (by omega) (by repeat' first|exact trivial|refine And.intro rfl ?_)
 ·repeat' (first|refine Sg.Y8 ?_|(apply S.condQ;apply rfl;all_goals intro _)|fail)
  exact ⟨_,PSub.refl _,rfl,rfl⟩
theorem Z4a {v:List Nd} {va:Option Addr} {vc:Nat} (hR:Rd F M H va (v.flatMap ndV)) (hl:v.length≤1000000000) :
  Meets Tryz.prog 9 [.slice va v.length vc] F M H (fun e H'=>∃ oa oc,e=.returned (.slice oa v.length oc)∧H'=noR oa oc v::H):=by
 refine Meets.enter Tryz.func9 rfl rfl ?_
 refine S.nilrow 34 6 ?_
 repeat' (first|(apply Sr.same;refine T.appendAllF (g:=ndV) (xs:=[]) (us:=v) rfl rfl inferInstance inferInstance rfl (fun _=>rfl) (fun _=>rfl) rfl rfl (by constructor<;>omega) rfl ?_;intro oa oc)|refine Sg.Y9 ?_|fail)
 rw [Nat.zero_add,List.nil_append]
 skip
 exact ⟨_,PSub.refl _,oa,oc,rfl,rfl⟩
abbrev txR (a:Option Addr) (c:Nat) (l:List (List UInt8)):Res:=.row a c 9 1 l.length (l.map sV)
theorem Z1z {v:List (List UInt8)} {va:Option Addr} {vc:Nat} (hR:Rd F M H va (v.map sV)) (hl:v.length≤1000000000) :
  Meets Tryz.prog 10 [.slice va v.length vc] F M H (fun e H'=>∃ oa oc,e=.returned (.slice oa v.length oc)∧H'=txR oa oc v::H):=by
 refine Meets.enter Tryz.func10 rfl rfl ?_
 refine S.nilrow 9 1 ?_
 repeat' (first|(apply Sr.same;refine T.appendAll (g:=sV) (xs:=[]) (us:=v) rfl rfl inferInstance inferInstance rfl (fun _=>rfl) rfl (by constructor<;>omega) rfl ?_;intro oa oc)|refine Sg.Y9 ?_|fail)
 rw [Nat.zero_add,List.nil_append]
 skip
 exact ⟨_,PSub.refl _,oa,oc,rfl,rfl⟩
end
end Go.Proofs.YtjajcmedipjfhaaGreatDoor
/- Rules for what a builder of texts needs: pointers by way of unsafe ones, calls of functions without a body, bytes turned to a text and frozen. -/
namespace Sg
open Go Go.RowKit
section
variable {c:Ctx} {ds:List Deferred} {H:List Res} {ops:Array Oper} {l:List Oper} {κ:List Res→Env→Prop} {q:Mode} {dr:Bool} {e:Env} {ty:TypeId} {pos:String} {aft:Array Edge}
end
end Sg
/- The walks of strings.Builder, by hand. -/
namespace Go.Proofs.YtjajcmedipjfhaaGreatDoor
open Sg Go.IntWalk
set_option maxRecDepth 100000
set_option maxHeartbeats 4000000
section
variable {F:World} {M:List Nat} {H:List Res} {b:Nat} {p v:Value}
end
end Go.Proofs.YtjajcmedipjfhaaGreatDoor
/- The walks of the program's spelling of texts and values. -/
namespace Sg
open Go Go.RowKit
section
variable {c:Ctx} {ds:List Deferred} {H:List Res} {ops:Array Oper} {l:List Oper} {κ:List Res→Env→Prop} {q:Mode} {e:Env} {ty:TypeId} {pos:String} {aft:Array Edge}
end
end Sg
namespace Go.Proofs.YtjajcmedipjfhaaGreatDoor
open Sg Go.IntWalk
set_option maxRecDepth 100000
set_option maxHeartbeats 4000000
section
variable {F:World} {M:List Nat} {H:List Res} {b:Nat} {p v:Value}
end
end Go.Proofs.YtjajcmedipjfhaaGreatDoor
/- The walks of the program's printing of values. -/
namespace Go.Proofs.YtjajcmedipjfhaaGreatDoor
open Sg Go.IntWalk
set_option maxRecDepth 100000
set_option maxHeartbeats 4000000
section
variable {F:World} {M:List Nat} {H:List Res} {b:Nat} {v:List Nd} {oa:Option Addr} {oc n:Nat}
end
end Go.Proofs.YtjajcmedipjfhaaGreatDoor
/- The law's look at a payload that is known: a hidden member is revealed, and one that is not disclosed is gone. -/
namespace Go.Proofs.YtjajcmedipjfhaaGreatDoor
open Sg Go Go.RowKit Go.IntWalk
set_option maxRecDepth 100000
set_option maxHeartbeats 4000000
end Go.Proofs.YtjajcmedipjfhaaGreatDoor
/- The law of SdPlain: walked. -/
namespace Sg
end Sg
namespace Go.Proofs.YtjajcmedipjfhaaGreatDoor
open Sg Go Go.RowKit Go.IntWalk
set_option maxRecDepth 100000
set_option maxHeartbeats 4000000
section
variable {F:World} {M:List Nat} {H:List Res}
end
end Go.Proofs.YtjajcmedipjfhaaGreatDoor
