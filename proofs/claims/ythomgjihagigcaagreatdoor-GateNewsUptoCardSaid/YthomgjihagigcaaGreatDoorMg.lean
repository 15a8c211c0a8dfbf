/- Texts put together by a program: GtB Tree TreeB TreeC GtC. -/
import Derived.Test.YthomgjihagigcaaGreatDoorMf
import Derived.Test.YthomgjihagigcaaGreatDoorMb
/- The walks of the program's reader of rules: keywords, signs, names, places. -/
/- guards -/
namespace Sg
theorem kd_word {t:List UInt8} {q:Nat}:kdX t q=1↔q < t.length∧letB (t.getD q 0)=true:=by
 unfold kdX kdC
 by_cases h:q < t.length
 ·simp only [h,if_true,true_and]
  cases letB (t.getD q 0) with
  | true=>simp
  | false =>
   simp only [Bool.false_eq_true,if_false,iff_false]
   split
   ·omega
   ·split
    ·omega
    ·split<;>omega
 ·simp [h]
theorem Z4C {c:UInt8} (h:letB c=true):Za c=false∧c.toNat≠34∧¬c∈sgnL:=by
 rw [Z1t,Z2Q]
 unfold letB at h
 have h2:=of_decide_eq_true h
 exact ⟨decide_eq_false (by omega),by omega,by omega⟩
theorem Z4N {c:UInt8} (h:Za c=true):letB c=false∧c.toNat≠34∧¬c∈sgnL:=by
 rw [Z1t] at h
 have h2:=of_decide_eq_true h
 rw [Z2Q]
 exact ⟨decide_eq_false (by omega),by omega,by omega⟩
theorem kd_digs {t:List UInt8} {q:Nat}:kdX t q=2↔q < t.length∧Za (t.getD q 0)=true:=by
 unfold kdX kdC
 generalize t.getD q 0=c
 by_cases h:q < t.length
 ·simp only [h,if_true,true_and]
  cases h1:letB c with
  | true=>rw [(Z4C h1).1];simp
  | false =>
   cases Za c with
   | true=>simp
   | false =>
    simp only [Bool.false_eq_true,if_false,iff_false]
    split
    ·omega
    ·split<;>omega
 ·simp [h]
theorem kd_str {t:List UInt8} {q:Nat}:kdX t q=3↔q < t.length∧(t.getD q 0).toNat=34:=by
 unfold kdX kdC
 generalize t.getD q 0=c
 by_cases h:q < t.length
 ·simp only [h,if_true,true_and]
  cases h1:letB c with
  | true=>have:=(Z4C h1).2.1;simp only [if_true,this,iff_false];omega
  | false =>
   cases h2:Za c with
   | true=>have:=(Z4N h2).2.1;simp only [Bool.false_eq_true,if_false,if_true,this,iff_false];omega
   | false =>
    simp only [Bool.false_eq_true,if_false]
    by_cases h3:c.toNat=34
    ·simp [h3]
    ·rw [if_neg h3]
     simp only [h3,iff_false]
     split<;>omega
 ·simp [h]
theorem kd_sign {t:List UInt8} {q:Nat}:kdX t q=4↔q < t.length∧t.getD q 0∈sgnL:=by
 unfold kdX kdC
 by_cases h:q < t.length
 ·simp only [h,if_true,true_and]
  cases h1:letB (t.getD q 0) with
  | true =>
   have:=(Z4C h1).2.2
   constructor
   ·intro h;cases h
   ·intro h;exact absurd h this
  | false =>
   cases h2:Za (t.getD q 0) with
   | true =>
    have:=(Z4N h2).2.2
    constructor
    ·intro h;cases h
    ·intro h;exact absurd h this
   | false =>
    simp only [Bool.false_eq_true,if_false]
    by_cases h3:(t.getD q 0).toNat=34
    ·rw [if_pos h3,Z2Q];omega
    ·rw [if_neg h3]
     by_cases h4:t.getD q 0∈sgnL
     ·rw [if_pos h4];exact ⟨fun _=>h4,fun _=>rfl⟩
     ·rw [if_neg h4];exact ⟨(fun h=>by cases h),fun h=>absurd h h4⟩
 ·simp [h]
theorem kd_end {t:List UInt8} {q:Nat}:kdX t q=0↔¬q < t.length:=by
 unfold kdX kdC
 by_cases h:q < t.length
 ·simp only [h,if_true,not_true,iff_false]
  repeat' split
  all_goals (intro h0;cases h0)
 ·simp [h]
end Sg
namespace Go.Proofs.YthomgjihagigcaaGreatDoor
open Sg Go.IntWalk
set_option maxRecDepth 100000
set_option maxHeartbeats 4000000
section
variable {F:World} {M:List Nat} {H:List Res} {t w:List UInt8} {p oc n:Nat} {a:Nat} {o:Int} {oa:Option Addr} {k:Nat}
theorem Z0k (hw:w≠[]∧letB (w.getD 0 0)=true) (ha:a≤t.length) (hl:t.length≤1024) :
  Meets Tryz.prog 41 [.pointer (some ⟨p,0,none⟩),sV w] F M (paR p t a o oa n oc H) (fun e H'=>e=.returned (.bool (decide (wdX t (Z2 t a)=w)))∧H'=paR p t (if wdX t (Z2 t a)=w then Z2 t a+w.length else Z2 t a) o oa n oc H):=by
 refine Meets.enter Tryz.func41 rfl rfl ?_
 have hle:=Zj (t:=t) ha
 repeat' (first|((first|apply T.mv|apply T.asn);apply rfl;apply rfl)|(with_reducible first|refine Sr.nil ?_|refine S.seq ?_|refine S.reg ?_)|fail)
 refine T.call rfl rfl (ZP ha hl) ?_
 rintro _ _ ⟨rfl,rfl⟩
 generalize Z2 t a=q at *
 have hh:wdX t q=w→kdX t q=1∧q+w.length≤t.length:=fun h=>by
  have h1:=Z1S hw.1 h
  obtain ⟨h2,h3,h4⟩:=Zu hw.1 h
  exact ⟨kd_word.2 ⟨h2,by rw [h1];exact hw.2⟩,by omega⟩
 by_cases h1:kdX t q=1
 ·repeat' (first|(apply T.mv;apply rfl;apply rfl)|(apply T.neq;(iterate 3 apply rfl))|(apply T.ungV;apply rfl;(first|with_reducible rfl|decide))|(apply T.gcase;apply rfl;apply rfl;all_goals (intro _;try (exfalso;first|omega|with_reducible contradiction)))|(with_reducible apply T.ofRet)|fail)
  refine T.call rfl rfl (Z2T hle hl) ?_
  rintro _ _ ⟨rfl,rfl⟩
  by_cases h2:wdX t q=w
  ·rw [decide_eq_true h2,if_pos h2]
   have h3:=(hh h2).2
   subst h2
   repeat' (first|(apply T.sneq;(iterate 3 apply rfl);rw [decide_eq_false (fun h=>h rfl)])|((first|apply T.slen|apply T.mv|apply T.asn|apply T.nilCheck|apply T.fieldAddrZ);apply rfl;apply rfl)|(apply T.load;apply rfl;apply rfl;infer_instance;apply rfl;apply rfl)|(apply T.addI;apply rfl;apply rfl;omega;apply rfl)|(apply T.pickF;(iterate 3 apply rfl))|(apply T.store;apply rfl;apply rfl;infer_instance;(first|decide|(simp;omega)|simp);apply rfl)|(with_reducible first|refine Sr.nil ?_|refine S.seq ?_|refine S.reg ?_|refine S.skip ?_)|(apply T.ungV;apply rfl;(first|with_reducible rfl|decide))|(apply S.condFV;apply rfl;(first|with_reducible rfl|decide))|(apply T.retW;apply rfl)|(with_reducible apply T.ofRet)|fail)
   exact ⟨_,PSub.refl _,rfl,rfl⟩
  ·rw [decide_eq_false h2,if_neg h2]
   repeat' (first|(apply T.sneq;(iterate 3 apply rfl);rw [decide_eq_true h2])|((first|apply T.mv|apply T.asn);apply rfl;apply rfl)|(apply T.pickF;(iterate 3 apply rfl))|(with_reducible first|refine Sr.nil ?_|refine S.seq ?_|refine S.reg ?_)|(apply T.ungV;apply rfl;(first|with_reducible rfl|decide))|(apply S.condTV;apply rfl;(first|with_reducible rfl|decide))|(apply T.retW;apply rfl)|(with_reducible apply T.ofRet)|fail)
   exact ⟨_,PSub.refl _,rfl,rfl⟩
 ·have h2:¬wdX t q=w:=fun h=>h1 (hh h).1
  rw [decide_eq_false h2,if_neg h2]
  repeat' (first|((first|apply T.mv|apply T.asn);apply rfl;apply rfl)|(apply T.neq;(iterate 3 apply rfl))|(apply T.pickT;(iterate 3 apply rfl))|(with_reducible first|refine Sr.nil ?_|refine S.seq ?_|refine S.reg ?_)|(apply T.skip;apply rfl;(first|with_reducible rfl|decide);apply rfl)|(apply S.condTV;apply rfl;(first|with_reducible rfl|decide))|(apply T.gcase;apply rfl;apply rfl;all_goals (intro _;try (exfalso;first|omega|with_reducible contradiction)))|(apply T.retW;apply rfl)|(with_reducible apply T.ofRet)|fail)
  exact ⟨_,PSub.refl _,rfl,rfl⟩
theorem Z1B (hk:k=40∨k=41∨k=46) (ha:a≤t.length) (hl:t.length≤1024) :
  Meets Tryz.prog 62 [.pointer (some ⟨p,0,none⟩),.int .u8 k] F M (paR p t a o oa n oc H) (fun e H'=>e=.returned (.bool (decide (Z2 t a < t.length∧(t.getD (Z2 t a) 0).toNat=k)))∧H'=paR p t (if Z2 t a < t.length∧(t.getD (Z2 t a) 0).toNat=k then Z2 t a+1 else Z2 t a) o oa n oc H):=by
 refine Meets.enter Tryz.func62 rfl rfl ?_
 have hle:=Zj (t:=t) ha
 have n1:=ZP (F:=F) (M:=M) (H:=H) (p:=p) (oc:=oc) (n:=n) (o:=o) (oa:=oa) ha hl
 generalize Z2 t a=q at *
 have hkd:=@kd_sign t q
 rw [Z2Q] at hkd
 by_cases h1:kdX t q=4
 ·obtain ⟨h2,h3⟩:=hkd.1 h1
  have hu:=(t.getD q 0).toNat_lt
  by_cases h4:(t.getD q 0).toNat=k
  ·rw [decide_eq_true ⟨h2,h4⟩,if_pos ⟨h2,h4⟩]
   repeat' (first|(apply T.asn;apply rfl;apply rfl)|(with_reducible first|refine Sr.nil ?_|refine S.seq ?_|refine S.reg ?_)|fail)
   (apply S.draw;(case Hs=>exact H);(case es=>exact  [1]);(case n=>exact  16);(case hn=>rfl))
   repeat' (first|(apply T.call;apply rfl;apply rfl;with_reducible exact n1;rintro _ _ ⟨rfl,rfl⟩)|(apply T.neq;(iterate 3 apply rfl);rw [decide_eq_false (by omega)])|(apply T.sidx;apply rfl;apply rfl;omega;apply rfl)|((first|apply T.mv|apply T.asn|apply T.nilCheck|apply T.fieldAddrZ);apply rfl;apply rfl)|(apply T.load;apply rfl;apply rfl;infer_instance;apply rfl;apply rfl)|(apply T.addI;apply rfl;apply rfl;omega;apply rfl)|(apply T.pickF;(iterate 3 apply rfl))|(apply T.store;apply rfl;apply rfl;infer_instance;(first|decide|(simp;omega)|simp);apply rfl)|(with_reducible first|refine Sr.nil ?_|refine S.seq ?_|refine S.reg ?_|refine S.skip ?_)|(apply S.condFV;apply rfl;(first|with_reducible rfl|decide))|(apply T.retW;apply rfl)|(with_reducible apply T.ofRet)|(apply SA.gz;(iterate 4 apply rfl);(first|with_reducible rfl|decide);apply rfl;kernel_rfl)|(apply SA.gn;(iterate 4 apply rfl);(first|with_reducible rfl|decide);apply rfl;kernel_rfl)|(apply SA.qn;(iterate 4 apply rfl);kernel_rfl)|(apply SA.en;apply rfl;apply rfl;kernel_rfl)|(apply SA.done;apply rfl;kernel_rfl)|(apply SK.intro;(first|exact fun _ h=>h|exact fun _ h=>St.psub h (by ((repeat (first|dsimp only [List.set_cons_zero]|dsimp only [List.set_cons_succ]));repeat' first|exact PSub.refl _|exact PSub.nil|(with_reducible apply PSub.app)|(apply PSub.take;(repeat' first|(with_reducible exact Z0)|(with_reducible apply Z1)))|(with_reducible apply PSub.drop)|((apply PSub.take);(repeat' first|exact Z0|(apply Z1)))))))|fail)
   skip
   exact ⟨_,PSub.refl _,rfl,rfl⟩
  ·rw [decide_eq_false (fun h=>h4 h.2),if_neg (fun h=>h4 h.2)]
   repeat' (first|(apply T.asn;apply rfl;apply rfl)|(with_reducible first|refine Sr.nil ?_|refine S.seq ?_|refine S.reg ?_)|fail)
   (apply S.draw;(case Hs=>exact H);(case es=>exact  [1]);(case n=>exact  16);(case hn=>rfl))
   repeat' (first|(apply T.call;apply rfl;apply rfl;with_reducible exact n1;rintro _ _ ⟨rfl,rfl⟩)|(apply T.neq;(iterate 3 apply rfl);first|rw [decide_eq_false (by omega)]|rw [decide_eq_true (by omega)])|(apply T.sidx;apply rfl;apply rfl;omega;apply rfl)|((first|apply T.mv|apply T.asn|apply T.nilCheck|apply T.fieldAddrZ);apply rfl;apply rfl)|(apply T.load;apply rfl;apply rfl;infer_instance;apply rfl;apply rfl)|(apply T.pickF;(iterate 3 apply rfl))|(with_reducible first|refine Sr.nil ?_|refine S.seq ?_|refine S.reg ?_)|(apply S.condTV;apply rfl;(first|with_reducible rfl|decide))|(apply T.retW;apply rfl)|(with_reducible apply T.ofRet)|(apply SA.gz;(iterate 4 apply rfl);(first|with_reducible rfl|decide);apply rfl;kernel_rfl)|(apply SA.gn;(iterate 4 apply rfl);(first|with_reducible rfl|decide);apply rfl;kernel_rfl)|(apply SA.qn;(iterate 4 apply rfl);kernel_rfl)|(apply SA.en;apply rfl;apply rfl;kernel_rfl)|(apply SA.done;apply rfl;kernel_rfl)|(apply SK.intro;(first|exact fun _ h=>h|exact fun _ h=>St.psub h (by ((repeat (first|dsimp only [List.set_cons_zero]|dsimp only [List.set_cons_succ]));repeat' first|exact PSub.refl _|exact PSub.nil|(with_reducible apply PSub.app)|(apply PSub.take;(repeat' first|(with_reducible exact Z0)|(with_reducible apply Z1)))|(with_reducible apply PSub.drop)|((apply PSub.take);(repeat' first|exact Z0|(apply Z1)))))))|fail)
   skip
   exact ⟨_,PSub.refl _,rfl,rfl⟩
 ·have h2:¬(q < t.length∧(t.getD q 0).toNat=k):=fun h=>h1 (hkd.2 ⟨h.1,by have:=h.2;omega⟩)
  rw [decide_eq_false h2,if_neg h2]
  repeat' (first|(apply T.asn;apply rfl;apply rfl)|(with_reducible first|refine Sr.nil ?_|refine S.seq ?_|refine S.reg ?_)|fail)
  (apply S.draw;(case Hs=>exact H);(case es=>exact  [1]);(case n=>exact  16);(case hn=>rfl))
  repeat' (first|(apply T.call;apply rfl;apply rfl;with_reducible exact n1;rintro _ _ ⟨rfl,rfl⟩)|(apply T.neq;(iterate 3 apply rfl);rw [decide_eq_true (by omega)])|((first|apply T.mv|apply T.asn);apply rfl;apply rfl)|(apply T.pickT;(iterate 3 apply rfl))|(with_reducible first|refine Sr.nil ?_|refine S.seq ?_|refine S.reg ?_)|(apply S.condTV;apply rfl;(first|with_reducible rfl|decide))|(apply T.retW;apply rfl)|(with_reducible apply T.ofRet)|(apply SA.gxv;(iterate 5 apply rfl);kernel_rfl;apply rfl)|(apply SA.qn;(iterate 4 apply rfl);kernel_rfl)|(apply SA.en;apply rfl;apply rfl;kernel_rfl)|(apply SA.done;apply rfl;kernel_rfl)|(apply SK.intro;(first|exact fun _ h=>h|exact fun _ h=>St.psub h (by ((repeat (first|dsimp only [List.set_cons_zero]|dsimp only [List.set_cons_succ]));repeat' first|exact PSub.refl _|exact PSub.nil|(with_reducible apply PSub.app)|(apply PSub.take;(repeat' first|(with_reducible exact Z0)|(with_reducible apply Z1)))|(with_reducible apply PSub.drop)|((apply PSub.take);(repeat' first|exact Z0|(apply Z1)))))))|fail)
  skip
  exact ⟨_,PSub.refl _,rfl,rfl⟩
end
end Go.Proofs.YthomgjihagigcaaGreatDoor
/- Nodes in a row that stand for values: forests; what has been read from a text is one value. -/
namespace Sg
inductive Fo:Nat→List Nd→Prop
 | nil:Fo 0 []
 | node {n:Nd} {m k:Nat} {a b:List Nd}:n.kids=(m:Int)→Fo m a→Fo k b→Fo (k+1) (n::(a++b))
theorem Fo.app {j:Nat} {a:List Nd} (h:Fo j a) {k:Nat} {b:List Nd} (hb:Fo k b):Fo (j+k) (a++b):=by
 induction h with
 | nil=>simpa using hb
 | @node n m i x y hn hx _ _ ih =>
  have:=Fo.node (n:=n) hn hx ih
  rw [List.cons_append,List.append_assoc,show i+1+k=i+k+1 by omega]
  exact this
theorem Fo.one {n:Nd} {m:Nat} {a:List Nd} (hn:n.kids=(m:Int)) (ha:Fo m a):Fo 1 (n::a):=by
 have:=Fo.node hn ha Fo.nil
 simpa using this
theorem Fo.one_inv {l:List Nd} (h:Fo 1 l):∃ (n:Nd) (m:Nat) (a:List Nd),l=n::a∧n.kids=(m:Int)∧Fo m a:=by
 cases h with
 | node hn ha hb =>
  cases hb
  exact ⟨_,_,_,by simp,hn,ha⟩
theorem Fo.named {l:List Nd} (h:Fo 1 l) (k:List UInt8):Fo 1 (Z02 l k):=by
 obtain ⟨n,m,a,rfl,h1,h2⟩:=h.one_inv
 exact Fo.one (n:=n.named k) h1 h2
theorem Z5h {wh:List UInt8→Int × Bool} {t:List UInt8} {p a:Nat} {c:UInt8} {l:List Nd} (h:ZT wh t p c=.ok a l):Fo 1 l:=by
 have key:∀ {α β:Type} {g:Gt α} {f:Nat→α→Gt β} {b:Nat} {y:β},(g.bind f=.ok b y)→∃ a v,g=.ok a v∧f a v=.ok b y:=fun {α β g f b y} h=>by
  cases g with
  | bad c' b'=>cases h
  | ok a v=>exact ⟨a,v,rfl,h⟩
 unfold ZT at h
 repeat' split at h
 all_goals first
  | (obtain ⟨b,v,-,h⟩:=key h;cases h;exact Fo.one (m:=0) rfl .nil)
  | cases h
def RowFo (hd:Nd) (out:List Nd):Prop:=∃ m:Nat,hd.kids=(m:Int)∧Fo m out
theorem RowFo.add {hd:Nd} {out l:List Nd} (h:RowFo hd out) (hl:Fo 1 l):RowFo hd.more (out++l):=by
 obtain ⟨m,h1,h2⟩:=h
 refine ⟨m+1,?_,h2.app hl⟩
 simp only [Nd.more,h1]
 omega
theorem Z88 {val:Nat→Gt (List Nd)} (hv:∀ {p a l},val p=.ok a l→Fo 1 l) {t:List UInt8} {obj:Bool} {p a:Nat} {names:List (List UInt8)} {g:List Nd × List UInt8} (h:Z0u val t obj p names=.ok a g):Fo 1 g.1:=by
 have key:∀ {α β:Type} {g:Gt α} {f:Nat→α→Gt β} {b:Nat} {y:β},(g.bind f=.ok b y)→∃ a v,g=.ok a v∧f a v=.ok b y:=fun {α β g f b y} h=>by
  cases g with
  | bad c' b'=>cases h
  | ok a v=>exact ⟨a,v,rfl,h⟩
 unfold Z0u at h
 split at h
 ·split at h
  ·obtain ⟨b,s,-,h⟩:=key h
   split at h
   ·cases h
   ·split at h
    ·obtain ⟨d,v,h1,h⟩:=key h
     cases h
     exact (hv h1).named _
    ·cases h
  ·cases h
 ·obtain ⟨d,v,h1,h⟩:=key h
  cases h
  exact hv h1
theorem Z7H {val:Nat→Gt (List Nd)} (hv:∀ {p a l},val p=.ok a l→Fo 1 l) {t:List UInt8} {obj:Bool}:∀ {f p a:Nat} {names:List (List UInt8)} {hd:Nd} {out l:List Nd},rowX val t obj f p names hd out=.ok a l→RowFo hd out→Fo 1 l
 | 0,p,a,names,hd,out,l,h,_=>by rw [rowX] at h;cases h
 | f+1,p,a,names,hd,out,l,h,hr=>by
  rw [rowX] at h
  cases hi:Z0u val t obj p names with
  | bad c b=>rw [hi] at h;cases h
  | ok b g =>
   rw [hi] at h
   have hg:=Z88 hv hi
   have hr2:=hr.add hg
   have h':rowE t obj (fun p'=>rowX val t obj f p' (names++[g.2]) hd.more (out++g.1)) b (hd.more::(out++g.1))=.ok a l:=h
   unfold rowE at h'
   split at h'
   ·cases h'
    obtain ⟨m,h1,h2⟩:=hr2
    exact Fo.one h1 h2
   ·split at h'
    ·exact Z7H hv h' hr2
    ·cases h'
theorem Z64 {wh:List UInt8→Int × Bool} {t:List UInt8}:∀ {d p a:Nat} {l:List Nd},valX wh t d p=.ok a l→Fo 1 l:=by
 intro d
 induction d with
 | zero =>
  intro p a l h
  rw [valX] at h
  split at h
  ·cases h
  ·split at h
   ·cases h
   ·exact Z5h h
 | succ d ih =>
  intro p a l h
  rw [valX] at h
  split at h
  ·cases h
  ·split at h
   ·rename_i c hc hb
    have h':(if atB t (Z2 t (p+1)) (ZG (decide (c=123)))=true then Gt.ok (Z2 t (p+1)+1) [nd (if c=123 then 7 else 6)] else rowX (valX wh t d) t (decide (c=123)) (t.length+1) (Z2 t (p+1)) [] (nd (if c=123 then 7 else 6)) [])=Gt.ok a l:=h
    split at h'
    ·cases h'
     exact Fo.one (m:=0) rfl .nil
    ·exact Z7H ih h' ⟨0,rfl,.nil⟩
   ·exact Z5h h
theorem Z7f {wh:List UInt8→Int × Bool} {t:List UInt8} {a:Nat} {l:List Nd} (h:ZM wh t=.ok a l):Fo 1 l:=by
 unfold ZM at h
 split at h
 ·cases h
 ·cases hv:valX wh t 32 (Z2 t 0) with
  | bad c b=>rw [hv] at h;cases h
  | ok b v =>
   rw [hv] at h
   have h':(if Z2 t b < t.length then Gt.bad 31 (Z2 t b) else .ok (Z2 t b) v)=.ok a l:=h
   split at h'
   ·cases h'
   ·cases h'
    exact Z64 hv
end Sg
/- What has been read from a text: how long it is, its texts and kinds. -/
namespace Sg
theorem Z05 {α β:Type} {g:Gt α} {f:Nat→α→Gt β} {b:Nat} {y:β} (h:g.bind f=.ok b y):∃ a v,g=.ok a v∧f a v=.ok b y:=by
 cases g with
 | bad c' b'=>cases h
 | ok a v=>exact ⟨a,v,rfl,h⟩
theorem Z7P (u:Nat):(utfL u).length≤4:=by
 unfold utfL
 split
 ·exact (show 1≤4 by decide)
 ·split
  ·exact (show 2≤4 by decide)
  ·split
   ·exact (show 3≤4 by decide)
   ·exact Nat.le_refl 4
theorem Z0P {t:List UInt8}:∀ {f p a:Nat} {acc s:List UInt8},p≤t.length→ZI t f p acc=.ok a s→acc.length≤4*p→s.length≤4*a
 | 0,p,a,acc,s,_,h,_=>by rw [ZI] at h;cases h
 | f+1,p,a,acc,s,hp,h,hl=>by
  rw [ZI] at h
  split at h
  ·cases h
  ·rename_i c hc
   have hlt:p < t.length:=(List.getElem?_eq_some_iff.1 hc).1
   split at h
   ·cases h
   ·split at h
    ·cases h
     omega
    ·split at h
     ·obtain ⟨b,u,h1,h2⟩:=Z05 h
      have h3:=Z0n b u h1
      have h4:=Z7P u
      exact Z0P h3.2 h2 (by rw [List.length_append];omega)
     ·split at h
      ·exact Z0P hlt h (by rw [List.length_append,List.length_singleton];omega)
      ·obtain ⟨b,u,h1,h2⟩:=Z05 h
       have h3:=ZY hlt b u h1
       exact Z0P h3.2 h2 (by rw [List.length_append,List.length_take,List.length_drop];omega)
theorem Z24 {t:List UInt8} {p a:Nat} {s:List UInt8} (hp:p≤t.length) (h:Zo t p=.ok a s):s.length≤4*t.length:=by
 have h1:=Z0P hp h (by simp)
 have h2:=(Zn hp a s h).2
 omega
structure NdOk (B:Nat) (n:Nd):Prop where
 text:n.text.length≤B
 key:n.key.length≤B
 kind:1≤n.kind∧n.kind≤7
theorem Z7u {wh:List UInt8→Int × Bool} {t:List UInt8} {p a:Nat} {c:UInt8} {l:List Nd} (hp:p < t.length) (h:ZT wh t p c=.ok a l):∀ n∈l,NdOk (4*t.length) n:=by
 unfold ZT at h
 split at h
 ·obtain ⟨b,s,h1,h⟩:=Z05 h
  cases h
  intro n hn
  rw [List.mem_singleton.1 hn]
  exact ⟨Z24 hp h1,Nat.zero_le _,(show (1:Int)≤5 by decide),(show (5:Int)≤7 by decide)⟩
 ·split at h
  ·obtain ⟨b,s,h1,h⟩:=Z05 h
   cases h
   intro n hn
   rw [List.mem_singleton.1 hn]
   refine ⟨?_,Nat.zero_le _,(show (1:Int)≤4 by decide),(show (4:Int)≤7 by decide)⟩
   simp only
   unfold sl
   rw [List.length_take,List.length_drop]
   omega
  ·repeat' split at h
   all_goals first
    | (obtain ⟨b,v,-,h⟩:=Z05 h;cases h;intro n hn;rw [List.mem_singleton.1 hn];exact ⟨Nat.zero_le _,Nat.zero_le _,by decide,by decide⟩)
    | cases h
def Z4T (t:List UInt8) (p a:Nat) (l:List Nd):Prop:=p+l.length≤a∧a≤t.length∧(∀ n∈l,NdOk (4*t.length) n)
theorem Z6w (l:List Nd) (k:List UInt8):(Z02 l k).length=l.length:=by cases l<;>rfl
theorem Z7j {B:Nat} {l:List Nd} {k:List UInt8} (h:∀ n∈l,NdOk B n) (hk:k.length≤B):∀ n∈Z02 l k,NdOk B n:=by
 cases l with
 | nil=>exact h
 | cons x r =>
  intro n hn
  rcases List.mem_cons.1 hn with rfl|hn
  ·have:=h x (List.mem_cons_self ..)
   exact ⟨this.text,hk,this.kind⟩
  ·exact h n (List.mem_cons_of_mem _ hn)
theorem Z6G {val:Nat→Gt (List Nd)} {t:List UInt8} (hv:∀ {p a l},p≤t.length→val p=.ok a l→Z4T t p a l) {obj:Bool} {p a:Nat} {names:List (List UInt8)} {g:List Nd × List UInt8} (hp:p≤t.length) (h:Z0u val t obj p names=.ok a g):Z4T t p a g.1∧g.2.length≤4*t.length:=by
 unfold Z0u at h
 split at h
 ·split at h
  ·rename_i hq
   have hlt:=Zz hq
   obtain ⟨b,s,h1,h⟩:=Z05 h
   have hf:=Zn (t:=t) (p:=p+1) hlt b s h1
   have hs:=Z24 (t:=t) (p:=p+1) hlt h1
   split at h
   ·cases h
   ·split at h
    ·rename_i hc
     have hlt2:=Zz hc
     have h2:=Zd t b
     have h3:=Zd t (Z2 t b+1)
     have h4:=Zb (t:=t) (p:=Z2 t b+1) hlt2
     obtain ⟨d,v,h5,h⟩:=Z05 h
     cases h
     obtain ⟨h6,h7,h8⟩:=hv h4 h5
     exact ⟨⟨by rw [Z6w];omega,h7,Z7j h8 hs⟩,hs⟩
    ·cases h
  ·cases h
 ·obtain ⟨d,v,h1,h⟩:=Z05 h
  cases h
  exact ⟨hv hp h1,Nat.zero_le _⟩
theorem Z7G {val:Nat→Gt (List Nd)} {t:List UInt8} (hv:∀ {p a l},p≤t.length→val p=.ok a l→Z4T t p a l) {obj:Bool} {s:Nat}:∀ {f p a:Nat} {names:List (List UInt8)} {hd:Nd} {out l:List Nd},rowX val t obj f p names hd out=.ok a l→p≤t.length→s+1+out.length≤p→NdOk (4*t.length) hd→(∀ n∈out,NdOk (4*t.length) n)→Z4T t s a l
 | 0,p,a,names,hd,out,l,h,_,_,_,_=>by rw [rowX] at h;cases h
 | f+1,p,a,names,hd,out,l,h,hp,hl,hh,ho=>by
  rw [rowX] at h
  cases hi:Z0u val t obj p names with
  | bad c b=>rw [hi] at h;cases h
  | ok b g =>
   rw [hi] at h
   obtain ⟨⟨g1,g2,g3⟩,-⟩:=Z6G hv hp hi
   have hh2:NdOk (4*t.length) hd.more:=⟨hh.text,hh.key,hh.kind⟩
   have ho2:∀ n∈out++g.1,NdOk (4*t.length) n:=fun n hn=>(List.mem_append.1 hn).elim (ho n) (g3 n)
   have h':rowE t obj (fun p'=>rowX val t obj f p' (names++[g.2]) hd.more (out++g.1)) b (hd.more::(out++g.1))=.ok a l:=h
   unfold rowE at h'
   have hb:=Zd t b
   split at h'
   ·rename_i hc
    have hlt:=Zz hc
    cases h'
    refine ⟨?_,by omega,fun n hn=>(List.mem_cons.1 hn).elim (fun e=>e ▸ hh2) (ho2 n)⟩
    rw [List.length_cons,List.length_append]
    omega
   ·split at h'
    ·rename_i hc
     have hlt:=Zz hc
     have h3:=Zd t (Z2 t b+1)
     have h4:=Zb (t:=t) (p:=Z2 t b+1) hlt
     exact Z7G hv h' h4 (by rw [List.length_append];omega) hh2 ho2
    ·cases h'
theorem Z8q {B:Nat} {k:Int} (h:1≤k∧k≤7):NdOk B (nd k):=⟨Nat.zero_le _,Nat.zero_le _,h⟩
theorem Z63 {wh:List UInt8→Int × Bool} {t:List UInt8}:∀ {d p a:Nat} {l:List Nd},p≤t.length→valX wh t d p=.ok a l→Z4T t p a l:=by
 have flat:∀ {p a:Nat} {l:List Nd} {c:UInt8},t[p]?=some c→ZT wh t p c=.ok a l→Z4T t p a l:=by
  intro p a l c hc h
  have hlt:p < t.length:=(List.getElem?_eq_some_iff.1 hc).1
  have h1:=Z0m hlt a l h
  obtain ⟨n,h2,-⟩:=Z41 h
  refine ⟨?_,h1.2,Z7u hlt h⟩
  rw [h2,List.length_singleton]
  omega
 intro d
 induction d with
 | zero =>
  intro p a l hp h
  rw [valX] at h
  split at h
  ·cases h
  ·rename_i hc
   split at h
   ·cases h
   ·exact flat hc h
 | succ d ih =>
  intro p a l hp h
  rw [valX] at h
  split at h
  ·cases h
  ·rename_i c hc
   have hlt:p < t.length:=(List.getElem?_eq_some_iff.1 hc).1
   have hk:(1:Int)≤(if c=123 then 7 else 6)∧(if c=123 then 7 else 6:Int)≤7:=by split<;>decide
   split at h
   ·have h':(if atB t (Z2 t (p+1)) (ZG (decide (c=123)))=true then Gt.ok (Z2 t (p+1)+1) [nd (if c=123 then 7 else 6)] else rowX (valX wh t d) t (decide (c=123)) (t.length+1) (Z2 t (p+1)) [] (nd (if c=123 then 7 else 6)) [])=Gt.ok a l:=h
    clear h
    have h:=h'
    clear h'
    have h3:=Zd t (p+1)
    have h4:=Zb (t:=t) (p:=p+1) hlt
    split at h
    ·rename_i hq
     have hlt2:=Zz hq
     cases h
     refine ⟨by rw [List.length_singleton];omega,by omega,fun n hn=>?_⟩
     rw [List.mem_singleton.1 hn]
     exact Z8q hk
    ·exact Z7G ih h h4 (by simp only [List.length_nil];omega) (Z8q hk) (fun n hn=>by cases hn)
   ·exact flat hc h
theorem Z54 {wh:List UInt8→Int × Bool} {t:List UInt8} {a:Nat} {l:List Nd} (h:ZM wh t=.ok a l):l.length≤t.length∧(∀ n∈l,NdOk (4*t.length) n)∧t.length≤262144:=by
 unfold ZM at h
 split at h
 ·cases h
 ·obtain ⟨b,v,hv,h⟩:=Z05 h
  split at h
  ·cases h
  ·cases h
   obtain ⟨h1,h2,h3⟩:=Z63 (Zb (Nat.zero_le _)) hv
   exact ⟨by omega,h3,by omega⟩
end Sg
/- Faults of what is read from a text are never 0; a list's names are not asked. -/
namespace Sg
def Gt.named {α:Type} (g:Gt α):Prop:=∀ c b,g=.bad c b→c≠0
theorem Gt.named_bad {α:Type} {c:Int} {b:Nat} (h:c≠0):(Gt.bad c b:Gt α).named:=fun _ _ e=>by cases e;exact h
theorem Gt.named_ok {α:Type} {a:Nat} {v:α}:(Gt.ok a v).named:=fun _ _ e=>by cases e
theorem Gt.named_bind {α β:Type} {g:Gt α} {f:Nat→α→Gt β} (h:g.named) (hf:∀ a v,g=.ok a v→(f a v).named):(g.bind f).named:=fun c b e=>by
 cases g with
 | bad c' b'=>cases e;exact h _ _ rfl
 | ok a v=>exact hf a v rfl c b e
theorem Z19 {t:List UInt8} {p:Nat}:(ZF t p).named:=by
 unfold ZF
 split
 ·exact Gt.named_bad (by decide)
 ·exact Gt.named_ok
theorem Z3N {t:List UInt8} {p:Nat}:(Z0y t p).named:=by
 unfold Z0y
 split
 ·exact Gt.named_ok
 ·exact Z19
theorem Z5I {t:List UInt8} {p:Nat}:(numX t p).named:=by
 unfold numX
 refine Gt.named_bind Z3N fun a _ _=>Gt.named_bind ?_ fun b _ _=>?_
 ·unfold ZU
  split
  ·exact Z19
  ·exact Gt.named_ok
 ·unfold Z0z
  split
  ·exact Z19
  ·exact Gt.named_ok
theorem Z0p {t:List UInt8}:∀ {ws:List UInt8} {p:Nat},(ZL t p ws).named
 | [],p=>Gt.named_ok
 | w::ws,p=>by
  rw [ZL]
  split
  ·exact Z0p
  ·exact Gt.named_bad (by decide)
theorem Z18 {t:List UInt8} {low:Bool} {fr:Nat}:∀ {k p u:Nat},(Zr t low fr k p u).named
 | 0,p,u=>Gt.named_ok
 | k+1,p,u=>by
  rw [Zr]
  split
  ·exact Gt.named_bad (by decide)
  ·split
   ·exact Gt.named_bad (by decide)
   ·split
    ·exact Gt.named_bad (by decide)
    ·exact Z18
theorem Z1Y {t:List UInt8} {fr p:Nat} {c:UInt8}:(Z0q t fr p c).named:=by
 unfold Z0q
 split
 ·exact Gt.named_bad (by decide)
 ·split
  ·exact Gt.named_ok
  ·exact Gt.named_bad (by decide)
theorem Z5X {t:List UInt8} {fr:Nat}:(escX t fr).named:=by
 unfold escX
 split
 ·exact Gt.named_bad (by decide)
 ·split
  ·unfold Z0G
   refine Gt.named_bind Z18 fun a v _=>?_
   split
   ·exact Gt.named_ok
   ·exact Gt.named_bind Z1Y fun _ _ _=>Gt.named_bind Z1Y fun _ _ _=>Gt.named_bind Z18 fun _ _ _=>Gt.named_ok
  ·split
   ·exact Gt.named_ok
   ·exact Gt.named_bad (by decide)
theorem Z2B {t:List UInt8} {fr:Nat}:∀ {k p lo hi:Nat},(seqX t fr k p lo hi).named
 | 0,p,lo,hi=>Gt.named_ok
 | k+1,p,lo,hi=>by
  rw [seqX]
  split
  ·exact Gt.named_bad (by decide)
  ·split
   ·exact Gt.named_bad (by decide)
   ·exact Z2B
theorem Z4k {t:List UInt8} {p:Nat} {c:UInt8}:(Z0g t p c).named:=by
 unfold Z0g
 split
 ·exact Gt.named_bad (by decide)
 ·exact Z2B
theorem Z0s {t:List UInt8}:∀ {f p:Nat} {acc:List UInt8},p≤t.length→t.length < p+f→(ZI t f p acc).named
 | 0,p,acc,h1,h2=>by omega
 | f+1,p,acc,h1,h2=>by
  rw [ZI]
  split
  ·exact Gt.named_bad (by decide)
  ·rename_i c hc
   have hlt:p < t.length:=(List.getElem?_eq_some_iff.1 hc).1
   split
   ·exact Gt.named_bad (by decide)
   ·split
    ·exact Gt.named_ok
    ·split
     ·refine Gt.named_bind Z5X fun a v hv=>?_
      have:=Z0n a v hv
      exact Z0s this.2 (by omega)
     ·split
      ·exact Z0s hlt (by omega)
      ·refine Gt.named_bind Z4k fun a v hv=>?_
       have:=ZY hlt a v hv
       exact Z0s this.2 (by omega)
theorem Z06 {t:List UInt8} {p:Nat} (h:p≤t.length):(Zo t p).named:=Z0s h (by omega)
theorem Z2k {wh:List UInt8→Int × Bool} {t:List UInt8} {p:Nat} {c:UInt8} (h:p < t.length):(ZT wh t p c).named:=by
 unfold ZT
 split
 ·exact Gt.named_bind (Z06 h) fun _ _ _=>Gt.named_ok
 ·split
  ·exact Gt.named_bind Z5I fun _ _ _=>Gt.named_ok
  ·split
   ·exact Gt.named_bind Z0p fun _ _ _=>Gt.named_ok
   ·split
    ·exact Gt.named_bind Z0p fun _ _ _=>Gt.named_ok
    ·split
     ·exact Gt.named_bind Z0p fun _ _ _=>Gt.named_ok
     ·exact Gt.named_bad (by decide)
structure ValR (t:List UInt8) (val:Nat→Gt (List Nd)):Prop where
 fits:∀ p,p≤t.length→(val p).fits (p+1) t.length
 sz:∀ {p a l},p≤t.length→val p=.ok a l→Z4T t p a l
 fo:∀ {p a l},val p=.ok a l→Fo 1 l
 named:∀ p,p≤t.length→(val p).named
theorem Z2a {val:Nat→Gt (List Nd)} {t:List UInt8} (hv:ValR t val) {obj:Bool} {p:Nat} {names:List (List UInt8)} (hp:p≤t.length):(Z0u val t obj p names).fits (p+1) t.length:=by
 unfold Z0u
 split
 ·split
  ·rename_i hq
   have hlt:=Zz hq
   refine Gt.fits_bind (Zn (t:=t) (p:=p+1) hlt) fun b s h1 h2=>?_
   split
   ·exact Gt.fits_bad
   ·split
    ·rename_i hc
     have hlt2:=Zz hc
     have h3:=Zd t b
     have h4:=Zd t (Z2 t b+1)
     have h5:=Zb (t:=t) (p:=Z2 t b+1) hlt2
     intro a v h
     obtain ⟨d,l,h6,h7⟩:=Z05 h
     cases h7
     have:=hv.fits _ h5 _ _ h6
     omega
    ·exact Gt.fits_bad
  ·exact Gt.fits_bad
 ·intro a v h
  obtain ⟨d,l,h6,h7⟩:=Z05 h
  cases h7
  exact hv.fits _ hp _ _ h6
theorem Z2P {val:Nat→Gt (List Nd)} {t:List UInt8} (hv:ValR t val) {obj:Bool} {p:Nat} {names:List (List UInt8)} (hp:p≤t.length):(Z0u val t obj p names).named:=by
 unfold Z0u
 split
 ·split
  ·rename_i hq
   have hlt:=Zz hq
   refine Gt.named_bind (Z06 (t:=t) (p:=p+1) hlt) fun b s h1=>?_
   split
   ·exact Gt.named_bad (by decide)
   ·split
    ·rename_i hc
     have hlt2:=Zz hc
     exact Gt.named_bind (hv.named _ (Zb (t:=t) (p:=Z2 t b+1) hlt2)) fun _ _ _=>Gt.named_ok
    ·exact Gt.named_bad (by decide)
  ·exact Gt.named_bad (by decide)
 ·exact Gt.named_bind (hv.named _ hp) fun _ _ _=>Gt.named_ok
theorem Z3C {val:Nat→Gt (List Nd)} {t:List UInt8} (hv:ValR t val) {obj:Bool}:∀ {f p:Nat} {names:List (List UInt8)} {hd:Nd} {out:List Nd},p≤t.length→t.length < p+f→(rowX val t obj f p names hd out).named
 | 0,p,names,hd,out,h1,h2=>by omega
 | f+1,p,names,hd,out,h1,h2=>by
  rw [rowX]
  refine Gt.named_bind (Z2P hv h1) fun a g hg=>?_
  have h3:=Z2a hv h1 a g hg
  unfold rowE
  split
  ·exact Gt.named_ok
  ·split
   ·rename_i hc
    have hlt:=Zz hc
    have h4:=Zd t a
    have h5:=Zd t (Z2 t a+1)
    have h6:=Zb (t:=t) (p:=Z2 t a+1) hlt
    exact Z3C hv h6 (by omega)
   ·exact Gt.named_bad (by decide)
theorem Z4Z {val:Nat→Gt (List Nd)} {t:List UInt8} (hv:ValR t val) {obj:Bool}:∀ {f p:Nat} {names:List (List UInt8)} {hd:Nd} {out:List Nd},p≤t.length→(rowX val t obj f p names hd out).fits (p+1) t.length
 | 0,p,names,hd,out,h1=>by rw [rowX];exact Gt.fits_bad
 | f+1,p,names,hd,out,h1=>by
  rw [rowX]
  refine Gt.fits_bind (Z2a hv h1) fun a g h3 h4=>?_
  have h5:=Zd t a
  unfold rowE
  split
  ·rename_i hc
   have hlt:=Zz hc
   exact Gt.fits_ok (by omega)
  ·split
   ·rename_i hc
    have hlt:=Zz hc
    have h6:=Zd t (Z2 t a+1)
    have h7:=Zb (t:=t) (p:=Z2 t a+1) hlt
    intro b v h
    have:=Z4Z hv h7 b v h
    omega
   ·exact Gt.fits_bad
theorem Z34 {wh:List UInt8→Int × Bool} {t:List UInt8}:∀ d,ValR t (valX wh t d):=by
 intro d
 induction d with
 | zero =>
  refine ⟨fun p hp=>?_,Z63,Z64,fun p hp=>?_⟩
  ·rw [valX]
   split
   ·exact Gt.fits_bad
   ·rename_i c hc
    split
    ·exact Gt.fits_bad
    ·exact Z0m (List.getElem?_eq_some_iff.1 hc).1
  ·rw [valX]
   split
   ·exact Gt.named_bad (by decide)
   ·rename_i c hc
    split
    ·exact Gt.named_bad (by decide)
    ·exact Z2k (List.getElem?_eq_some_iff.1 hc).1
 | succ d ih =>
  refine ⟨fun p hp=>?_,Z63,Z64,fun p hp=>?_⟩
  ·rw [valX]
   split
   ·exact Gt.fits_bad
   ·rename_i c hc
    have hlt:p < t.length:=(List.getElem?_eq_some_iff.1 hc).1
    split
    ·simp only
     have h3:=Zd t (p+1)
     have h4:=Zb (t:=t) (p:=p+1) hlt
     split
     ·rename_i hq
      have hlt2:=Zz hq
      exact Gt.fits_ok (by omega)
     ·intro a v h
      have:=Z4Z ih h4 a v h
      omega
    ·exact Z0m hlt
  ·rw [valX]
   split
   ·exact Gt.named_bad (by decide)
   ·rename_i c hc
    have hlt:p < t.length:=(List.getElem?_eq_some_iff.1 hc).1
    split
    ·simp only
     have h4:=Zb (t:=t) (p:=p+1) hlt
     split
     ·exact Gt.named_ok
     ·exact Z3C ih h4 (by omega)
    ·exact Z2k hlt
theorem Z2N {wh:List UInt8→Int × Bool} {t:List UInt8} {c:Int} {b:Nat} (h:ZM wh t=.bad c b):c≠0:=by
 unfold ZM at h
 split at h
 ·cases h
  decide
 ·cases hv:valX wh t 32 (Z2 t 0) with
  | bad c' b' =>
   rw [hv] at h
   cases h
   exact (Z34 (wh:=wh) (t:=t) 32).named _ (Zb (Nat.zero_le _)) _ _ hv
  | ok a v =>
   rw [hv] at h
   have h':(if Z2 t a < t.length then Gt.bad 31 (Z2 t a) else .ok (Z2 t a) v)=.bad c b:=h
   split at h'
   ·cases h'
    decide
   ·cases h'
end Sg
/- The walks of the program's reader of rules: parts of a path. -/
/- guards -/
namespace Sg
theorem Z8l (f:UInt8→Bool) (t:List UInt8) (p:Nat):sl t p (runE f t p)=(t.drop p).takeWhile f:=by
 unfold sl runE
 rw [Nat.add_sub_cancel_left]
 exact (List.prefix_iff_eq_take.1 (List.takeWhile_prefix f)).symm
theorem Z39 {f:UInt8→Bool} {t:List UInt8} {p:Nat}:∀ j,j < (sl t p (runE f t p)).length→f ((sl t p (runE f t p)).getD j 0)=true:=by
 rw [Z8l]
 intro j hj
 have h:=List.all_takeWhile (p:=f) (l:=t.drop p)
 rw [List.all_eq_true] at h
 have h2:((t.drop p).takeWhile f).getD j 0=((t.drop p).takeWhile f)[j]:=by simp [List.getD,hj]
 rw [h2]
 exact h _ (List.getElem_mem hj)
def nmB (s:List UInt8):Bool:=decide (s∉kwL)
def inS (s:List UInt8):List (List UInt8)→Nat→Int
 | [],_ => -1
 | x::l,i=>if s=x then (i:Int) else inS s l (i+1)
theorem Z6H (s:List UInt8):∀ (l:List (List UInt8)) (i:Nat),(0≤inS s l i↔s∈l)
 | [],i=>by simp [inS]
 | x::l,i=>by
  rw [inS]
  by_cases h:s=x
  ·rw [if_pos h,h];simp
  ·rw [if_neg h,Z6H s l (i+1)];simp [h]
theorem Z3M {t:List UInt8} {a:Nat} {l:List Nd} (h:ZM Z9 t=.ok a l):∃ x r,l=x::r:=by
 have hf:=Z7f h
 cases hf with
 | node=>exact ⟨_,_,rfl⟩
end Sg
namespace Go.Proofs.YthomgjihagigcaaGreatDoor
open Sg Go.IntWalk
set_option maxRecDepth 100000
set_option maxHeartbeats 4000000
structure GtT (F:World) (M:List Nat):Prop where
 kw:∃ (a:Option Addr) (c:Nat),(∀ H,Rd F M H (some ⟨2,0,none⟩) [.slice a 8 c])∧∀ H,Rd F M H a (kwL.map sV)
 op:∃ (a:Option Addr) (c:Nat),(∀ H,Rd F M H (some ⟨0,0,none⟩) [.slice a 6 c])∧∀ H,Rd F M H a [sV [33,61],.int .i64 6,sV [60,61],.int .i64 8,sV [62,61],.int .i64 10,sV [61],.int .i64 5,sV [60],.int .i64 7,sV [62],.int .i64 9]
section
variable {F:World} {M:List Nat} {H:List Res} {t s:List UInt8} {p oc n:Nat} {a:Nat} {o:Int} {oa:Option Addr} {k:Nat}
theorem Z5Q {ad:Option Addr} {cp:Nat} {xs:List (List UInt8)} (hx:Rd F M H ad (xs.map sV)) (hl:xs.length≤1000):Meets Tryz.prog 100 [.slice ad xs.length cp,sV s] F M H (fun e H'=>e=.returned (.int .i64 (inS s xs 0))∧H'=H):=by
 refine Meets.enter Tryz.func100 rfl rfl ?_
 generalize hQ:inS s xs 0=Q
 repeat' (first|((first|apply T.mv|apply T.asn|apply T.len);apply rfl;apply rfl)|(with_reducible first|refine Sr.nil ?_|refine S.seq ?_|refine S.block ?_|refine S.reg ?_)|fail)
 refine S.loopE 0 [0,1,7] (fun R b' μ H' e=>∃ i:Nat,H'=R∧e=(8,.int .i64 i)::b'∧(i≤xs.length∧inS s (xs.drop i) i=Q)∧μ=xs.length - i) rfl rfl ?_ _ _ ⟨0,rfl,rfl,⟨Nat.zero_le _,hQ⟩,rfl⟩ (by repeat' first|exact trivial|refine And.intro rfl ?_)
 rintro _ _ _ ⟨i,rfl,rfl,⟨h1,h2⟩,rfl⟩ ih
 by_cases h3:i < xs.length
 ·have hd:xs.drop i=xs.getD i []::xs.drop (i+1):=by
   rw [List.drop_eq_getElem_cons h3]
   simp [List.getD,h3]
  rw [hd,inS] at h2
  by_cases h4:s=xs.getD i []
  ·rw [if_pos h4] at h2
   subst h2
   clear ih
   repeat' (first|(apply T.seql;(iterate 3 apply rfl);rw [decide_eq_true h4])|(apply T.loadS;apply rfl;infer_instance;(first|omega|(simp only [List.length_map];omega));apply rfl)|((first|apply T.mv|apply T.asn);apply rfl;apply rfl)|(apply T.lss;(iterate 3 apply rfl))|(apply T.ixN;apply rfl;apply rfl;infer_instance;omega;(first|omega|(simp only [List.length_map];omega)|(simp;omega));apply rfl)|(with_reducible first|refine Sr.nil ?_|refine S.seq ?_|refine S.block ?_|refine S.reg ?_|refine S.skip ?_)|(apply S.condTV;apply rfl;(first|with_reducible rfl|decide))|(apply S.condQ;apply rfl;all_goals (intro _;try (exfalso;first|omega|with_reducible contradiction)))|(apply T.retW;apply rfl)|fail)
   exact ⟨_,PSub.refl _,rfl,rfl⟩
  ·rw [if_neg h4] at h2
   repeat' (first|(apply T.seql;(iterate 3 apply rfl);rw [decide_eq_false h4])|(apply T.loadS;apply rfl;infer_instance;(first|omega|(simp only [List.length_map];omega));apply rfl)|((first|apply T.mv|apply T.asn);apply rfl;apply rfl)|(apply T.lss;(iterate 3 apply rfl))|(apply T.addI;apply rfl;apply rfl;omega;apply rfl)|(apply T.ixN;apply rfl;apply rfl;infer_instance;omega;(first|omega|(simp only [List.length_map];omega)|(simp;omega));apply rfl)|(with_reducible first|refine Sr.nil ?_|refine S.seq ?_|refine S.block ?_|refine S.reg ?_|refine S.skip ?_|refine S.inBlock ?_)|(apply S.condFV;apply rfl;(first|with_reducible rfl|decide))|(apply S.condQ;apply rfl;all_goals (intro _;try (exfalso;first|omega|with_reducible contradiction)))|fail)
   exact ih _ _ _ _ ⟨i+1,rfl,rfl,⟨h3,h2⟩,rfl⟩ (by omega) (by repeat' first|exact trivial|refine And.intro rfl ?_)
 ·obtain rfl:i=xs.length:=by omega
  rw [List.drop_length,inS] at h2
  subst h2
  clear ih
  repeat' (first|(apply T.asn;apply rfl;apply rfl)|(apply T.lss;(iterate 3 apply rfl))|(with_reducible first|refine Sr.nil ?_|refine S.seq ?_|refine S.reg ?_)|(apply S.exit;apply rfl)|(apply S.condQ;apply rfl;all_goals (intro _;try (exfalso;first|omega|with_reducible contradiction)))|(apply T.retW;apply rfl)|fail)
  exact ⟨_,PSub.refl _,rfl,rfl⟩
theorem Z3s {ad:Option Addr} {cp:Nat} {xs:List (List UInt8)} (hx:Rd F M H ad (xs.map sV)) (hl:xs.length≤1000):Meets Tryz.prog 90 [.slice ad xs.length cp,sV s] F M H (fun e H'=>e=.returned (.bool (decide (s∈xs)))∧H'=H):=by
 refine Meets.enter Tryz.func90 rfl rfl ?_
 repeat' (first|((first|apply T.mv|apply T.asn);apply rfl;apply rfl)|(with_reducible first|refine Sr.nil ?_|refine S.seq ?_|refine S.reg ?_)|fail)
 refine T.call rfl rfl (Z5Q (s:=s) hx hl) ?_
 rintro _ _ ⟨rfl,rfl⟩
 have h:=Z6H s xs 0
 have h2:decide (s∈xs)=decide ((0:Int)≤inS s xs 0):=by rw [decide_eq_decide,h]
 rw [h2]
 repeat' (first|(apply T.asn;apply rfl;apply rfl)|(apply T.geq;(iterate 3 apply rfl))|with_reducible refine Sr.nil ?_|(apply T.retW;apply rfl)|(with_reducible apply T.ofRet)|fail)
 exact ⟨_,PSub.refl _,rfl,rfl⟩
theorem Z4F (hT:GtT F M) (h0:s≠[]) (h1:letB (s.getD 0 0)=true) (h2:∀ j,j < s.length→wdB (s.getD j 0)=true) (hl:s.length≤1024) :
  Meets Tryz.prog 81 [sV s] F M H (fun e H'=>e=.returned (.bool (nmB s))∧H'=H):=by
 refine Meets.enter Tryz.func81 rfl rfl ?_
 obtain ⟨ka,kc,k1,k2⟩:=hT.kw
 have hp:0 < s.length:=List.length_pos_iff.2 h0
 repeat' (first|(apply T.seql;(iterate 3 apply rfl);rw [decide_eq_false h0])|(apply T.sidx;apply rfl;apply rfl;omega;apply rfl)|((first|apply T.mv|apply T.asn);apply rfl;apply rfl)|(with_reducible first|refine Sr.nil ?_|refine S.seq ?_|refine S.reg ?_)|(apply T.ungV;apply rfl;(first|with_reducible rfl|decide))|fail)
 refine T.call rfl rfl (Z08 (c:=s.getD 0 0)) ?_
 rintro _ _ ⟨rfl,rfl⟩
 rw [h1]
 repeat' (first|(apply T.mv;apply rfl;apply rfl)|(apply T.notB;apply rfl;apply rfl)|(apply T.pickF;(iterate 3 apply rfl))|(apply T.ungV;apply rfl;(first|with_reducible rfl|decide))|(with_reducible apply T.ofRet)|fail)
 refine T.loadE (j:=0) rfl rfl (k1 _) rfl rfl ?_
 repeat' (first|(apply T.mv;apply rfl;apply rfl)|(apply T.ungV;apply rfl;(first|with_reducible rfl|decide))|fail)
 refine T.call rfl rfl (Z3s (s:=s) (xs:=kwL) (k2 _) (by decide)) ?_
 rintro _ _ ⟨rfl,rfl⟩
 by_cases h3:s∈kwL
 ·rw [decide_eq_true h3,show nmB s=false from decide_eq_false (fun h=>h h3)]
  repeat' (first|(apply T.asn;apply rfl;apply rfl)|(apply T.pickF;(iterate 3 apply rfl))|(with_reducible first|refine Sr.nil ?_|refine S.seq ?_|refine S.reg ?_)|(apply S.condTV;apply rfl;(first|with_reducible rfl|decide))|(apply T.retW;apply rfl)|(with_reducible apply T.ofRet)|fail)
  exact ⟨_,PSub.refl _,rfl,rfl⟩
 ·rw [decide_eq_false h3,show nmB s=true from decide_eq_true h3]
  repeat' (first|((first|apply T.slen|apply T.mv);apply rfl;apply rfl)|(apply T.pickF;(iterate 3 apply rfl))|(with_reducible first|refine Sr.nil ?_|refine S.seq ?_|refine S.block ?_|refine S.reg ?_|refine S.skip ?_)|(apply S.condFV;apply rfl;(first|with_reducible rfl|decide))|(with_reducible apply T.ofRet)|fail)
  refine S.loopE 0 [0,18] (fun R b' μ H' e=>∃ i:Nat,H'=R∧e=(19,.int .i64 i)::b'∧i≤s.length∧μ=s.length - i) rfl rfl ?_ _ _ ⟨0,rfl,rfl,Nat.zero_le _,rfl⟩ (by repeat' first|exact trivial|refine And.intro rfl ?_)
  rintro _ _ _ ⟨i,rfl,rfl,h4,rfl⟩ ih
  by_cases h5:i < s.length
  ·have h6:=h2 i h5
   unfold wdB at h6
   repeat' (first|(apply T.sidx;apply rfl;apply rfl;omega;apply rfl)|((first|apply T.mv|apply T.asn);apply rfl;apply rfl)|(apply T.lss;(iterate 3 apply rfl))|(with_reducible first|refine Sr.nil ?_|refine S.seq ?_|refine S.block ?_|refine S.reg ?_|refine S.skip ?_)|(apply S.condQ;apply rfl;all_goals (intro _;try (exfalso;first|omega|with_reducible contradiction)))|fail)
   refine T.call rfl rfl (Z08 (c:=s.getD i 0)) ?_
   rintro _ _ ⟨rfl,rfl⟩
   cases h7:letB (s.getD i 0) with
   | true =>
    repeat' (first|(apply T.mv;apply rfl;apply rfl)|(apply T.addI;apply rfl;apply rfl;omega;apply rfl)|(apply T.notB;apply rfl;apply rfl)|(apply T.pickF;(iterate 3 apply rfl))|(with_reducible first|refine Sr.nil ?_|refine S.reg ?_|refine S.skip ?_|refine S.inBlock ?_)|(apply T.skip;apply rfl;(first|with_reducible rfl|decide);apply rfl)|(apply S.condFV;apply rfl;(first|with_reducible rfl|decide))|(with_reducible apply T.ofRet)|fail)
    exact ih _ _ _ _ ⟨i+1,rfl,rfl,h5,rfl⟩ (by omega) (by repeat' first|exact trivial|refine And.intro rfl ?_)
   | false =>
    rw [h7,Bool.false_or] at h6
    repeat' (first|(apply T.sidx;apply rfl;apply rfl;omega;apply rfl)|(apply T.mv;apply rfl;apply rfl)|(apply T.notB;apply rfl;apply rfl)|(apply T.ungV;apply rfl;(first|with_reducible rfl|decide))|(with_reducible apply T.ofRet)|fail)
    refine T.call rfl rfl (ZQ (c:=s.getD i 0)) ?_
    rintro _ _ ⟨rfl,rfl⟩
    rw [h6]
    repeat' (first|(apply T.mv;apply rfl;apply rfl)|(apply T.addI;apply rfl;apply rfl;omega;apply rfl)|(apply T.notB;apply rfl;apply rfl)|(apply T.pickT;(iterate 3 apply rfl))|(with_reducible first|refine Sr.nil ?_|refine S.reg ?_|refine S.skip ?_|refine S.inBlock ?_)|(apply T.ungV;apply rfl;(first|with_reducible rfl|decide))|(apply S.condFV;apply rfl;(first|with_reducible rfl|decide))|(with_reducible apply T.ofRet)|fail)
    exact ih _ _ _ _ ⟨i+1,rfl,rfl,h5,rfl⟩ (by omega) (by repeat' first|exact trivial|refine And.intro rfl ?_)
  ·clear ih
   repeat' (first|(apply T.asn;apply rfl;apply rfl)|(apply T.lss;(iterate 3 apply rfl))|(with_reducible first|refine Sr.nil ?_|refine S.seq ?_|refine S.reg ?_)|(apply S.exit;apply rfl)|(apply S.condQ;apply rfl;all_goals (intro _;try (exfalso;first|omega|with_reducible contradiction)))|(apply T.retW;apply rfl)|fail)
   exact ⟨_,PSub.refl _,rfl,rfl⟩
theorem Z3T (h2:∀ j,j < s.length→Za (s.getD j 0)=true) (hl:s.length≤1024) :
  Meets Tryz.prog 82 [sV s] F M H (fun e H'=>e=.returned (.bool (plB s))∧H'=H):=by
 refine Meets.enter Tryz.func82 rfl rfl ?_
 repeat' (first|((first|apply T.slen|apply T.mv|apply T.asn);apply rfl;apply rfl)|(with_reducible first|refine Sr.nil ?_|refine S.seq ?_|refine S.block ?_|refine S.reg ?_)|fail)
 refine S.loopE 0 [0,5] (fun R b' μ H' e=>∃ i:Nat,H'=R∧e=(6,.int .i64 i)::b'∧i≤s.length∧μ=s.length - i) rfl rfl ?_ _ _ ⟨0,rfl,rfl,Nat.zero_le _,rfl⟩ (by repeat' first|exact trivial|refine And.intro rfl ?_)
 rintro _ _ _ ⟨i,rfl,rfl,h4,rfl⟩ ih
 by_cases h5:i < s.length
 ·have h6:=h2 i h5
  repeat' (first|(apply T.sidx;apply rfl;apply rfl;omega;apply rfl)|((first|apply T.mv|apply T.asn);apply rfl;apply rfl)|(apply T.lss;(iterate 3 apply rfl))|(with_reducible first|refine Sr.nil ?_|refine S.seq ?_|refine S.block ?_|refine S.reg ?_|refine S.skip ?_)|(apply S.condQ;apply rfl;all_goals (intro _;try (exfalso;first|omega|with_reducible contradiction)))|fail)
  refine T.call rfl rfl (ZQ (c:=s.getD i 0)) ?_
  rintro _ _ ⟨rfl,rfl⟩
  rw [h6]
  repeat' (first|(apply T.mv;apply rfl;apply rfl)|(apply T.addI;apply rfl;apply rfl;omega;apply rfl)|(apply T.notB;apply rfl;apply rfl)|(with_reducible first|refine Sr.nil ?_|refine S.reg ?_|refine S.skip ?_|refine S.inBlock ?_)|(apply S.condFV;apply rfl;(first|with_reducible rfl|decide))|(with_reducible apply T.ofRet)|fail)
  exact ih _ _ _ _ ⟨i+1,rfl,rfl,h5,rfl⟩ (by omega) (by repeat' first|exact trivial|refine And.intro rfl ?_)
 ·clear ih
  unfold plB
  by_cases h6:s=[48]
  ·rw [decide_eq_true (.inl h6)]
   repeat' (first|(apply T.seql;(iterate 3 apply rfl);rw [decide_eq_true h6])|((first|apply T.mv|apply T.asn);apply rfl;apply rfl)|(apply T.lss;(iterate 3 apply rfl))|(apply T.pickT;(iterate 3 apply rfl))|(with_reducible first|refine Sr.nil ?_|refine S.seq ?_|refine S.reg ?_)|(apply S.exit;apply rfl)|(apply T.skip;apply rfl;(first|with_reducible rfl|decide);apply rfl)|(apply T.skipU;apply rfl;apply rfl)|(apply S.condQ;apply rfl;all_goals (intro _;try (exfalso;first|omega|with_reducible contradiction)))|(apply T.retW;apply rfl)|fail)
   exact ⟨_,PSub.refl _,rfl,rfl⟩
  ·by_cases h7:s=[]
   ·rw [decide_eq_false (fun h=>h.elim h6 fun h=>h.1 h7)]
    repeat' (first|(apply T.seql;(iterate 3 apply rfl);rw [decide_eq_false h6])|(apply T.sneq;(iterate 3 apply rfl);rw [decide_eq_false (fun h=>h h7)])|((first|apply T.mv|apply T.asn);apply rfl;apply rfl)|(apply T.lss;(iterate 3 apply rfl))|(apply T.pickF;(iterate 3 apply rfl))|(with_reducible first|refine Sr.nil ?_|refine S.seq ?_|refine S.reg ?_)|(apply S.exit;apply rfl)|(apply T.ungV;apply rfl;(first|with_reducible rfl|decide))|(apply T.skip;apply rfl;(first|with_reducible rfl|decide);apply rfl)|(apply S.condQ;apply rfl;all_goals (intro _;try (exfalso;first|omega|with_reducible contradiction)))|(apply T.retW;apply rfl)|fail)
    exact ⟨_,PSub.refl _,rfl,rfl⟩
   ·have hp:0 < s.length:=List.length_pos_iff.2 h7
    have h8:decide (s=[48]∨s≠[]∧s.getD 0 0≠48)=decide (¬(((s.getD 0 0).toNat:Nat):Int)=48):=by
     rw [decide_eq_decide]
     have:s.getD 0 0=48↔(s.getD 0 0).toNat=48:=u8_nat
     constructor
     ·rintro (h|h) h9
      ·exact h6 h
      ·exact h.2 (this.2 (by omega))
     ·intro h
      exact .inr ⟨h7,fun h9=>h (by rw [this.1 h9];rfl)⟩
    rw [h8]
    repeat' (first|(apply T.seql;(iterate 3 apply rfl);rw [decide_eq_false h6])|(apply T.sneq;(iterate 3 apply rfl);rw [decide_eq_true h7])|(apply T.sidx;apply rfl;apply rfl;omega;apply rfl)|((first|apply T.mv|apply T.asn);apply rfl;apply rfl)|(apply T.lss;(iterate 3 apply rfl))|(apply T.neq;(iterate 3 apply rfl))|(apply T.pickT;(iterate 3 apply rfl))|(apply T.pickF;(iterate 3 apply rfl))|(with_reducible first|refine Sr.nil ?_|refine S.seq ?_|refine S.reg ?_)|(apply S.exit;apply rfl)|(apply T.ungV;apply rfl;(first|with_reducible rfl|decide))|(apply S.condQ;apply rfl;all_goals (intro _;try (exfalso;first|omega|with_reducible contradiction)))|(apply T.retW;apply rfl)|fail)
    exact ⟨_,PSub.refl _,rfl,rfl⟩
def GtS (p:Nat) (t:List UInt8) (o:Int) (oa:Option Addr) (n oc:Nat) (H:List Res):Rz→Ending→List Res→Prop
 | .no c=>fun e H'=>∃ b:Int,e=.panicked [gFlt c b]∧H'=H
 | .to r=>fun e H'=>∃ s:List UInt8,e=.returned (sV s)∧H'=paR p t r o oa n oc H
theorem Z1I (hJ:Tabs F M) (hq:a < t.length) (hl:t.length≤1024) :
  Meets Tryz.prog 75 [.pointer (some ⟨p,0,none⟩)] F M (paR p t a o oa n oc H) (GtS p t o oa n oc H (Z1M t a)):=by
 refine Meets.enter Tryz.func75 rfl rfl ?_
 unfold Z1M
 generalize hQ:strE t (a+1)=Q
 repeat' (first|((first|apply T.mv|apply T.asn|apply T.nilCheck|apply T.fieldAddrZ);apply rfl;apply rfl)|(apply T.load;apply rfl;apply rfl;infer_instance;apply rfl;apply rfl)|(apply T.addI;apply rfl;apply rfl;omega;apply rfl)|(with_reducible first|refine Sr.nil ?_|refine S.seq ?_|refine S.block ?_|refine S.reg ?_)|fail)
 refine S.loopE 1 [0] (fun R b' μ H' e=>∃ q:Nat,H'=paR p t a o oa n oc R∧e=(3,.int .i64 q)::b'∧(a < q∧q≤t.length+1∧strE t q=Q)∧μ=t.length+1 - q) rfl rfl ?_ _ _ ⟨a+1,rfl,rfl,⟨by omega,by omega,hQ⟩,rfl⟩ (by repeat' first|exact trivial|refine And.intro rfl ?_)
 rintro _ _ _ ⟨q,rfl,rfl,⟨h0,h1,h2⟩,rfl⟩ ih
 by_cases h3:q < t.length
 ·have hu:=(t.getD q 0).toNat_lt
  by_cases h4:(t.getD q 0).toNat=92
  ·have h5:strE t (q+1+1)=Q:=(Z4h h3 (u8_nat.2 h4)).symm.trans h2
   repeat' (first|((first|apply T.slen|apply T.mv|apply T.asn|apply T.nilCheck|apply T.fieldAddrZ);apply rfl;apply rfl)|(apply T.sidx;apply rfl;apply rfl;omega;apply rfl)|(apply T.load;apply rfl;apply rfl;infer_instance;apply rfl;apply rfl)|((first|apply T.lss|apply T.eql);(iterate 3 apply rfl))|(apply T.addI;apply rfl;apply rfl;omega;apply rfl)|(with_reducible first|refine Sr.nil ?_|refine S.seq ?_|refine S.block ?_|refine S.reg ?_|refine S.skip ?_|refine S.inBlock ?_)|(apply S.condQ;apply rfl;all_goals (intro _;try (exfalso;first|omega|with_reducible contradiction)))|fail)
   exact ih _ _ _ _ ⟨q+1+1,rfl,rfl,⟨by omega,by omega,h5⟩,rfl⟩ (by omega) (by repeat' first|exact trivial|refine And.intro rfl ?_)
  ·by_cases h5:(t.getD q 0).toNat=34
   ·have h6:some q=Q:=(Z4g h3 (u8_nat.2 h5)).symm.trans h2
    subst h6
    clear ih
    have hsl:(sl t a (q+1)).length≤maxLen:=by rw [ZO (by omega)];simp only [maxLen];omega
    have n1:=fun X=>Z5H (F:=F) (M:=M) (H:=X) hJ hsl
    have n2:=n1 (paR p t a o oa n oc H)
    dsimp only
    cases hp:ZM Z9 (sl t a (q+1)) with
    | bad c b =>
     rw [hp] at n2
     have hc:=Z2N hp
     repeat' (first|((first|apply T.slen|apply T.mv|apply T.asn|apply T.nilCheck|apply T.fieldAddrZ);apply rfl;apply rfl)|(apply T.sidx;apply rfl;apply rfl;omega;apply rfl)|(apply T.load;apply rfl;apply rfl;infer_instance;apply rfl;apply rfl)|((first|apply T.lss|apply T.eql);(iterate 3 apply rfl))|(with_reducible first|refine Sr.nil ?_|refine S.seq ?_|refine S.block ?_|refine S.reg ?_|refine S.skip ?_)|(apply S.condQ;apply rfl;all_goals (intro _;try (exfalso;first|omega|with_reducible contradiction)))|fail)
     (apply S.draw;(case Hs=>exact paR p t a o oa n oc H);(case es=>exact  [11]);(case n=>exact  19);(case hn=>rfl))
     repeat' (first|(apply Sr.same;refine T.sslice (i:=a) (j:=q+1) rfl rfl rfl ⟨by omega,by omega⟩ rfl ?_)|(apply T.call;apply rfl;apply rfl;exact n2;rintro _ _ ⟨rfl,rfl⟩)|((first|apply T.mv|apply T.asn|apply T.nilCheck|apply T.fieldAddrZ);apply rfl;apply rfl)|(apply T.load;apply rfl;apply rfl;infer_instance;apply rfl;apply rfl)|((first|apply T.neq|apply T.extract);(iterate 3 apply rfl))|(apply T.addI;apply rfl;apply rfl;omega;apply rfl)|(with_reducible first|refine Sr.nil ?_|refine S.seq ?_|refine S.reg ?_)|(apply S.condQ;apply rfl;all_goals (intro _;try (exfalso;first|omega|with_reducible contradiction)))|(with_reducible apply T.ofRet)|(apply SA.qn;(iterate 4 apply rfl);kernel_rfl)|(apply SA.en;apply rfl;apply rfl;kernel_rfl)|(apply SA.done;apply rfl;kernel_rfl)|(apply SK.intro;(first|exact fun _ h=>h|exact fun _ h=>St.psub h (by ((repeat (first|dsimp only [List.set_cons_zero]|dsimp only [List.set_cons_succ]));repeat' first|exact PSub.refl _|exact PSub.nil|(with_reducible apply PSub.app)|(apply PSub.take;(repeat' first|(with_reducible exact Z0)|(with_reducible apply Z1)))|(with_reducible apply PSub.drop)|((apply PSub.take);(repeat' first|exact Z0|(apply Z1)))))))|fail)
     skip
     refine T.call rfl rfl Zf ?_
     rintro _ _ ⟨rfl,rfl⟩
     repeat' (first|(with_reducible apply T.diesW)|(with_reducible apply T.ofPan)|fail)
     exact ⟨_,PSub.refl _,_,rfl,rfl⟩
    | ok b l =>
     rw [hp] at n2
     obtain ⟨x,r,rfl⟩:=Z3M hp
     have hlen:=(Z54 hp).1
     have hpos:0 < (x::r).length:=by simp
     repeat' (first|((first|apply T.slen|apply T.mv|apply T.asn|apply T.nilCheck|apply T.fieldAddrZ);apply rfl;apply rfl)|(apply T.sidx;apply rfl;apply rfl;omega;apply rfl)|(apply T.load;apply rfl;apply rfl;infer_instance;apply rfl;apply rfl)|((first|apply T.lss|apply T.eql);(iterate 3 apply rfl))|(with_reducible first|refine Sr.nil ?_|refine S.seq ?_|refine S.block ?_|refine S.reg ?_|refine S.skip ?_)|(apply S.condQ;apply rfl;all_goals (intro _;try (exfalso;first|omega|with_reducible contradiction)))|fail)
     (apply S.draw;(case Hs=>exact paR p t a o oa n oc H);(case es=>exact  [11]);(case n=>exact  19);(case hn=>rfl))
     repeat' (first|(apply Sr.same;refine T.sslice (i:=a) (j:=q+1) rfl rfl rfl ⟨by omega,by omega⟩ rfl ?_)|(apply T.call;apply rfl;apply rfl;exact n2;rintro _ _ ⟨va,vc,rfl,rfl⟩)|((first|apply T.mv|apply T.asn|apply T.nilCheck);apply rfl;apply rfl)|(apply T.fieldAddrZ;apply rfl;apply rfl)|(apply T.load;apply rfl;apply rfl;infer_instance;apply rfl;apply rfl)|((first|apply T.neq|apply T.extract);(iterate 3 apply rfl))|(apply T.addI;apply rfl;apply rfl;omega;apply rfl)|(apply T.ixF;apply rfl;apply rfl;infer_instance;exact (fun _=>rfl);apply rfl;omega;omega;apply rfl)|(apply T.fieldAddrF;apply rfl;infer_instance;exact (fun _=>rfl);apply rfl;omega;apply rfl)|(apply T.loadF;apply rfl;apply rfl;infer_instance;exact (fun _=>rfl);apply rfl;exact Zq (by omega);apply rfl;apply rfl)|(apply T.store;apply rfl;apply rfl;infer_instance;(first|decide|(simp;omega)|simp);apply rfl)|(with_reducible first|refine Sr.nil ?_|refine S.seq ?_|refine S.reg ?_|refine S.skip ?_)|(apply S.condFV;apply rfl;(first|with_reducible rfl|decide))|(apply T.retW;apply rfl)|(with_reducible apply T.ofRet)|(apply SA.qn;(iterate 4 apply rfl);kernel_rfl)|(apply SA.en;apply rfl;apply rfl;kernel_rfl)|(apply SA.done;apply rfl;kernel_rfl)|(apply SK.intro;(first|exact fun _ h=>h|exact fun _ h=>St.psub h (by ((repeat (first|dsimp only [List.set_cons_zero]|dsimp only [List.set_cons_succ]));repeat' first|exact PSub.refl _|exact PSub.nil|(with_reducible apply PSub.app)|(apply PSub.take;(repeat' first|(with_reducible exact Z0)|(with_reducible apply Z1)))|(with_reducible apply PSub.drop)|((apply PSub.take);(repeat' first|exact Z0|(apply Z1)))))))|fail)
     skip
     exact ⟨_,PSub.drop (PSub.refl _),_,rfl,rfl⟩
   ·have h6:strE t (q+1)=Q:=(Z68 h3 (fun h=>h4 (u8_nat.1 h)) (fun h=>h5 (u8_nat.1 h))).symm.trans h2
    repeat' (first|((first|apply T.slen|apply T.mv|apply T.asn|apply T.nilCheck|apply T.fieldAddrZ);apply rfl;apply rfl)|(apply T.sidx;apply rfl;apply rfl;omega;apply rfl)|(apply T.load;apply rfl;apply rfl;infer_instance;apply rfl;apply rfl)|((first|apply T.lss|apply T.eql);(iterate 3 apply rfl))|(apply T.addI;apply rfl;apply rfl;omega;apply rfl)|(with_reducible first|refine Sr.nil ?_|refine S.seq ?_|refine S.block ?_|refine S.reg ?_|refine S.skip ?_|refine S.inBlock ?_)|(apply S.condQ;apply rfl;all_goals (intro _;try (exfalso;first|omega|with_reducible contradiction)))|fail)
    exact ih _ _ _ _ ⟨q+1,rfl,rfl,⟨by omega,by omega,h6⟩,rfl⟩ (by omega) (by repeat' first|exact trivial|refine And.intro rfl ?_)
 ·have h4:none=Q:=(Z36 (by omega)).symm.trans h2
  subst h4
  clear ih
  repeat' (first|((first|apply T.slen|apply T.mv|apply T.nilCheck|apply T.fieldAddrZ);apply rfl;apply rfl)|(apply T.load;apply rfl;apply rfl;infer_instance;apply rfl;apply rfl)|(apply T.lss;(iterate 3 apply rfl))|(with_reducible first|refine Sr.nil ?_|refine S.seq ?_|refine S.reg ?_)|(apply S.exit;apply rfl)|(apply S.condQ;apply rfl;all_goals (intro _;try (exfalso;first|omega|with_reducible contradiction)))|fail)
  refine T.call rfl rfl Zf ?_
  rintro _ _ ⟨rfl,rfl⟩
  repeat' (first|(with_reducible apply T.diesW)|(with_reducible apply T.ofPan)|fail)
  exact ⟨_,PSub.refl _,_,rfl,rfl⟩
theorem Z2S (hT:GtT F M) (hJ:Tabs F M) {first:Bool} (ha:a≤t.length) (hl:t.length≤1024) :
  Meets Tryz.prog 73 [.pointer (some ⟨p,0,none⟩),.bool first] F M (paR p t a o oa n oc H) (GtS p t o oa n oc H (Z1C t first a)):=by
 refine Meets.enter Tryz.func73 rfl rfl ?_
 unfold Z1C
 have hle:=Zj (t:=t) ha
 repeat' (first|((first|apply T.mv|apply T.asn);apply rfl;apply rfl)|(with_reducible first|refine Sr.nil ?_|refine S.seq ?_|refine S.reg ?_)|fail)
 refine T.call rfl rfl (ZP ha hl) ?_
 rintro _ _ ⟨rfl,rfl⟩
 generalize Z2 t a=q at *
 by_cases h1:q < t.length
 ·rw [if_pos h1]
  have hu:=(t.getD q 0).toNat_lt
  by_cases h2:t.getD q 0=34
  ·rw [if_pos h2]
   have hk:=kd_str.2 ⟨h1,u8_nat.1 h2⟩
   have hc:=Z1I (F:=F) (M:=M) (H:=H) (p:=p) (o:=o) (oa:=oa) (n:=n) (oc:=oc) hJ h1 hl
   cases hz:Z1M t q with
   | no c =>
    rw [hz] at hc
    repeat' (first|((first|apply T.mv|apply T.asn);apply rfl;apply rfl)|(apply T.eql;(iterate 3 apply rfl))|(with_reducible first|refine Sr.nil ?_|refine S.seq ?_|refine S.block ?_|refine S.reg ?_)|(apply S.condQ;apply rfl;all_goals (intro _;try (exfalso;first|omega|with_reducible contradiction)))|(with_reducible apply T.ofRet)|fail)
    refine T.call rfl rfl hc ?_
    rintro _ _ ⟨b,rfl,rfl⟩
    repeat' (first|(with_reducible apply T.diesW)|(with_reducible apply T.ofPan)|fail)
    exact ⟨_,PSub.refl _,_,rfl,rfl⟩
   | to r =>
    rw [hz] at hc
    repeat' (first|((first|apply T.mv|apply T.asn);apply rfl;apply rfl)|(apply T.eql;(iterate 3 apply rfl))|(with_reducible first|refine Sr.nil ?_|refine S.seq ?_|refine S.block ?_|refine S.reg ?_)|(apply S.condQ;apply rfl;all_goals (intro _;try (exfalso;first|omega|with_reducible contradiction)))|(with_reducible apply T.ofRet)|fail)
    refine T.call rfl rfl hc ?_
    rintro _ _ ⟨s,rfl,rfl⟩
    repeat' (first|(apply T.asn;apply rfl;apply rfl)|with_reducible refine Sr.nil ?_|(apply T.retW;apply rfl)|(with_reducible apply T.ofRet)|fail)
    exact ⟨_,PSub.refl _,_,rfl,rfl⟩
  ·rw [if_neg h2]
   have hk:=mt kd_str.1 (fun h=>h2 (u8_nat.2 h.2))
   cases h3:letB (t.getD q 0) with
   | true =>
    rw [if_pos rfl]
    have hk1:=kd_word.2 ⟨h1,h3⟩
    have hwl:=Z32 (t:=t) (p:=q) (by omega)
    have hwg:=Z16 h1 h3
    have hwe:=Z1v (t:=t) (p:=q) (by omega)
    have hne:wdX t q≠[]:=fun h=>by rw [h] at hwl;simp at hwl;omega
    have hhd:=Z1S hne rfl
    repeat' (first|((first|apply T.mv|apply T.asn);apply rfl;apply rfl)|(apply T.eql;(iterate 3 apply rfl))|(with_reducible first|refine Sr.nil ?_|refine S.seq ?_|refine S.block ?_|refine S.reg ?_)|(apply S.condQ;apply rfl;all_goals (intro _;try (exfalso;first|omega|with_reducible contradiction)))|(with_reducible apply T.ofRet)|fail)
    refine T.call rfl rfl (Z2T hle hl) ?_
    rintro _ _ ⟨rfl,rfl⟩
    repeat' (first|((first|apply T.mv|apply T.asn);apply rfl;apply rfl)|(with_reducible first|refine Sr.nil ?_|refine S.seq ?_|refine S.reg ?_)|(with_reducible apply T.ofRet)|fail)
    refine T.call rfl rfl (Z4F (s:=wdX t q) hT hne (by rw [←hhd];exact h3) Z39 (by omega)) ?_
    rintro _ _ ⟨rfl,rfl⟩
    by_cases h4:wdX t q∈kwL
    ·rw [if_pos h4,show nmB (wdX t q)=false from decide_eq_false (fun h=>h h4)]
     repeat' (first|(apply T.mv;apply rfl;apply rfl)|(apply T.notB;apply rfl;apply rfl)|(with_reducible first|refine Sr.nil ?_|refine S.reg ?_)|(apply S.condTV;apply rfl;(first|with_reducible rfl|decide))|(with_reducible apply T.ofRet)|fail)
     refine T.call rfl rfl Zf ?_
     rintro _ _ ⟨rfl,rfl⟩
     repeat' (first|(with_reducible apply T.diesW)|(with_reducible apply T.ofPan)|fail)
     exact ⟨_,PSub.refl _,_,rfl,rfl⟩
    ·rw [if_neg h4,show nmB (wdX t q)=true from decide_eq_true h4]
     have he:q+(wdX t q).length=wdE t q:=by omega
     repeat' (first|((first|apply T.slen|apply T.mv|apply T.asn|apply T.nilCheck|apply T.fieldAddrZ);apply rfl;apply rfl)|(apply T.load;apply rfl;apply rfl;infer_instance;apply rfl;apply rfl)|(apply T.addI;apply rfl;apply rfl;omega;apply rfl)|(apply T.notB;apply rfl;apply rfl)|(apply T.store;apply rfl;apply rfl;infer_instance;(first|decide|(simp;omega)|simp);apply rfl)|(with_reducible first|refine Sr.nil ?_|refine S.seq ?_|refine S.reg ?_|refine S.skip ?_|refine S.inBlock ?_)|(apply S.condFV;apply rfl;(first|with_reducible rfl|decide))|(apply T.retW;apply rfl)|(with_reducible apply T.ofRet)|fail)
     rw [←he]
     exact ⟨_,PSub.refl _,_,rfl,rfl⟩
   | false =>
    rw [if_neg (by simp)]
    have hk1:=mt kd_word.1 (fun h=>by rw [h3] at h;simp at h)
    cases h4:Za (t.getD q 0) with
    | true =>
     rw [if_pos rfl]
     have hk2:=kd_digs.2 ⟨h1,h4⟩
     have hde:=Z3p (t:=t) (p:=q) (by omega)
     have hdg:=Z7z (t:=t) (p:=q)
     have hdl:(sl t q (Z3 t q)).length=Z3 t q - q:=ZO hde
     have hr:=Z2g (F:=F) (M:=M) (H:=H) (p:=p) (o:=o) (oa:=oa) (n:=n) (oc:=oc) (f:=Za) (g:=45) (fun c=>ZQ) hle hl
     rw [←Z5q] at hr
     repeat' (first|((first|apply T.mv|apply T.asn);apply rfl;apply rfl)|(apply T.eql;(iterate 3 apply rfl))|(with_reducible first|refine Sr.nil ?_|refine S.seq ?_|refine S.block ?_|refine S.reg ?_)|(apply S.condQ;apply rfl;all_goals (intro _;try (exfalso;first|omega|with_reducible contradiction)))|(with_reducible apply T.ofRet)|fail)
     refine T.call rfl rfl hr ?_
     rintro _ _ ⟨rfl,rfl⟩
     have hp:=Z3T (F:=F) (M:=M) (H:=paR p t q o oa n oc H) (s:=sl t q (Z3 t q)) Z39 (by omega)
     cases first with
     | true =>
      rw [if_pos (show (true || !plB (sl t q (Z3 t q)))=true from rfl)]
      repeat' (first|((first|apply T.mv|apply T.asn);apply rfl;apply rfl)|(apply T.pickT;(iterate 3 apply rfl))|(with_reducible first|refine Sr.nil ?_|refine S.seq ?_|refine S.reg ?_)|(apply T.skip;apply rfl;(first|with_reducible rfl|decide);apply rfl)|(apply S.condTV;apply rfl;(first|with_reducible rfl|decide))|(with_reducible apply T.ofRet)|fail)
      refine T.call rfl rfl Zf ?_
      rintro _ _ ⟨rfl,rfl⟩
      repeat' (first|(with_reducible apply T.diesW)|(with_reducible apply T.ofPan)|fail)
      exact ⟨_,PSub.refl _,_,rfl,rfl⟩
     | false =>
      repeat' (first|((first|apply T.mv|apply T.asn);apply rfl;apply rfl)|(with_reducible first|refine Sr.nil ?_|refine S.seq ?_|refine S.reg ?_)|(apply T.ungV;apply rfl;(first|with_reducible rfl|decide))|(with_reducible apply T.ofRet)|fail)
      refine T.call rfl rfl hp ?_
      rintro _ _ ⟨rfl,rfl⟩
      cases h5:plB (sl t q (Z3 t q)) with
      | true =>
       rw [if_neg (show ¬(false || !true)=true from (by decide))]
       have he:q+(sl t q (Z3 t q)).length=Z3 t q:=by omega
       repeat' (first|((first|apply T.slen|apply T.mv|apply T.asn|apply T.nilCheck|apply T.fieldAddrZ);apply rfl;apply rfl)|(apply T.load;apply rfl;apply rfl;infer_instance;apply rfl;apply rfl)|(apply T.addI;apply rfl;apply rfl;omega;apply rfl)|(apply T.notB;apply rfl;apply rfl)|(apply T.pickF;(iterate 3 apply rfl))|(apply T.store;apply rfl;apply rfl;infer_instance;(first|decide|(simp;omega)|simp);apply rfl)|(with_reducible first|refine Sr.nil ?_|refine S.seq ?_|refine S.reg ?_|refine S.skip ?_|refine S.inBlock ?_)|(apply T.ungV;apply rfl;(first|with_reducible rfl|decide))|(apply S.condFV;apply rfl;(first|with_reducible rfl|decide))|(apply T.retW;apply rfl)|(with_reducible apply T.ofRet)|fail)
       rw [show Rz.to (Z3 t q)=Rz.to (q+(sl t q (Z3 t q)).length) by rw [he]]
       exact ⟨_,PSub.refl _,_,rfl,rfl⟩
      | false =>
       rw [if_pos (show (false || !false)=true from rfl)]
       repeat' (first|(apply T.mv;apply rfl;apply rfl)|(apply T.notB;apply rfl;apply rfl)|(apply T.pickF;(iterate 3 apply rfl))|(with_reducible first|refine Sr.nil ?_|refine S.reg ?_)|(apply T.ungV;apply rfl;(first|with_reducible rfl|decide))|(apply S.condTV;apply rfl;(first|with_reducible rfl|decide))|(with_reducible apply T.ofRet)|fail)
       refine T.call rfl rfl Zf ?_
       rintro _ _ ⟨rfl,rfl⟩
       repeat' (first|(with_reducible apply T.diesW)|(with_reducible apply T.ofPan)|fail)
       exact ⟨_,PSub.refl _,_,rfl,rfl⟩
    | false =>
     rw [if_neg (by simp)]
     have hk2:=mt kd_digs.1 (fun h=>by rw [h4] at h;simp at h)
     repeat' (first|((first|apply T.mv|apply T.asn);apply rfl;apply rfl)|(apply T.eql;(iterate 3 apply rfl))|(with_reducible first|refine Sr.nil ?_|refine S.seq ?_|refine S.block ?_|refine S.reg ?_)|(apply S.condQ;apply rfl;all_goals (intro _;try (exfalso;first|omega|with_reducible contradiction)))|(with_reducible apply T.ofRet)|fail)
     refine T.call rfl rfl Zf ?_
     rintro _ _ ⟨rfl,rfl⟩
     repeat' (first|(with_reducible apply T.diesW)|(with_reducible apply T.ofPan)|fail)
     exact ⟨_,PSub.refl _,_,rfl,rfl⟩
 ·rw [if_neg h1]
  have hk:=kd_end.2 h1
  repeat' (first|((first|apply T.mv|apply T.asn);apply rfl;apply rfl)|(apply T.eql;(iterate 3 apply rfl))|(with_reducible first|refine Sr.nil ?_|refine S.seq ?_|refine S.block ?_|refine S.reg ?_)|(apply S.condQ;apply rfl;all_goals (intro _;try (exfalso;first|omega|with_reducible contradiction)))|(with_reducible apply T.ofRet)|fail)
  refine T.call rfl rfl Zf ?_
  rintro _ _ ⟨rfl,rfl⟩
  repeat' (first|(with_reducible apply T.diesW)|(with_reducible apply T.ofPan)|fail)
  exact ⟨_,PSub.refl _,_,rfl,rfl⟩
end
end Go.Proofs.YthomgjihagigcaaGreatDoor
