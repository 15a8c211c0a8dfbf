/- Texts put together by a program: JsnY RowN NodA NodB NodC RevA RevQ ShpP ShlV ShpA ShpB. -/
import Derived.Test.YtjajcmedipjfhaaGreatDoorMf
import Derived.Test.YtjajcmedipjfhaaGreatDoorMe
import Derived.Test.YtjajcmedipjfhaaGreatDoorMa
import Derived.Test.YtjajcmedipjfhaaGreatDoorMb
import Derived.Test.YtjajcmedipjfhaaGreatDoorMc
import Derived.Test.YtjajcmedipjfhaaGreatDoorMd
import Derived.Lib.ValidU
import Derived.Shelf.Unicode.ValidAny
import Derived.Test.YtjajcmedipjfhaaGreatDoorProg
/- The walks of the program's reader of JSON: it says what going down says. -/
namespace Go.Proofs.YtjajcmedipjfhaaGreatDoor
open Sg Go.IntWalk
set_option maxRecDepth 100000
set_option maxHeartbeats 4000000
section
variable {F : World} {M : List Nat} {H : List Res} {p : Nat} {t : List UInt8} {C : Jc} {c : Cf}
def ParP (H : List Res) : Gt (List Nd) → Ending → List Res → Prop
 | .ok _ l => fun e H' => ∃ oa oc, e = .returned (.tuple ⟨[.slice oa l.length oc, .int .i64 0, .int .i64 0]⟩) ∧ H' = ouR oa oc l :: H
 | .bad c a => fun e H' => e = .returned (.tuple ⟨[.slice none 0 0, .int .i64 c, .int .i64 a]⟩) ∧ H' = H
theorem blank_on (hr : Rel C c) (hi : Inv t C) : Rel { C with a := skipB t C.a } { c with p := skipB t c.p } ∧ Inv t { C with a := skipB t C.a } := by
 have h1 := skip_ge t C.a
 have h2 := skip_le (t := t) hi.at_
 refine ⟨⟨?_, hr.s, hr.out, hr.key, hr.stk⟩, ⟨h2, ?_, hi.kids, hi.idx, hi.kind, fun z hz y hy => ?_, hi.dep⟩⟩
 ·show skipB t C.a = skipB t c.p
  rw [hr.p]
 ·have := hi.outl
  show C.out.length ≤ skipB t C.a
  omega
 ·have := hi.maps z hz y hy
  show y.2.length ≤ skipB t C.a
  omega
theorem good_blank (h : GoodC c) (q : Nat) : GoodC { c with p := q } := ⟨h.one, h.top, h.le⟩
theorem rest_sub (C : Jc) (p : Nat) (t : List UInt8) (H : List Res) : PSub (ouR C.oa C.oc C.out :: H) (C.res p t H) :=
 PSub.drop (PSub.take pick_hd (PSub.drop (PSub.drop (maps_sub H C.st))))
theorem parse_spec (hT : Tabs F M) (h63 : t.length ≤ maxLen) : Meets Tryz.prog 21 [sV t] F M H (ParP H (parseX wholeX t)) := by
 refine Meets.enter Tryz.func21 rfl rfl ?_
 by_cases hl : 262144 < t.length
 ·have hp : parseX wholeX t = .bad 10 0 := by unfold parseX; rw [if_pos hl]
  rw [hp]
  repeat' (first | ((first | apply T.slen | apply T.mv | apply T.asn); apply rfl; apply rfl) | (apply T.gtr; (iterate 3 apply rfl)) | (with_reducible first | refine Sr.nil ?_ | refine S.seq ?_ | refine S.reg ?_) | (apply S.condQ; apply rfl; all_goals (intro _; try (exfalso; first | omega | with_reducible contradiction))) | (apply T.retW; apply rfl) | fail)
  exact ⟨_, PSub.refl _, rfl, rfl⟩
 ·have hl' : t.length ≤ 262144 := by omega
  rw [← mach_parse hl']
  refine S.nilrow 55 1 ?_
  refine S.nilrow 3 1 ?_
  refine S.nilrow 34 6 ?_
  repeat' (first | ((first | apply T.slen | apply T.mv | apply T.asn); apply rfl; apply rfl) | (apply T.gtr; (iterate 3 apply rfl)) | (apply T.buildL; (iterate 3 apply rfl)) | (apply T.box; apply rfl; apply rfl; intro nb) | (with_reducible first | refine Sr.nil ?_ | refine S.seq ?_ | refine S.reg ?_ | refine S.skip ?_) | (apply S.condQ; apply rfl; all_goals (intro _; try (exfalso; first | omega | with_reducible contradiction))) | fail)
  refine T.call rfl rfl (blanks_spec (t := t) (o := .slice none 0 0) (n := .slice none 0 0) (m := .slice none 0 0) (a := 0) (s := 0) (k := []) (c := 0) (b := 0) (Nat.zero_le _) (by omega)) ?_
  rintro _ _ ⟨rfl, rfl⟩
  have h0 : mach wholeX t (t.length + 1) ⟨skipB t 0, 0, [], [], []⟩ = mach wholeX t (t.length + 1) ⟨0, 0, [], [], []⟩ := mach_skip (c := ⟨0, 0, [], [], []⟩)
  have hsl := skip_le (t := t) (p := 0) (Nat.zero_le _)
  rw [← h0]
  generalize hQ : mach wholeX t (t.length + 1) ⟨skipB t 0, 0, [], [], []⟩ = Q
  repeat' (first | (with_reducible first | refine Sr.nil ?_ | refine S.block ?_) | (with_reducible apply T.ofRet) | fail)
  refine S.loopE 4 [0, 5] (fun R b' μ H' e => ∃ (C : Jc) (c : Cf) (f : Nat), H' = C.res nb t R ∧ e = b' ∧ (Rel C c ∧ Inv t C ∧ GoodC c ∧ skipB t c.p = c.p ∧ t.length < c.p + f ∧ mach wholeX t f c = Q) ∧ μ = t.length - C.a) rfl rfl ?_ _ _ ⟨⟨none, 0, none, 0, none, 0, [], [], skipB t 0, 0, []⟩, ⟨skipB t 0, 0, [], [], []⟩, t.length + 1, rfl, rfl, ⟨⟨rfl, rfl, rfl, rfl, trivial⟩, ⟨hsl, Nat.zero_le _, fun x hx => by (exact absurd hx List.not_mem_nil), fun x hx => by (exact absurd hx List.not_mem_nil), fun x hx => by (exact absurd hx List.not_mem_nil), fun x hx => by (exact absurd hx List.not_mem_nil), Nat.zero_le _⟩, ⟨fun h => by simp only at h; omega, fun h => by simp only at h; omega, (by decide : 0 ≤ 6)⟩, skip_skip _ _, (show t.length < skipB t 0 + (t.length + 1) by omega), hQ⟩, rfl⟩ (by repeat' first | exact trivial | refine And.intro rfl ?_)
  rintro _ _ _ ⟨C, c, f, rfl, rfl, ⟨hr, hi, hg, hsk, hf, hm⟩, rfl⟩ ih
  clear hQ h0
  have hpa := hr.p
  have hat := hi.at_
  obtain ⟨f, rfl⟩ : ∃ g, f = g + 1 := ⟨f - 1, by omega⟩
  by_cases ha : C.a < t.length
  ·have hch : t[c.p]? = some (t.getD c.p 0) := by rw [← hpa]; simp [List.getD, ha]
   have hst := step_spec (F := F) (M := M) (p := nb) (H := H) hT ha hr hi hg hl' hch
   have hm2 : mach wholeX t (f + 1) c = match stepC wholeX t c (t.getD c.p 0) with
    | .go c' => mach wholeX t f c'
    | .stop e a => .bad e a := by
    simp only [mach, hsk, hch]
    rfl
   unfold Jc.res Jc.cells at hst ⊢
   repeat' (first | ((first | apply T.slen | apply T.mv | apply T.nilCheck | apply T.fieldAddrZ); apply rfl; apply rfl) | (apply T.load; apply rfl; apply rfl; infer_instance; apply rfl; apply rfl) | (apply T.lss; (iterate 3 apply rfl)) | (with_reducible first | refine Sr.nil ?_ | refine S.seq ?_ | refine S.block ?_ | refine S.reg ?_ | refine S.skip ?_) | (apply S.condQ; apply rfl; all_goals (intro _; try (exfalso; first | omega | with_reducible contradiction))) | fail)
   refine T.call rfl rfl hst ?_
   clear hst
   cases hsc : stepC wholeX t c (t.getD c.p 0) with
   | stop e1 a1 =>
    rw [hsc] at hm2
    rintro _ _ ⟨o, n, m, a, s, k, rfl, rfl⟩
    rw [← hm, hm2]
    repeat' (first | ((first | apply T.mv | apply T.asn | apply T.nilCheck | apply T.fieldAddrZ); apply rfl; apply rfl) | (apply T.load; apply rfl; apply rfl; infer_instance; apply rfl; apply rfl) | (apply T.notB; apply rfl; apply rfl) | (with_reducible first | refine Sr.nil ?_ | refine S.seq ?_) | (apply S.quiet; apply rfl; kernel_rfl) | (apply S.condTV; apply rfl; (first | with_reducible rfl | decide)) | (apply T.retW; apply rfl) | (with_reducible apply T.ofRet) | fail)
    exact ⟨_, PSub.drop (PSub.refl _), rfl, rfl⟩
   | go c' =>
    rw [hsc] at hm2
    obtain ⟨g1, g2⟩ := stepC_go (by rw [← hpa]; exact ha) hsc
    rintro _ _ ⟨C', rfl, rfl, hr', hi'⟩
    have hpa' := hr'.p
    unfold Jc.res Jc.cells
    repeat' (first | (apply T.mv; apply rfl; apply rfl) | (apply T.notB; apply rfl; apply rfl) | (with_reducible first | refine Sr.nil ?_ | refine S.reg ?_ | refine S.skip ?_ | refine S.inBlock ?_) | (apply S.condFV; apply rfl; (first | with_reducible rfl | decide)) | (with_reducible apply T.ofRet) | fail)
    refine T.call rfl rfl (blanks_spec hi'.at_ (by omega)) ?_
    rintro _ _ ⟨rfl, rfl⟩
    repeat' (first | with_reducible refine Sr.nil ?_ | (with_reducible apply T.ofRet) | fail)
    have hbl := blank_on hr' hi'
    have hge := skip_ge t C'.a
    exact ih _ _ _ _ ⟨{ C' with a := skipB t C'.a }, { c' with p := skipB t c'.p }, f, rfl, rfl, ⟨hbl.1, hbl.2, good_blank g1 _, skip_skip _ _, (show t.length < skipB t c'.p + f by rw [← hpa'] at g2 ⊢; omega), by rw [mach_skip]; exact hm2.symm.trans hm⟩, rfl⟩ (show t.length - skipB t C'.a < t.length - C.a by omega) (by repeat' first | exact trivial | refine And.intro rfl ?_)
  ·have hae : C.a = t.length := by omega
   have hch : t[c.p]? = none := by rw [← hpa]; exact List.getElem?_eq_none (by omega)
   have hm2 : mach wholeX t (f + 1) c = if c.s = 6 then .ok (skipB t c.p) c.out else .bad 31 t.length := by
    simp only [mach, hsk, hch]
   have hss := hr.s
   have hoo := hr.out
   have hsub := rest_sub C nb t H
   unfold Jc.res Jc.cells at hsub ⊢
   rw [← hm, hm2]
   by_cases h6 : C.s = 6
   ·rw [if_pos (by rw [← hss]; exact h6)]
    repeat' (first | ((first | apply T.slen | apply T.mv | apply T.asn | apply T.nilCheck | apply T.fieldAddrZ); apply rfl; apply rfl) | (apply T.load; apply rfl; apply rfl; infer_instance; apply rfl; apply rfl) | ((first | apply T.lss | apply T.neq); (iterate 3 apply rfl)) | (with_reducible first | refine Sr.nil ?_ | refine S.seq ?_ | refine S.reg ?_ | refine S.skip ?_) | (apply S.exit; apply rfl) | (apply S.condQ; apply rfl; all_goals (intro _; try (exfalso; first | omega | with_reducible contradiction))) | (apply T.retW; apply rfl) | fail)
    rw [← hoo]
    exact ⟨_, hsub, C.oa, C.oc, rfl, rfl⟩
   ·rw [if_neg (by rw [← hss]; exact h6)]
    repeat' (first | ((first | apply T.slen | apply T.mv | apply T.asn | apply T.nilCheck | apply T.fieldAddrZ); apply rfl; apply rfl) | (apply T.load; apply rfl; apply rfl; infer_instance; apply rfl; apply rfl) | ((first | apply T.lss | apply T.neq); (iterate 3 apply rfl)) | (with_reducible first | refine Sr.nil ?_ | refine S.seq ?_ | refine S.reg ?_) | (apply S.exit; apply rfl) | (apply S.condQ; apply rfl; all_goals (intro _; try (exfalso; first | omega | with_reducible contradiction))) | (apply T.retW; apply rfl) | fail)
    exact ⟨_, PSub.drop (PSub.drop (PSub.drop (PSub.drop (maps_sub H C.st)))), rfl, rfl⟩
end
end Go.Proofs.YtjajcmedipjfhaaGreatDoor
/- A literal of records is a growable row. -/
namespace Sg
open Go Go.RowKit
theorem St.blkRowN {F : World} {M : List Nat} {w : World} {H : List Res} {b n sz : Nat} {vs : List Value} {E : TypeId} (h : St F M w (.blk b vs E :: H)) (hn : vs.length = n * sz) (hm : n ≤ maxLen) : St F M w (.row (some ⟨b, 0, none⟩) n E sz n vs :: H) := by
 refine h.weakB (fun _ h => h) h.nd (fun r hr => ?_)
 rcases List.mem_cons.1 hr with rfl | hr
 ·have hb : w.heap[b]? = some (.cells ⟨vs⟩ E (0, 0)) := h.res _ (List.mem_cons_self ..)
  exact ⟨hn, .inr ⟨b, n, ⟨vs⟩, rfl, Nat.zero_le _, hb, Nat.le_refl _, hm, by simp [hn], by simp only [Nat.zero_mul, List.drop_zero, Nat.zero_add]; rw [← hn]; exact List.take_length⟩⟩
 ·exact h.res r (List.mem_cons_of_mem _ hr)
section
variable {c : Ctx} {dr : Bool} {ds : List Deferred} {H : List Res} {e : Env} {ops : Array Oper} {l : List Oper} {κ : List Res → Env → Prop}
theorem S.rowOfN {k : List Item} {b n sz : Nat} {vs : List Value} {E : TypeId} (hn : vs.length = n * sz) (hm : n ≤ maxLen) (h : S c ds (.row (some ⟨b, 0, none⟩) n E sz n vs :: H) k e) : S c ds (.blk b vs E :: H) k e := h.weaken fun _ hw => hw.blkRowN hn hm
end
end Sg
/- The walks of the program's looks at nodes: what stands behind a value, what stands in it, its members. -/
namespace Go.Proofs.YtjajcmedipjfhaaGreatDoor
open Sg Go.IntWalk
set_option maxRecDepth 100000
set_option maxHeartbeats 4000000
section
variable {F : World} {M : List Nat} {H : List Res} {v : List Nd} {p : Nat} {oa : Option Addr} {oc n : Nat}
theorem behindN_spec {x r : List Nd} [Rd F M H oa (v.flatMap ndV)] (hn : v.length = n) (hl : n ≤ 1100000) (hx : Fo 1 x) (hd : v.drop p = x ++ r) :
  Meets Tryz.prog 45 [.slice oa n oc, .int .i64 p] F M H (fun e H' => e = .returned (.int .i64 (p + x.length : Nat)) ∧ H' = H) := by
 subst hn
 refine Meets.enter Tryz.func45 rfl rfl ?_
 have h0 := drop_le hd hx.pos
 have h1 := hx.pos
 repeat' (first | ((first | apply T.mv | apply T.asn | apply T.len); apply rfl; apply rfl) | ((first | apply T.lss | apply T.geq); (iterate 3 apply rfl)) | (apply T.pickF; (iterate 3 apply rfl)) | (with_reducible first | refine Sr.nil ?_ | refine S.seq ?_ | refine S.block ?_ | refine S.reg ?_ | refine S.skip ?_) | (apply T.ungV; apply rfl; (first | with_reducible rfl | decide)) | (apply S.condQ; apply rfl; all_goals (intro _; try (exfalso; first | omega | with_reducible contradiction))) | (apply T.gcase; apply rfl; apply rfl; all_goals (intro _; try (exfalso; first | omega | with_reducible contradiction))) | fail)
 refine S.loopE 0 [0] (fun R b' μ H' e => ∃ (q k : Nat) (y : List Nd) (z : Int), H' = R ∧ e = (1, .int .i64 q) :: (5, .int .i64 z) :: b' ∧ (Fo k y ∧ v.drop q = y ++ r ∧ q + y.length = p + x.length ∧ z = (k : Int)) ∧ μ = v.length - q) rfl rfl ?_ _ _ ⟨p, 1, x, 1, rfl, rfl, ⟨hx, hd, rfl, rfl⟩, rfl⟩ (by repeat' first | exact trivial | refine And.intro rfl ?_)
 rintro _ _ _ ⟨q, k, y, z, rfl, rfl, ⟨h2, h3, h4, h5⟩, rfl⟩ ih
 cases h2 with
 | nil =>
  subst h5
  have h6 : q = p + x.length := h4
  repeat' (first | ((first | apply T.mv | apply T.asn); apply rfl; apply rfl) | (apply T.gtr; (iterate 3 apply rfl)) | (apply T.pickF; (iterate 3 apply rfl)) | (with_reducible first | refine Sr.nil ?_ | refine S.seq ?_ | refine S.reg ?_) | (apply S.exit; apply rfl) | (apply T.skip; apply rfl; (first | with_reducible rfl | decide); apply rfl) | (apply S.condFV; apply rfl; (first | with_reducible rfl | decide)) | (apply T.retW; apply rfl) | fail)
  exact ⟨_, PSub.refl _, by rw [h6], rfl⟩
 | @node nn m k' a b hk ha hb =>
  obtain ⟨h6, h7⟩ := drop_head (b := a ++ b ++ r) (by simpa using h3)
  have h8 : (v.getD q default).kids = (m : Int) := by rw [h6, hk]
  have h9 := ha.le
  have h10 := hb.le
  have h11 : v.drop (q + 1) = (a ++ b) ++ r := by
   rw [← List.drop_drop, h3]
   rfl
  simp only [List.length_cons, List.length_append] at h4
  repeat' (first | ((first | apply T.mv | apply T.asn | apply T.len); apply rfl; apply rfl) | ((first | apply T.lss | apply T.gtr); (iterate 3 apply rfl)) | ((first | apply T.addI | apply T.subI); apply rfl; apply rfl; omega; apply rfl) | (apply T.ixF; apply rfl; apply rfl; infer_instance; exact (fun _ => rfl); apply rfl; omega; omega; apply rfl) | (apply T.fieldAddrF; apply rfl; infer_instance; exact (fun _ => rfl); apply rfl; omega; apply rfl) | (apply T.loadF; apply rfl; apply rfl; infer_instance; exact (fun _ => rfl); apply rfl; exact getD_some (by omega); apply rfl; apply rfl) | (apply T.pickT; (iterate 3 apply rfl)) | (with_reducible first | refine Sr.nil ?_ | refine S.seq ?_ | refine S.block ?_ | refine S.reg ?_ | refine S.skip ?_ | refine S.inBlock ?_) | (apply T.ungV; apply rfl; (first | with_reducible rfl | decide)) | (apply S.condQ; apply rfl; all_goals (intro _; try (exfalso; first | omega | with_reducible contradiction))) | (apply T.gcase; apply rfl; apply rfl; all_goals (intro _; try (exfalso; first | omega | with_reducible contradiction))) | fail)
  exact ih _ _ _ _ ⟨q + 1, m + k', a ++ b, z + ((v.getD q default).kids - 1), rfl, rfl, ⟨ha.app hb, h11, by rw [List.length_append]; omega, by omega⟩, rfl⟩ (by omega) (by repeat' first | exact trivial | refine And.intro rfl ?_)
theorem kids_spec {nn : Nd} {xs : List (List Nd)} {r : List Nd} [Rd F M H oa (v.flatMap ndV)] (hn : v.length = n) (hl : n ≤ 1100000) (ha : At v p nn xs r) :
  Meets Tryz.prog 46 [.slice oa n oc, .int .i64 p] F M H (fun e H' => ∃ ka kc, e = .returned (.slice ka xs.length kc) ∧ H' = .row ka kc 3 1 xs.length ((offs (p + 1) xs).map nV) :: H) := by
 subst hn
 refine Meets.enter Tryz.func46 rfl rfl ?_
 obtain ⟨g1, g2⟩ := drop_head ha.drop
 have g3 : (v.getD p default).kids = (xs.length : Int) := by rw [g1, ha.kids]
 have g4 : xs.length < v.length := by
  have h1 := (Fo.of ha.fo).le
  have h2 := congrArg List.length ha.drop
  simp only [List.length_drop, List.length_cons, List.length_append] at h2
  omega
 refine S.nilrow 3 1 ?_
 repeat' (first | ((first | apply T.mv | apply T.asn | apply T.len); apply rfl; apply rfl) | ((first | apply T.lss | apply T.geq); (iterate 3 apply rfl)) | (apply T.addI; apply rfl; apply rfl; omega; apply rfl) | (apply T.pickF; (iterate 3 apply rfl)) | (with_reducible first | refine Sr.nil ?_ | refine S.seq ?_ | refine S.block ?_ | refine S.reg ?_ | refine S.skip ?_) | (apply T.ungV; apply rfl; (first | with_reducible rfl | decide)) | (apply S.condQ; apply rfl; all_goals (intro _; try (exfalso; first | omega | with_reducible contradiction))) | (apply T.gcase; apply rfl; apply rfl; all_goals (intro _; try (exfalso; first | omega | with_reducible contradiction))) | fail)
 refine S.frontR none ?_
 refine S.loopE 1 [0, 1] (fun R b' μ H' e => ∃ (i : Nat) (ka : Option Addr) (kc m : Nat) (q : Nat), H' = .row ka kc 3 1 m ((offs (p + 1) (xs.take i)).map nV) :: R ∧ e = (5, .slice ka m kc) :: (6, .int .i64 q) :: (7, .int .i64 i) :: b' ∧ (i ≤ xs.length ∧ m = i ∧ q = p + 1 + (xs.take i).flatten.length) ∧ μ = xs.length - i) rfl rfl ?_ _ _ ⟨0, none, 0, 0, p + 1, rfl, rfl, ⟨Nat.zero_le _, rfl, rfl⟩, rfl⟩ (by repeat' first | exact trivial | refine And.intro rfl ?_)
 rintro _ _ _ ⟨i, ka, kc, m, q, rfl, rfl, ⟨h1, h2, h3⟩, rfl⟩ ih
 by_cases h4 : i < xs.length
 ·have hk := ha.kid h4
  rw [← h3] at hk
  have hx := ha.fo _ (List.getElem_mem h4)
  have hq := drop_le hk hx.pos
  have hxp := hx.pos
  have hs := offs_snoc (p + 1) (xs.take i) xs[i]
  rw [← List.take_succ_eq_append_getElem h4, ← h3] at hs
  have ht := take_flat_succ h4
  subst h2
  repeat' (first | ((first | apply T.mv | apply T.asn | apply T.len); apply rfl; apply rfl) | ((first | apply T.lss | apply T.geq); (iterate 3 apply rfl)) | (apply T.ixF; apply rfl; apply rfl; infer_instance; exact (fun _ => rfl); apply rfl; omega; omega; apply rfl) | (apply T.fieldAddrF; apply rfl; infer_instance; exact (fun _ => rfl); apply rfl; omega; apply rfl) | (apply T.loadF; apply rfl; apply rfl; infer_instance; exact (fun _ => rfl); apply rfl; exact getD_some (by omega); apply rfl; apply rfl) | (apply T.pickT; (iterate 3 apply rfl)) | (apply T.bs; (iterate 6 apply rfl); intro nb) | (apply T.appendN; apply rfl; apply rfl; infer_instance; apply rfl; (constructor <;> omega); apply rfl; intro na nc) | (with_reducible first | refine Sr.nil ?_ | refine S.seq ?_ | refine S.block ?_ | refine S.reg ?_ | refine S.skip ?_) | (apply T.ungV; apply rfl; (first | with_reducible rfl | decide)) | (apply S.condQ; apply rfl; all_goals (intro _; try (exfalso; first | omega | with_reducible contradiction))) | (apply T.gcase; apply rfl; apply rfl; all_goals (intro _; try (exfalso; first | omega | with_reducible contradiction))) | fail)
  refine T.call rfl rfl (behindN_spec rfl (by omega) hx hk) ?_
  rintro _ _ ⟨rfl, rfl⟩
  have hmap : (offs (p + 1) (xs.take m)).map nV ++ [nV q] = (offs (p + 1) (xs.take (m + 1))).map nV := by rw [hs]; simp
  repeat' (first | ((first | apply T.mv | apply T.asn); apply rfl; apply rfl) | (apply T.addI; apply rfl; apply rfl; omega; apply rfl) | (with_reducible first | refine Sr.nil ?_ | refine S.reg ?_ | refine S.inBlock ?_) | (with_reducible apply T.ofRet) | fail)
  exact ih _ _ _ _ ⟨m + 1, na, nc, m + 1, q + xs[m].length, by rw [hs], rfl, ⟨h4, rfl, by omega⟩, rfl⟩ (by omega) (by repeat' first | exact trivial | refine And.intro rfl ?_)
 ·obtain rfl : i = xs.length := by omega
  rw [List.take_length]
  subst h2
  repeat' (first | ((first | apply T.mv | apply T.asn); apply rfl; apply rfl) | (apply T.lss; (iterate 3 apply rfl)) | (apply T.ixF; apply rfl; apply rfl; infer_instance; exact (fun _ => rfl); apply rfl; omega; omega; apply rfl) | (apply T.fieldAddrF; apply rfl; infer_instance; exact (fun _ => rfl); apply rfl; omega; apply rfl) | (apply T.loadF; apply rfl; apply rfl; infer_instance; exact (fun _ => rfl); apply rfl; exact getD_some (by omega); apply rfl; apply rfl) | (apply T.pickF; (iterate 3 apply rfl)) | (with_reducible first | refine Sr.nil ?_ | refine S.seq ?_ | refine S.reg ?_) | (apply S.exit; apply rfl) | (apply T.skip; apply rfl; (first | with_reducible rfl | decide); apply rfl) | (apply S.condFV; apply rfl; (first | with_reducible rfl | decide)) | (apply T.gcase; apply rfl; apply rfl; all_goals (intro _; try (exfalso; first | omega | with_reducible contradiction))) | (apply T.retW; apply rfl) | fail)
  all_goals exact ⟨_, PSub.refl _, _, _, rfl, rfl⟩
def memP (p : Nat) (n : Nd) (xs : List (List Nd)) (key : List UInt8) : Int := if n.kind = 7 then membX (p + 1) xs key else -1
theorem member_spec {nn : Nd} {xs : List (List Nd)} {r : List Nd} {key : List UInt8} [Rd F M H oa (v.flatMap ndV)] (hn : v.length = n) (hl : n ≤ 1100000) (ha : At v p nn xs r) :
  Meets Tryz.prog 22 [.slice oa n oc, .int .i64 p, sV key] F M H (fun e H' => e = .returned (.int .i64 (memP p nn xs key)) ∧ H' = H) := by
 subst hn
 refine Meets.enter Tryz.func22 rfl rfl ?_
 obtain ⟨g1, g2⟩ := drop_head ha.drop
 have g3 : (v.getD p default).kids = (xs.length : Int) := by rw [g1, ha.kids]
 have g4 : xs.length < v.length := by
  have h1 := (Fo.of ha.fo).le
  have h2 := congrArg List.length ha.drop
  simp only [List.length_drop, List.length_cons, List.length_append] at h2
  omega
 unfold memP
 rw [← g1]
 by_cases hk7 : (v.getD p default).kind = 7
 ·rw [if_pos hk7]
  repeat' (first | ((first | apply T.mv | apply T.asn | apply T.len); apply rfl; apply rfl) | ((first | apply T.lss | apply T.geq | apply T.neq); (iterate 3 apply rfl)) | (apply T.addI; apply rfl; apply rfl; omega; apply rfl) | (apply T.ixF; apply rfl; apply rfl; infer_instance; exact (fun _ => rfl); apply rfl; omega; omega; apply rfl) | (apply T.fieldAddrF; apply rfl; infer_instance; exact (fun _ => rfl); apply rfl; omega; apply rfl) | (apply T.loadF; apply rfl; apply rfl; infer_instance; exact (fun _ => rfl); apply rfl; exact getD_some (by omega); apply rfl; apply rfl) | (apply T.pickF; (iterate 3 apply rfl)) | (with_reducible first | refine Sr.nil ?_ | refine S.seq ?_ | refine S.block ?_ | refine S.reg ?_ | refine S.skip ?_) | (apply T.ungV; apply rfl; (first | with_reducible rfl | decide)) | (apply S.condQ; apply rfl; all_goals (intro _; try (exfalso; first | omega | with_reducible contradiction))) | (apply T.gcase; apply rfl; apply rfl; all_goals (intro _; try (exfalso; first | omega | with_reducible contradiction))) | fail)
  generalize hQ : membX (p + 1) xs key = Q
  refine S.loopE 0 [0, 1, 2] (fun R b' μ H' e => ∃ (i q : Nat), H' = R ∧ e = (7, .int .i64 q) :: (8, .int .i64 i) :: b' ∧ (i ≤ xs.length ∧ q = p + 1 + (xs.take i).flatten.length ∧ membX q (xs.drop i) key = Q) ∧ μ = xs.length - i) rfl rfl ?_ _ _ ⟨0, p + 1, rfl, rfl, ⟨Nat.zero_le _, rfl, hQ⟩, rfl⟩ (by repeat' first | exact trivial | refine And.intro rfl ?_)
  rintro _ _ _ ⟨i, q, rfl, rfl, ⟨h1, h3, h5⟩, rfl⟩ ih
  by_cases h4 : i < xs.length
  ·have hk := ha.kid h4
   rw [← h3] at hk
   have hx := ha.fo _ (List.getElem_mem h4)
   have hq := drop_le hk hx.pos
   have hxp := hx.pos
   have ht := take_flat_succ h4
   rw [List.drop_eq_getElem_cons h4, membX_cons] at h5
   have hhd : v.getD q default = headN xs[i] := by
    obtain ⟨n2, xs2, e2, -⟩ := At.of_fo hk hx
    rw [e2] at hk ⊢
    exact (drop_head hk).1
   rw [← hhd] at h5
   by_cases h6 : (v.getD q default).key = key
   ·rw [if_pos h6] at h5
    repeat' (first | (apply T.seql; (iterate 3 apply rfl)) | ((first | apply T.mv | apply T.asn | apply T.len); apply rfl; apply rfl) | ((first | apply T.lss | apply T.geq); (iterate 3 apply rfl)) | (apply T.ixF; apply rfl; apply rfl; infer_instance; exact (fun _ => rfl); apply rfl; omega; omega; apply rfl) | (apply T.fieldAddrF; apply rfl; infer_instance; exact (fun _ => rfl); apply rfl; omega; apply rfl) | (apply T.loadF; apply rfl; apply rfl; infer_instance; exact (fun _ => rfl); apply rfl; exact getD_some (by omega); apply rfl; apply rfl) | (apply T.pickT; (iterate 3 apply rfl)) | (with_reducible first | refine Sr.nil ?_ | refine S.seq ?_ | refine S.block ?_ | refine S.reg ?_ | refine S.skip ?_) | (apply T.ungV; apply rfl; (first | with_reducible rfl | decide)) | (apply S.condQ; apply rfl; all_goals (intro _; try (exfalso; first | omega | with_reducible contradiction))) | (apply T.gcase; apply rfl; apply rfl; all_goals (intro _; try (exfalso; first | omega | with_reducible contradiction))) | (apply T.retW; apply rfl) | fail)
    exact ⟨_, PSub.refl _, by rw [h5], rfl⟩
   ·rw [if_neg h6] at h5
    repeat' (first | (apply T.seql; (iterate 3 apply rfl)) | ((first | apply T.mv | apply T.len); apply rfl; apply rfl) | ((first | apply T.lss | apply T.geq); (iterate 3 apply rfl)) | (apply T.ixF; apply rfl; apply rfl; infer_instance; exact (fun _ => rfl); apply rfl; omega; omega; apply rfl) | (apply T.fieldAddrF; apply rfl; infer_instance; exact (fun _ => rfl); apply rfl; omega; apply rfl) | (apply T.loadF; apply rfl; apply rfl; infer_instance; exact (fun _ => rfl); apply rfl; exact getD_some (by omega); apply rfl; apply rfl) | (apply T.pickT; (iterate 3 apply rfl)) | (with_reducible first | refine Sr.nil ?_ | refine S.seq ?_ | refine S.block ?_ | refine S.reg ?_ | refine S.skip ?_) | (apply T.ungV; apply rfl; (first | with_reducible rfl | decide)) | (apply S.condQ; apply rfl; all_goals (intro _; try (exfalso; first | omega | with_reducible contradiction))) | (apply T.gcase; apply rfl; apply rfl; all_goals (intro _; try (exfalso; first | omega | with_reducible contradiction))) | fail)
    refine T.call rfl rfl (behindN_spec rfl (by omega) hx hk) ?_
    rintro _ _ ⟨rfl, rfl⟩
    repeat' (first | ((first | apply T.mv | apply T.asn); apply rfl; apply rfl) | (apply T.addI; apply rfl; apply rfl; omega; apply rfl) | (with_reducible first | refine Sr.nil ?_ | refine S.reg ?_ | refine S.inBlock ?_) | (with_reducible apply T.ofRet) | fail)
    exact ih _ _ _ _ ⟨i + 1, q + xs[i].length, rfl, rfl, ⟨h4, by omega, h5⟩, rfl⟩ (by omega) (by repeat' first | exact trivial | refine And.intro rfl ?_)
  ·obtain rfl : i = xs.length := by omega
   rw [List.drop_length] at h5
   rw [← h5]
   repeat' (first | ((first | apply T.mv | apply T.asn); apply rfl; apply rfl) | (apply T.lss; (iterate 3 apply rfl)) | (apply T.ixF; apply rfl; apply rfl; infer_instance; exact (fun _ => rfl); apply rfl; omega; omega; apply rfl) | (apply T.fieldAddrF; apply rfl; infer_instance; exact (fun _ => rfl); apply rfl; omega; apply rfl) | (apply T.loadF; apply rfl; apply rfl; infer_instance; exact (fun _ => rfl); apply rfl; exact getD_some (by omega); apply rfl; apply rfl) | (apply T.pickF; (iterate 3 apply rfl)) | (with_reducible first | refine Sr.nil ?_ | refine S.seq ?_ | refine S.reg ?_) | (apply S.exit; apply rfl) | (apply T.skip; apply rfl; (first | with_reducible rfl | decide); apply rfl) | (apply S.condFV; apply rfl; (first | with_reducible rfl | decide)) | (apply T.gcase; apply rfl; apply rfl; all_goals (intro _; try (exfalso; first | omega | with_reducible contradiction))) | (apply T.retW; apply rfl) | fail)
   all_goals exact ⟨_, PSub.refl _, rfl, rfl⟩
 ·rw [if_neg hk7]
  repeat' (first | ((first | apply T.mv | apply T.asn | apply T.len); apply rfl; apply rfl) | ((first | apply T.lss | apply T.geq | apply T.neq); (iterate 3 apply rfl)) | (apply T.ixF; apply rfl; apply rfl; infer_instance; exact (fun _ => rfl); apply rfl; omega; omega; apply rfl) | (apply T.fieldAddrF; apply rfl; infer_instance; exact (fun _ => rfl); apply rfl; omega; apply rfl) | (apply T.loadF; apply rfl; apply rfl; infer_instance; exact (fun _ => rfl); apply rfl; exact getD_some (by omega); apply rfl; apply rfl) | (apply T.pickF; (iterate 3 apply rfl)) | (with_reducible first | refine Sr.nil ?_ | refine S.seq ?_ | refine S.reg ?_) | (apply T.ungV; apply rfl; (first | with_reducible rfl | decide)) | (apply S.condQ; apply rfl; all_goals (intro _; try (exfalso; first | omega | with_reducible contradiction))) | (apply T.gcase; apply rfl; apply rfl; all_goals (intro _; try (exfalso; first | omega | with_reducible contradiction))) | (apply T.retW; apply rfl) | fail)
  exact ⟨_, PSub.refl _, rfl, rfl⟩
end
end Go.Proofs.YtjajcmedipjfhaaGreatDoor
/- The walks of the document's looks at nodes. -/
namespace Go.Proofs.YtjajcmedipjfhaaGreatDoor
open Sg Go.IntWalk
set_option maxRecDepth 100000
set_option maxHeartbeats 4000000
section
variable {F : World} {M : List Nat} {H : List Res} {v : List Nd} {p : Nat} {oa : Option Addr} {oc n : Nat}
end
end Go.Proofs.YtjajcmedipjfhaaGreatDoor
/- Looks at nodes by place alone, the program's and the document's. -/
namespace Go.Proofs.YtjajcmedipjfhaaGreatDoor
open Sg Go.IntWalk
section
variable {F : World} {M : List Nat} {H : List Res} {v : List Nd} {p : Nat} {oa : Option Addr} {oc n : Nat}
theorem memberI_spec {key : List UInt8} [Rd F M H oa (v.flatMap ndV)] (hn : v.length = n) (hl : n ≤ 1100000) (ha : IsAt v p) :
  Meets Tryz.prog 22 [.slice oa n oc, .int .i64 p, sV key] F M H (fun e H' => e = .returned (.int .i64 (memI v p key)) ∧ H' = H) := by
 obtain ⟨r, ha⟩ := ha
 exact member_spec hn hl ha
theorem kidsI_spec [Rd F M H oa (v.flatMap ndV)] (hn : v.length = n) (hl : n ≤ 1100000) (ha : IsAt v p) :
  Meets Tryz.prog 46 [.slice oa n oc, .int .i64 p] F M H (fun e H' => ∃ ka kc, e = .returned (.slice ka (kidsOf v p).length kc) ∧ H' = .row ka kc 3 1 (kidsOf v p).length ((offs (p + 1) (kidsOf v p)).map nV) :: H) := by
 obtain ⟨r, ha⟩ := ha
 exact kids_spec hn hl ha
end
end Go.Proofs.YtjajcmedipjfhaaGreatDoor
/- The walks of the revealing: its memory; giving up; a digest met. -/
namespace Sg
open Go
structure Dc where
 b : Nat
 s : Said
 va : Option Addr
 vc : Nat
def dupB (met : List Dg) : Bool := !decide met.Nodup
theorem dupB_snoc (met : List Dg) (d : Dg) : dupB (met ++ [d]) = (dupB met || decide (d ∈ met)) := by
 unfold dupB
 by_cases h1 : met.Nodup
 ·by_cases h2 : d ∈ met
  ·have : ¬ (met ++ [d]).Nodup := fun h => by
    rw [List.nodup_append] at h
    exact h.2.2 d h2 d (List.mem_singleton.2 rfl) rfl
   simp [h1, h2, this]
  ·have : (met ++ [d]).Nodup := by
    rw [List.nodup_append]
    refine ⟨h1, by simp, fun a ha b hb e => ?_⟩
    obtain rfl := List.mem_singleton.1 hb
    subst e
    exact h2 ha
   simp [h1, h2, this]
 ·have : ¬ (met ++ [d]).Nodup := fun h => h1 (List.nodup_append.1 h).1
  simp [h1, this]
def findD (ds : List Dc) (d : Dg) : Option Dc := ds.find? fun x => x.s.dig == d
theorem findD_some {ds : List Dc} {d : Dg} {x : Dc} (h : findD ds d = some x) : x ∈ ds ∧ x.s.dig = d := by
 refine ⟨List.mem_of_find?_eq_some h, ?_⟩
 have := List.find?_some h
 simpa using this
theorem findS_map (ds : List Dc) (d : Dg) : findS (ds.map (·.s)) d = (findD ds d).map (·.s) := by
 unfold findS findD
 rw [List.find?_map]
 rfl
structure Bk2 (B E : Ents) (ds : List Dc) (met : List Dg) : Prop where
 by_ : ∀ d, (eget B d).getD (-1) = match findD ds d with
  | some x => (x.b : Int)
  | none => -1
 seen : ∀ d, (eget E d).getD 0 = (met.count d : Int)
 len : E.length ≤ met.length
 one : (ds.map (·.s.dig)).Nodup
end Sg
namespace Go.Proofs.YtjajcmedipjfhaaGreatDoor
open Sg Go.IntWalk
set_option maxRecDepth 100000
set_option maxHeartbeats 4000000
abbrev sdFault : PanicEntry := ⟨.iface 62 (.agg ⟨[.int .i64 200]⟩), false, false⟩
abbrev dcV (met : List Dg) (x : Dc) : List Value := [sV x.s.name, .bool x.s.member, .slice x.va x.s.value.length x.vc, .bool (decide (x.s.dig ∈ met))]
def dcR (met : List Dg) : List Dc → List Res → List Res
 | [], H => H
 | x :: r, H => .blk x.b (dcV met x) 66 :: dcR met r H
abbrev wkV (bb sb : Nat) (tw : Bool) (oa : Option Addr) (n oc : Nat) : List Value := [.map (some bb), .map (some sb), .bool tw, .slice oa n oc]
abbrev wkR (p bb sb : Nat) (B E : Ents) (met : List Dg) (oa : Option Addr) (oc : Nat) (o : List Nd) (ds : List Dc) (H : List Res) : List Res :=
 .blk p (wkV bb sb (dupB met) oa o.length oc) 57 :: .ex bb (ptrQ Tryz.prog 9 B.length (mapD B)) :: .ex sb (mapQ Tryz.prog 9 3 E.length (mapD E)) :: .row oa oc 34 6 o.length (o.flatMap ndV) :: dcR met ds H
section
variable {F : World} {M : List Nat} {H : List Res} {p bb sb : Nat} {B E : Ents} {met : List Dg} {oa : Option Addr} {oc : Nat} {o : List Nd} {ds : List Dc} {d : Dg}
theorem wfI64 {z : Int} (h : -9223372036854775808 ≤ z ∧ z ≤ 9223372036854775807) : (Lit.int .i64 z).wf = true := by
 simp only [Lit.wf, IntKind.min, IntKind.max, IntKind.bits, IntKind.signed]
 simp
 omega
theorem must_true : Meets Tryz.prog 81 [.bool true] F M H (fun e H' => e = .returned (.tuple ⟨[]⟩) ∧ H' = H) := by
 refine Meets.enter Tryz.func81 rfl rfl ?_
 repeat' (first | (apply T.mv; apply rfl; apply rfl) | (apply T.notB; apply rfl; apply rfl) | (with_reducible first | refine Sr.nil ?_ | refine S.seq ?_ | refine S.reg ?_ | refine S.skip ?_) | (apply S.condFV; apply rfl; (first | with_reducible rfl | decide)) | (apply T.doneW; apply rfl) | fail)
 exact ⟨_, PSub.refl _, rfl, rfl⟩
theorem must_false : Meets Tryz.prog 81 [.bool false] F M H (fun e H' => e = .panicked [sdFault] ∧ H' = H) := by
 refine Meets.enter Tryz.func81 rfl rfl ?_
 repeat' (first | (apply T.mv; apply rfl; apply rfl) | (apply T.notB; apply rfl; apply rfl) | (apply T.buildL; (iterate 3 apply rfl)) | (apply T.makeI; (iterate 3 apply rfl)) | (with_reducible first | refine Sr.nil ?_ | refine S.seq ?_ | refine S.reg ?_) | (apply S.condTV; apply rfl; (first | with_reducible rfl | decide)) | fail)
 refine T.panic rfl ?_
 repeat' (first | (with_reducible apply T.diesW) | fail)
 exact ⟨_, PSub.refl _, rfl, rfl⟩
theorem dcR_perm (l r : List Dc) (x : Dc) (H : List Res) : (dcR met (l ++ x :: r) H).Perm (.blk x.b (dcV met x) 66 :: dcR met (l ++ r) H) := by
 induction l with
 | nil => exact List.Perm.refl _
 | cons y l ih => exact (ih.cons _).trans (List.Perm.swap _ _ _)
theorem dcR_same {ds : List Dc} (h : ∀ x ∈ ds, x.s.dig ≠ d) (H : List Res) : dcR (met ++ [d]) ds H = dcR met ds H := by
 induction ds with
 | nil => rfl
 | cons y r ih =>
  have h1 : decide (y.s.dig ∈ met ++ [d]) = decide (y.s.dig ∈ met) := by
   rw [decide_eq_decide, List.mem_append, List.mem_singleton]
   exact ⟨fun h2 => h2.elim id (fun e => absurd e (h y (List.mem_cons_self ..))), .inl⟩
  rw [dcR, dcR, ih fun x hx => h x (List.mem_cons_of_mem _ hx), dcV, dcV, h1]
theorem mem_dc {x : Dc} : ∀ {ds : List Dc} {H : List Res}, x ∈ ds → .blk x.b (dcV met x) 66 ∈ dcR met ds H
 | _ :: _, _, .head _ => List.mem_cons_self ..
 | _ :: _, _, .tail _ h => List.mem_cons_of_mem _ (mem_dc h)
theorem dc_psub (met : List Dg) : ∀ (ds : List Dc) (H : List Res), PSub H (dcR met ds H)
 | [], _ => PSub.refl _
 | _ :: r, H => PSub.drop (dc_psub met r H)
abbrev dcP : Option Dc → Value
 | some x => .pointer (some ⟨x.b, 0, none⟩)
 | none => .pointer none
theorem by_ptr (hB : Bk2 B E ds met) (d : Dg) : pV ((eget B d).getD (-1)) = dcP (findD ds d) := by
 rw [hB.by_]
 cases findD ds d with
 | none => rfl
 | some x => exact pV_nat _
theorem bk2_put (hB : Bk2 B E ds met) (d : Dg) : Bk2 B (eput E d ((met.count d : Int) + 1)) ds (met ++ [d]) := by
 refine ⟨hB.by_, fun n => ?_, ?_, hB.one⟩
 ·rw [eget_put]
  by_cases h : d = n
  ·subst h
   rw [if_pos rfl, Option.getD_some, List.count_append]
   simp
  ·rw [if_neg h, hB.seen, List.count_append]
   have : List.count n [d] = 0 := by simp [List.count_singleton, h]
   omega
 ·have := eput_length E d ((met.count d : Int) + 1)
  have := hB.len
  rw [List.length_append, List.length_singleton]
  omega
theorem meet_spec (hB : Bk2 B E ds met) (hd : d.length ≤ maxLen) (hm : met.length ≤ 1000000000) : Meets Tryz.prog 83 [.pointer (some ⟨p, 0, none⟩), sV d] F M (wkR p bb sb B E met oa oc o ds H)
  (fun e H' => ∃ E', Bk2 B E' ds (met ++ [d]) ∧ e = .returned (.tuple ⟨[dcP (findD ds d), .bool (decide (d ∉ met))]⟩) ∧ H' = wkR p bb sb B E' (met ++ [d]) oa oc o ds H) := by
 refine Meets.enter Tryz.func83 rfl rfl ?_
 have hs := hB.seen d
 have hcl : met.count d ≤ met.length := List.count_le_length
 have hp := bk2_put hB d
 have hps := hp.seen d
 have hbp := by_ptr hB d
 have hel := hB.len
 have hdup := dupB_snoc met d
 have hcc : met.count d + 1 = (met ++ [d]).count d := by rw [List.count_append]; simp
 obtain ⟨tw, htw⟩ : ∃ tw, dupB met = tw := ⟨_, rfl⟩
 obtain ⟨fr, hfr⟩ : ∃ fr, decide (d ∉ met) = fr := ⟨_, rfl⟩
 have hfr2 : decide (d ∈ met) = !fr := by rw [← hfr]; by_cases h : d ∈ met <;> simp [h]
 unfold wkR
 rw [hdup, htw, hfr, hfr2]
 repeat' (first | (apply T.mapLook; apply rfl; apply rfl; infer_instance; (first | assumption | (simp only [maxLen]; omega) | omega); apply rfl) | ((first | apply T.mv | apply T.asn | apply T.nilCheck | apply T.fieldAddrZ); apply rfl; apply rfl) | (apply T.load; apply rfl; apply rfl; infer_instance; apply rfl; apply rfl) | (apply T.addI; apply rfl; apply rfl; omega; apply rfl) | (with_reducible first | refine Sr.nil ?_ | refine S.seq ?_ | refine S.reg ?_) | fail)
 rw [hs]
 refine Sr.front sb ?_
 refine T.mapPutT (z := (met.count d : Int) + 1) rfl rfl rfl hd (by simp only [maxLen]; omega) (wfI64 (by constructor <;> omega)) ?_
 dsimp only
 generalize eput E d ((met.count d : Int) + 1) = E' at hp hps ⊢
 have hz : decide ((eget E' d).getD 0 = 1) = fr := by
  rw [hps, ← hcc, ← hfr, decide_eq_decide, ← List.count_eq_zero]
  omega
 have hz2 : decide (¬ (eget E' d).getD 0 = 1) = !fr := by
  rw [← hz]
  by_cases h : (eget E' d).getD 0 = 1 <;> simp [h]
 have hnd := hB.one
 cases hf : findD ds d with
 | none =>
  rw [hf] at hbp
  have hsame : dcR (met ++ [d]) ds H = dcR met ds H := dcR_same (fun x hx e => by
   have := List.find?_eq_none.1 hf x hx
   exact this (by simpa using e)) H
  rw [hsame]
  cases tw <;> cases fr
  all_goals
   repeat' (first | (apply T.mapLook; apply rfl; apply rfl; infer_instance; (first | assumption | (simp only [maxLen]; omega) | omega); apply rfl) | (apply T.ptrLook; apply rfl; apply rfl; infer_instance; (first | assumption | (simp only [maxLen]; omega) | omega); apply rfl) | ((first | apply T.mv | apply T.asn | apply T.nilCheck | apply T.fieldAddrZ | apply T.not); apply rfl; apply rfl) | (apply T.load; apply rfl; apply rfl; infer_instance; apply rfl; apply rfl) | (apply T.eql; (iterate 3 apply rfl)) | (apply T.pickT; (iterate 3 apply rfl)) | (apply T.pickF; (iterate 3 apply rfl)) | (apply T.store; apply rfl; apply rfl; infer_instance; (first | decide | (simp; omega) | simp); apply rfl) | (with_reducible first | refine Sr.nil ?_ | refine S.seq ?_ | refine S.reg ?_) | (apply T.ungV; apply rfl; (first | with_reducible rfl | decide)) | (apply T.skip; apply rfl; (first | with_reducible rfl | decide); apply rfl) | fail)
   try rw [hz]
   skip
   rw [hbp]
   repeat' (first | (apply T.neqP0; apply rfl; apply rfl) | ((first | apply T.mv | apply T.asn); apply rfl; apply rfl) | (with_reducible first | refine Sr.nil ?_ | refine S.seq ?_ | refine S.reg ?_ | refine S.skip ?_) | (apply S.condFV; apply rfl; (first | with_reducible rfl | decide)) | (apply T.retW; apply rfl) | fail)
   try rw [hz2]
   exact ⟨_, PSub.take (pick_tl pick_hd) (PSub.take (pick_tl pick_hd) (PSub.take pick_hd (PSub.refl _))), E', hp, rfl, rfl⟩
 | some x =>
  rw [hf] at hbp
  obtain ⟨hx1, hx2⟩ := findD_some hf
  obtain ⟨l, r, hlr⟩ := List.append_of_mem hx1
  subst hlr
  have hoth : ∀ y ∈ l ++ r, y.s.dig ≠ d := fun y hy e => by
   rw [List.map_append, List.map_cons, List.nodup_append, List.nodup_cons] at hnd
   obtain ⟨n1, ⟨n2, n3⟩, n4⟩ := hnd
   rcases List.mem_append.1 hy with hy | hy
   ·exact n4 _ (List.mem_map_of_mem hy) _ (List.mem_cons_self ..) (by rw [e, hx2])
   ·exact n2 (by rw [hx2, ← e]; exact List.mem_map_of_mem hy)
  have hsame : dcR (met ++ [d]) (l ++ r) H = dcR met (l ++ r) H := dcR_same hoth H
  have p1 := dcR_perm (met := met) l r x H
  have p2 := dcR_perm (met := met ++ [d]) l r x H
  rw [hsame] at p2
  have hu : decide (x.s.dig ∈ met ++ [d]) = true := by simp [hx2]
  unfold dcV at p2
  rw [hu] at p2
  cases tw <;> cases fr
  all_goals
   repeat' (first | (apply T.mapLook; apply rfl; apply rfl; infer_instance; (first | assumption | (simp only [maxLen]; omega) | omega); apply rfl) | (apply T.ptrLook; apply rfl; apply rfl; infer_instance; (first | assumption | (simp only [maxLen]; omega) | omega); apply rfl) | ((first | apply T.mv | apply T.asn | apply T.nilCheck | apply T.fieldAddrZ | apply T.not); apply rfl; apply rfl) | (apply T.load; apply rfl; apply rfl; infer_instance; apply rfl; apply rfl) | (apply T.eql; (iterate 3 apply rfl)) | (apply T.pickT; (iterate 3 apply rfl)) | (apply T.pickF; (iterate 3 apply rfl)) | (apply T.store; apply rfl; apply rfl; infer_instance; (first | decide | (simp; omega) | simp); apply rfl) | (with_reducible first | refine Sr.nil ?_ | refine S.seq ?_ | refine S.reg ?_) | (apply T.ungV; apply rfl; (first | with_reducible rfl | decide)) | (apply T.skip; apply rfl; (first | with_reducible rfl | decide); apply rfl) | fail)
   try rw [hz]
   skip
   rw [hbp]
   repeat' (first | (apply T.neqP; apply rfl; apply rfl) | ((first | apply T.mv | apply T.nilCheck | apply T.fieldAddrZ); apply rfl; apply rfl) | (with_reducible first | refine Sr.nil ?_ | refine S.reg ?_) | (apply S.condTV; apply rfl; (first | with_reducible rfl | decide)) | fail)
   try rw [hz2]
   refine Sr.perm ?_ ((((p1.cons _).cons _).cons _).cons _)
   repeat' (first | ((first | apply T.mv | apply T.asn); apply rfl; apply rfl) | (apply T.store; apply rfl; apply rfl; infer_instance; (first | decide | (simp; omega) | simp); apply rfl) | (with_reducible first | refine Sr.nil ?_ | refine S.seq ?_ | refine S.reg ?_) | (apply T.retW; apply rfl) | fail)
   exact ⟨_, PSub.take (pick_tl pick_hd) (PSub.take (pick_tl pick_hd) (PSub.take pick_hd (PSub.take pick_hd ⟨[], by rw [List.append_nil]; exact p2.symm⟩))), E', hp, rfl, rfl⟩
end
end Go.Proofs.YtjajcmedipjfhaaGreatDoor
/- The value at a place of a row of nodes, by itself. -/
namespace Sg
def valAt (v : List Nd) (q : Nat) : List Nd := nodeAt v q :: (kidsOf v q).flatten
theorem At.val {v r : List Nd} {p : Nat} {n : Nd} {xs : List (List Nd)} (h : At v p n xs r) : valAt v p = n :: xs.flatten := by rw [valAt, h.node, h.kidsOf]
theorem valAt_of {v x r : List Nd} {p : Nat} (h : v.drop p = x ++ r) (hx : Fo 1 x) : valAt v p = x := by
 obtain ⟨n, xs, rfl, h2⟩ := At.of_fo h hx
 exact h2.val
theorem valAt_drop {v : List Nd} {q : Nat} (h : IsAt v q) : ∃ r, v.drop q = valAt v q ++ r := by
 obtain ⟨r, h⟩ := h
 exact ⟨r, by rw [h.drop, valAt, List.cons_append]⟩
theorem valAt_fo {v : List Nd} {q : Nat} (h : IsAt v q) : Fo 1 (valAt v q) := by
 obtain ⟨r, h⟩ := h
 exact Fo.one (m := (kidsOf v q).length) h.kids (Fo.of h.fo)
theorem headN_valAt (v : List Nd) (q : Nat) : headN (valAt v q) = nodeAt v q := rfl
theorem kidsOf_self {x : List Nd} {n : Nd} {xs : List (List Nd)} (hx : x = n :: xs.flatten) (hk : n.kids = (xs.length : Int)) (hf : ∀ y ∈ xs, Fo 1 y) : kidsOf x 0 = xs := by
 have h : At x 0 n xs [] := ⟨by rw [List.drop_zero, hx]; simp, hk, hf⟩
 exact h.kidsOf
theorem kidsOf_valAt {v : List Nd} {q : Nat} (h : IsAt v q) : kidsOf (valAt v q) 0 = kidsOf v q := by
 obtain ⟨r, h⟩ := h
 exact kidsOf_self rfl h.kids h.fo
theorem valAt_kid {v : List Nd} {q i : Nat} (h : IsAt v q) (hi : i < (kidsOf v q).length) : valAt v ((offs (q + 1) (kidsOf v q)).getD i 0) = (kidsOf v q)[i] := by
 obtain ⟨r, h⟩ := h
 have h1 := h.kid hi
 rw [offs_get hi]
 exact valAt_of h1 (h.fo _ (List.getElem_mem hi))
theorem valAt_zero {v : List Nd} (h : Fo 1 v) : valAt v 0 = v := valAt_of (r := []) (by simp) h
theorem valAt_mem {v : List Nd} {q : Nat} (h : IsAt v q) : ∀ n ∈ valAt v q, n ∈ v := by
 obtain ⟨r, h⟩ := valAt_drop h
 exact fun n hn => List.mem_of_mem_drop (i := q) (by rw [h]; exact List.mem_append_left _ hn)
theorem membX_find (key : List UInt8) : ∀ (p : Nat) (xs : List (List Nd)), (membX p xs key = -1 ∧ xs.find? (fun y => (headN y).key == key) = none) ∨ ∃ i, ∃ h : i < xs.length, membX p xs key = (((offs p xs).getD i 0 : Nat) : Int) ∧ xs.find? (fun y => (headN y).key == key) = some xs[i]
 | _, [] => .inl ⟨rfl, rfl⟩
 | p, x :: r => by
  rw [membX_cons]
  by_cases h : (headN x).key = key
  ·rw [if_pos h]
   exact .inr ⟨0, by simp, by simp [offs], by simp [List.find?_cons, h]⟩
  ·rw [if_neg h]
   have hf : (x :: r).find? (fun y => (headN y).key == key) = r.find? (fun y => (headN y).key == key) := by
    rw [List.find?_cons_of_neg]
    simpa using h
   rw [hf]
   rcases membX_find key (p + x.length) r with ⟨h1, h2⟩ | ⟨i, hi, h1, h2⟩
   ·exact .inl ⟨h1, h2⟩
   ·exact .inr ⟨i + 1, by simpa using hi, by rw [h1, offs_cons, List.getD_cons_succ], by simpa using h2⟩
theorem memI_valAt {v : List Nd} {q : Nat} (h : IsAt v q) (key : List UInt8) : (memI v q key = -1 ∧ memV (valAt v q) key = none) ∨ ∃ q' : Nat, memI v q key = (q' : Int) ∧ IsAt v q' ∧ memV (valAt v q) key = some (valAt v q') := by
 unfold memI memV
 rw [headN_valAt, kidsOf_valAt h]
 by_cases hk : (nodeAt v q).kind = 7
 ·rw [if_pos hk, if_pos hk]
  rcases membX_find key (q + 1) (kidsOf v q) with ⟨h1, h2⟩ | ⟨i, hi, h1, h2⟩
  ·exact .inl ⟨h1, h2⟩
  ·refine .inr ⟨_, h1, ?_, ?_⟩
   ·obtain ⟨r, h⟩ := h
    rw [offs_get hi]
    exact h.kidIs hi
   ·rw [h2, valAt_kid h hi]
 ·rw [if_neg hk, if_neg hk]
  exact .inl ⟨rfl, rfl⟩
section
variable {val : RevV} {L : List Said} {met : List Dg} {ys r : List (List Nd)} {x k : List Nd} {n1 n2 : Nd}
theorem itemsA_bad (h1 : headN x = n1) (hm : memV x dotsN = some k) (h2 : headN k = n2) (h : ¬ (n1.kids = 1 ∧ n2.kind = 5)) : itemsA val L met ys (x :: r) = none := by
 subst h1 h2
 rw [itemsA, hm]
 simp only
 rw [if_neg h]
theorem itemsA_none (h1 : headN x = n1) (hm : memV x dotsN = some k) (h2 : headN k = n2) (h : n1.kids = 1 ∧ n2.kind = 5) (hs : findS L n2.text = none) : itemsA val L met ys (x :: r) = itemsA val L (met ++ [n2.text]) ys r := by
 subst h1 h2
 rw [itemsA, hm]
 simp only
 rw [if_pos h, hs]
theorem itemsA_member {s : Said} (h1 : headN x = n1) (hm : memV x dotsN = some k) (h2 : headN k = n2) (h : n1.kids = 1 ∧ n2.kind = 5) (hs : findS L n2.text = some s) (hb : s.member = true) : itemsA val L met ys (x :: r) = none := by
 subst h1 h2
 rw [itemsA, hm]
 simp only
 rw [if_pos h, hs]
 simp only
 rw [if_pos hb]
theorem itemsA_again {s : Said} (h1 : headN x = n1) (hm : memV x dotsN = some k) (h2 : headN k = n2) (h : n1.kids = 1 ∧ n2.kind = 5) (hs : findS L n2.text = some s) (hb : s.member = false) (hd : n2.text ∈ met) : itemsA val L met ys (x :: r) = itemsA val L (met ++ [n2.text]) ys r := by
 subst h1 h2
 rw [itemsA, hm]
 simp only
 rw [if_pos h, hs]
 simp only
 rw [if_neg (by rw [hb]; simp), if_pos hd]
theorem itemsA_open {s : Said} (h1 : headN x = n1) (hm : memV x dotsN = some k) (h2 : headN k = n2) (h : n1.kids = 1 ∧ n2.kind = 5) (hs : findS L n2.text = some s) (hb : s.member = false) (hd : n2.text ∉ met) : itemsA val L met ys (x :: r) = match val (met ++ [n2.text]) s.value [] with
  | none => none
  | some (m, y) => itemsA val L m (ys ++ [y]) r := by
 subst h1 h2
 rw [itemsA, hm]
 simp only
 rw [if_pos h, hs]
 simp only
 rw [if_neg (by rw [hb]; simp), if_neg hd]
 rfl
end
section
variable {val : RevV} {L : List Said} {met : List Dg} {ns : List (List UInt8)} {ys r : List (List Nd)} {x : List Nd} {n : Nd}
theorem disclA_bad (h1 : headN x = n) (h : n.kind ≠ 5) : disclA val L met ns ys (x :: r) = none := by
 subst h1
 rw [disclA, if_neg h]
theorem disclA_none (h1 : headN x = n) (h : n.kind = 5) (hs : findS L n.text = none) : disclA val L met ns ys (x :: r) = disclA val L (met ++ [n.text]) ns ys r := by
 subst h1
 rw [disclA, if_pos h, hs]
theorem disclA_no {s : Said} (h1 : headN x = n) (h : n.kind = 5) (hs : findS L n.text = some s) (hb : ¬ (s.member = true ∧ s.name ∉ ns)) : disclA val L met ns ys (x :: r) = none := by
 subst h1
 rw [disclA, if_pos h, hs]
 simp only
 rw [if_neg hb]
theorem disclA_again {s : Said} (h1 : headN x = n) (h : n.kind = 5) (hs : findS L n.text = some s) (hb : s.member = true ∧ s.name ∉ ns) (hd : n.text ∈ met) : disclA val L met ns ys (x :: r) = disclA val L (met ++ [n.text]) (ns ++ [s.name]) ys r := by
 subst h1
 rw [disclA, if_pos h, hs]
 simp only
 rw [if_pos hb, if_pos hd]
theorem disclA_open {s : Said} (h1 : headN x = n) (h : n.kind = 5) (hs : findS L n.text = some s) (hb : s.member = true ∧ s.name ∉ ns) (hd : n.text ∉ met) : disclA val L met ns ys (x :: r) = match val (met ++ [n.text]) s.value s.name with
  | none => none
  | some (m, y) => disclA val L m (ns ++ [s.name]) (ys ++ [y]) r := by
 subst h1
 rw [disclA, if_pos h, hs]
 simp only
 rw [if_pos hb, if_neg hd]
 rfl
end
def rowO (key : List UInt8) : Option (List Dg × List (List Nd)) → Option (List Dg × List Nd)
 | none => none
 | some (m, ys) => some (m, rowN 6 key ys)
def addP (ys : List (List Nd)) : Option (List Dg × List (List Nd)) → Option (List Dg × List (List Nd))
 | some (m, us) => some (m, ys ++ us)
 | none => none
theorem addP_add (xs ys : List (List Nd)) (q : Option (List Dg × List (List Nd))) : addP xs (addP ys q) = addP (xs ++ ys) q := by
 cases q with
 | none => rfl
 | some p => simp [addP]
theorem disclA_acc {val : RevV} {L : List Said} : ∀ (r : List (List Nd)) (met : List Dg) (ns : List (List UInt8)) (ys : List (List Nd)), disclA val L met ns ys r = addP ys (disclA val L met ns [] r)
 | [], met, ns, ys => by simp [disclA, addP]
 | x :: r, met, ns, ys => by
  rw [disclA, disclA]
  by_cases h : (headN x).kind = 5
  ·rw [if_pos h, if_pos h]
   cases findS L (headN x).text with
   | none => exact disclA_acc r _ _ ys
   | some s =>
    simp only
    by_cases h2 : s.member = true ∧ s.name ∉ ns
    ·rw [if_pos h2, if_pos h2]
     by_cases h3 : (headN x).text ∈ met
     ·rw [if_pos h3, if_pos h3]
      exact disclA_acc r _ _ ys
     ·rw [if_neg h3, if_neg h3]
      cases val (met ++ [(headN x).text]) s.value s.name with
      | none => rfl
      | some my =>
       simp only [List.nil_append]
       rw [disclA_acc r my.1 _ (ys ++ [my.2]), disclA_acc r my.1 _ [my.2], addP_add]
    ·rw [if_neg h2, if_neg h2]
     rfl
  ·rw [if_neg h, if_neg h]
   rfl
theorem hiddenX_snoc (xs : List (List Nd)) (x : List Nd) : hiddenX (xs ++ [x]) = if (headN x).key = sdN then some x else hiddenX xs := by
 unfold hiddenX
 rw [List.filter_append]
 by_cases h : (headN x).key = sdN
 ·rw [if_pos h, List.filter_cons_of_pos (by simpa using h), List.filter_nil, List.getLast?_concat]
 ·rw [if_neg h, List.filter_cons_of_neg (by simpa using h), List.filter_nil, List.append_nil]
theorem namesX_snoc (xs : List (List Nd)) (x : List Nd) : namesX (xs ++ [x]) = if (headN x).key = sdN then namesX xs else namesX xs ++ [(headN x).key] := by
 unfold namesX
 rw [List.map_append, List.filter_append]
 by_cases h : (headN x).key = sdN
 ·rw [if_pos h, List.map_singleton, List.filter_cons_of_neg (by simpa using h), List.filter_nil, List.append_nil]
 ·rw [if_neg h, List.map_singleton, List.filter_cons_of_pos (by simpa using h), List.filter_nil]
structure NGood (v : List Nd) : Prop where
 flat : ∀ n ∈ v, n.kind ≠ 6 → n.kind ≠ 7 → n.kids = 0
 texts : ∀ n ∈ v, n.key.length ≤ 9223372036854775807 ∧ n.text.length ≤ 9223372036854775807
 len : v.length ≤ 1100000
theorem NGood.vl {v : List Nd} {q : Nat} (h : NGood v) (ha : IsAt v q) : Vl (valAt v q) := ⟨valAt_fo ha, fun n hn => h.flat n (valAt_mem ha n hn)⟩
theorem nodeAt_mem {v : List Nd} {q : Nat} (h : q < v.length) : nodeAt v q ∈ v := by
 unfold nodeAt
 rw [List.getElem?_eq_getElem h]
 exact List.getElem_mem h
theorem kid_drop {v : List Nd} {q i : Nat} (h : IsAt v q) (hi : i < (kidsOf v q).length) : (kidsOf v q).drop i = valAt v ((offs (q + 1) (kidsOf v q)).getD i 0) :: (kidsOf v q).drop (i + 1) := by
 rw [List.drop_eq_getElem_cons hi, valAt_kid h hi]
theorem kid_is {v : List Nd} {q i : Nat} (h : IsAt v q) (hi : i < (kidsOf v q).length) : IsAt v ((offs (q + 1) (kidsOf v q)).getD i 0) := by
 obtain ⟨r, h⟩ := h
 rw [offs_get hi]
 exact h.kidIs hi
end Sg
/- Well shaped values, in plain Lean: by going down; and by a stack, node after node; both say the same. -/
namespace Sg
def plainX (ok : List UInt8 → Bool) (n : Nd) : Bool :=
 if n.kind < 1 ∨ 7 < n.kind ∨ n.kids < 0 ∨ (0 < n.kids ∧ n.kind ≠ 6 ∧ n.kind ≠ 7) then false else
 if n.kind = 4 then (numP n.text).isSome && (n.whole == (wholeX n.text).2) && decide (n.int = (wholeX n.text).1) else
 if n.whole = true ∨ n.int ≠ 0 then false else
 if n.kind = 5 then ok n.text else decide (n.text = [])
def isRow (n : Nd) : Prop := n.kind = 6 ∨ n.kind = 7
instance (n : Nd) : Decidable (isRow n) := inferInstanceAs (Decidable (_ ∨ _))
def hasN (nm : Option (List (List UInt8))) (k : List UInt8) : Bool := match nm with
 | some ns => decide (k ∈ ns)
 | none => false
def takeK (ok : List UInt8 → Bool) : Nat → Nat → Option (List (List UInt8)) → Nat → List Nd → Option (List Nd)
 | _, _, _, 0, l => some l
 | 0, _, _, _ + 1, _ => none
 | f + 1, d, nm, k + 1, l => match l with
  | [] => none
  | n :: r =>
   if plainX ok n = false ∨ ok n.key = false ∨ (nm = none ∧ n.key ≠ []) ∨ (isRow n ∧ d = 0) then none else
   match takeK ok f (d - 1) (if n.kind = 7 then some [] else none) n.kids.toNat r with
   | none => none
   | some r' => if hasN nm n.key = true then none else takeK ok f d (nm.map (n.key :: ·)) k r'
abbrev Lv := Nat × Option (List (List UInt8))
def popL : List Lv → List Lv
 | [] => []
 | (k, nm) :: s => if k = 0 then popL s else (k, nm) :: s
def shM (ok : List UInt8 → Bool) : List Nd → List Lv → Bool
 | [], st => st.isEmpty
 | n :: r, st => match st with
  | [] => false
  | (k, nm) :: s =>
   if plainX ok n = false then false else
   if (nm = none ∧ n.key ≠ []) ∨ hasN nm n.key = true ∨ ok n.key = false then false else
   if isRow n then (if 32 < s.length + 1 then false else shM ok r (popL ((n.kids.toNat, if n.kind = 7 then some [] else none) :: (k - 1, nm.map (n.key :: ·)) :: s)))
   else shM ok r (popL ((k - 1, nm.map (n.key :: ·)) :: s))
def shapedX (ok : List UInt8 → Bool) (v : List Nd) : Bool := shM ok v [(1, none)]
theorem popL_zero (nm : Option (List (List UInt8))) (s : List Lv) : popL ((0, nm) :: s) = popL s := rfl
theorem popL_succ (k : Nat) (nm : Option (List (List UInt8))) (s : List Lv) : popL ((k + 1, nm) :: s) = (k + 1, nm) :: s := rfl
theorem plain_kids {ok : List UInt8 → Bool} {n : Nd} (h : plainX ok n = true) (hr : ¬ isRow n) : n.kids.toNat = 0 := by
 unfold plainX at h
 split at h
 ·cases h
 ·rename_i h1
  have h2 : ¬ (0 < n.kids) := fun h3 => h1 (.inr (.inr (.inr ⟨h3, fun e => hr (.inl e), fun e => hr (.inr e)⟩)))
  omega
theorem takeK_zero {ok : List UInt8 → Bool} {f d : Nat} {nm : Option (List (List UInt8))} {l : List Nd} : takeK ok f d nm 0 l = some l := by cases f <;> rfl
theorem takeK_len {ok : List UInt8 → Bool} : ∀ {f d : Nat} {nm : Option (List (List UInt8))} {k : Nat} {l r : List Nd}, takeK ok f d nm k l = some r → r.length ≤ l.length
 | f, d, nm, 0, l, r, h => by rw [takeK_zero] at h; cases h; exact Nat.le_refl _
 | 0, d, nm, k + 1, l, r, h => by cases h
 | f + 1, d, nm, k + 1, [], r, h => by cases h
 | f + 1, d, nm, k + 1, n :: t, r, h => by
  unfold takeK at h
  simp only at h
  split at h
  ·cases h
  ·split at h
   ·cases h
   ·rename_i r' h1
    split at h
    ·cases h
    ·have h2 := takeK_len h1
     have h3 := takeK_len h
     simp only [List.length_cons]
     omega
theorem shM_takeK {ok : List UInt8 → Bool} : ∀ (f : Nat) (l : List Nd) (d k : Nat) (nm : Option (List (List UInt8))) (s : List Lv), l.length < f → s.length + d = 32 →
  shM ok l (popL ((k, nm) :: s)) = match takeK ok f d nm k l with
   | none => false
   | some r => shM ok r (popL s)
 | 0, l, d, k, nm, s, h, _ => by omega
 | f + 1, l, d, 0, nm, s, h, hd => by rw [takeK_zero, popL_zero]
 | f + 1, [], d, k + 1, nm, s, h, hd => rfl
 | f + 1, n :: t, d, k + 1, nm, s, h, hd => by
  have ht : t.length < f := by simpa using h
  have e1 : shM ok (n :: t) ((k + 1, nm) :: s) = if plainX ok n = false then false else
    if (nm = none ∧ n.key ≠ []) ∨ hasN nm n.key = true ∨ ok n.key = false then false else
    if isRow n then (if 32 < s.length + 1 then false else shM ok t (popL ((n.kids.toNat, if n.kind = 7 then some [] else none) :: (k + 1 - 1, nm.map (n.key :: ·)) :: s)))
    else shM ok t (popL ((k + 1 - 1, nm.map (n.key :: ·)) :: s)) := rfl
  have e2 : takeK ok (f + 1) d nm (k + 1) (n :: t) = if plainX ok n = false ∨ ok n.key = false ∨ (nm = none ∧ n.key ≠ []) ∨ (isRow n ∧ d = 0) then none else
    match takeK ok f (d - 1) (if n.kind = 7 then some [] else none) n.kids.toNat t with
    | none => none
    | some r' => if hasN nm n.key = true then none else takeK ok f d (nm.map (n.key :: ·)) k r' := rfl
  rw [popL_succ, e1, e2]
  clear e1 e2
  by_cases h1 : plainX ok n = false
  ·rw [if_pos h1, if_pos (.inl h1)]
  have h1' : plainX ok n = true := by simpa using h1
  rw [if_neg h1]
  by_cases h2 : ok n.key = false
  ·rw [if_pos (.inr (.inr h2)), if_pos (.inr (.inl h2))]
  by_cases h3 : nm = none ∧ n.key ≠ []
  ·rw [if_pos (.inl h3), if_pos (.inr (.inr (.inl h3)))]
  by_cases hr : isRow n
  ·by_cases h5 : d = 0
   ·rw [if_pos (show plainX ok n = false ∨ ok n.key = false ∨ (nm = none ∧ n.key ≠ []) ∨ (isRow n ∧ d = 0) from .inr (.inr (.inr ⟨hr, h5⟩)))]
    simp only
    split
    ·rfl
    ·rw [if_pos (by omega)]
   ·rw [if_neg (show ¬ (plainX ok n = false ∨ ok n.key = false ∨ (nm = none ∧ n.key ≠ []) ∨ (isRow n ∧ d = 0)) from fun h => h.elim h1 (fun h => h.elim h2 (fun h => h.elim h3 (fun h => h5 h.2))))]
    have ih1 := shM_takeK (ok := ok) f t (d - 1) n.kids.toNat (if n.kind = 7 then some [] else none) ((k + 1 - 1, nm.map (n.key :: ·)) :: s) ht (by simp only [List.length_cons]; omega)
    by_cases h4 : hasN nm n.key = true
    ·rw [if_pos (.inr (.inl h4))]
     cases takeK ok f (d - 1) (if n.kind = 7 then some [] else none) n.kids.toNat t with
     | none => rfl
     | some r' => simp only; rw [if_pos h4]
    ·rw [if_neg (show ¬ ((nm = none ∧ n.key ≠ []) ∨ hasN nm n.key = true ∨ ok n.key = false) from fun h => h.elim h3 (fun h => h.elim h4 h2)), if_pos hr, if_neg (by omega), ih1]
     cases ht2 : takeK ok f (d - 1) (if n.kind = 7 then some [] else none) n.kids.toNat t with
     | none => rfl
     | some r' =>
      have hl := takeK_len ht2
      simp only
      rw [if_neg h4, show k + 1 - 1 = k by omega]
      exact shM_takeK (ok := ok) f r' d k (nm.map (n.key :: ·)) s (by omega) hd
  ·rw [if_neg (show ¬ (plainX ok n = false ∨ ok n.key = false ∨ (nm = none ∧ n.key ≠ []) ∨ (isRow n ∧ d = 0)) from fun h => h.elim h1 (fun h => h.elim h2 (fun h => h.elim h3 (fun h => hr h.1)))), plain_kids h1' hr, takeK_zero]
   simp only
   by_cases h4 : hasN nm n.key = true
   ·rw [if_pos (.inr (.inl h4)), if_pos h4]
   ·rw [if_neg (show ¬ ((nm = none ∧ n.key ≠ []) ∨ hasN nm n.key = true ∨ ok n.key = false) from fun h => h.elim h3 (fun h => h.elim h4 h2)), if_neg hr, if_neg h4, show k + 1 - 1 = k by omega]
    exact shM_takeK (ok := ok) f t d k (nm.map (n.key :: ·)) s ht hd
theorem shapedX_take (ok : List UInt8 → Bool) (v : List Nd) : shapedX ok v = match takeK ok (v.length + 1) 32 none 1 v with
  | some [] => true
  | _ => false := by
 unfold shapedX
 have := shM_takeK (ok := ok) (v.length + 1) v 32 1 none [] (by omega) rfl
 rw [popL_succ] at this
 rw [this]
 cases takeK ok (v.length + 1) 32 none 1 v with
 | none => rfl
 | some r => cases r <;> rfl
end Sg
/- The library's contract of utf8.ValidString, laid at this program (printed by the kit's tools). -/
namespace Go.Proofs
open Go.Shelf
def Tryz.lays196_ren : Go.Shelf.Ren := ⟨fun | 196 => 39 | 259 => 68 | n => n, fun | 9 => 9 | 4 => 4 | 3 => 3 | 5 => 5 | 12 => 12 | 119 => 120 | 0 => 0 | 46 => 124 | 139 => 123 | 138 => 122 | 53 => 154 | n => n, fun | 3 => 0 | 4 => 1 | n => n⟩
theorem Tryz.lays196 : Go.Proofs.Lays.n196 Tryz.prog Tryz.lays196_ren := {
 mixed := by kernel_rfl
 f196 := Tryz.func39.trans (congrArg some (by kernel_rfl))
 f259 := Tryz.func68.trans (congrArg some (by kernel_rfl))
 t0 := Tryz.underlying0
 a0 := Tryz.isAgg0
 z0 := Tryz.sizeOf0
 v0 := Tryz.zeroValue0
 t3 := Tryz.underlying3
 a3 := Tryz.isAgg3
 z3 := Tryz.sizeOf3
 v3 := Tryz.zeroValue3
 t4 := Tryz.underlying4
 a4 := Tryz.isAgg4
 z4 := Tryz.sizeOf4
 v4 := Tryz.zeroValue4
 t5 := Tryz.underlying5
 a5 := Tryz.isAgg5
 z5 := Tryz.sizeOf5
 v5 := Tryz.zeroValue5
 t9 := Tryz.underlying9
 a9 := Tryz.isAgg9
 z9 := Tryz.sizeOf9
 v9 := Tryz.zeroValue9
 t12 := Tryz.underlying12
 a12 := Tryz.isAgg12
 z12 := Tryz.sizeOf12
 v12 := Tryz.zeroValue12
 t46 := Tryz.underlying124
 a46 := Tryz.isAgg124
 z46 := Tryz.sizeOf124
 v46 := Tryz.zeroValue124
 t53 := Tryz.underlying154
 a53 := Tryz.isAgg154
 z53 := Tryz.sizeOf154
 v53 := Tryz.zeroValue154
 t119 := Tryz.underlying120
 a119 := Tryz.isAgg120
 z119 := Tryz.sizeOf120
 t138 := Tryz.underlying122
 a138 := Tryz.isAgg122
 z138 := Tryz.sizeOf122
 v138 := Tryz.zeroValue122
 t139 := Tryz.underlying123
 a139 := Tryz.isAgg123
 z139 := Tryz.sizeOf123
 v139 := Tryz.zeroValue123
 g3 := by kernel_rfl
 g4 := by kernel_rfl }
open Go.RowKit in
theorem Tryz.utf8_ValidString (s : ByteArray) (w : World) (hs : s.size ≤ 9223372036854775807) (hT : Lib.Utf8Tabs 0 1 w) :
  Calls Tryz.prog 39 #[.string s] w fun e w' => e = .returned (.bool (Lib.validD s.data.toList)) ∧ Below w.heap.size w w' := Any.utf8_ValidString Tryz.lays196 s w hs hT
end Go.Proofs
/- The walks of the program's looks at values: may a node stand there. -/
namespace Go.Proofs.YtjajcmedipjfhaaGreatDoor
open Sg Go.IntWalk
set_option maxRecDepth 100000
set_option maxHeartbeats 4000000
section
variable {F : World} {M : List Nat} {H : List Res}
theorem validString_spec (hT : Tabs F M) {s : List UInt8} (hl : s.length ≤ 9223372036854775807) : Meets Tryz.prog 39 [sV s] F M H (fun e H' => e = .returned (.bool (Lib.validD s)) ∧ H' = H) := fun w hw =>
 (Tryz.utf8_ValidString (ByteArray.mk s.toArray) w (by simpa [ByteArray.size] using hl) (hT.met hw)).mono fun e w' ⟨h1, h2⟩ => ⟨H, ⟨h1, rfl⟩, hw.below h2⟩
theorem plain_spec (hT : Tabs F M) {n : Nd} (hl : n.kind = 4 → n.text.length ≤ 1100000) (hl2 : n.text.length ≤ 9223372036854775807) : Meets Tryz.prog 38 [.agg ⟨ndV n⟩] F M H (fun e H' => e = .returned (.bool (plainX Lib.validD n)) ∧ H' = H) := by
 refine Meets.enter Tryz.func38 rfl rfl ?_
 unfold plainX
 by_cases h1 : n.kind < 1 ∨ 7 < n.kind ∨ n.kids < 0 ∨ (0 < n.kids ∧ n.kind ≠ 6 ∧ n.kind ≠ 7)
 ·rw [if_pos h1]
  by_cases a1 : n.kind < 1
  ·repeat' (first | ((first | apply T.mv | apply T.asn | apply T.fieldAddrZ); apply rfl; apply rfl) | (apply T.load; apply rfl; apply rfl; infer_instance; apply rfl; apply rfl) | (apply T.lss; (iterate 3 apply rfl)) | (apply T.pickT; (iterate 3 apply rfl)) | (apply T.box; apply rfl; apply rfl; intro nb) | (with_reducible first | refine Sr.nil ?_ | refine S.seq ?_ | refine S.block ?_ | refine S.reg ?_) | (apply T.skip; apply rfl; (first | with_reducible rfl | decide); apply rfl) | (apply T.skipU; apply rfl; apply rfl) | (apply S.condTV; apply rfl; (first | with_reducible rfl | decide)) | (apply T.gcase; apply rfl; apply rfl; all_goals (intro _; try (exfalso; first | omega | with_reducible contradiction))) | (apply T.retW; apply rfl) | fail)
   exact ⟨_, PSub.drop (PSub.refl _), rfl, rfl⟩
  by_cases a2 : 7 < n.kind
  ·repeat' (first | ((first | apply T.mv | apply T.asn | apply T.fieldAddrZ); apply rfl; apply rfl) | (apply T.load; apply rfl; apply rfl; infer_instance; apply rfl; apply rfl) | ((first | apply T.lss | apply T.gtr); (iterate 3 apply rfl)) | (apply T.pickT; (iterate 3 apply rfl)) | (apply T.pickF; (iterate 3 apply rfl)) | (apply T.box; apply rfl; apply rfl; intro nb) | (with_reducible first | refine Sr.nil ?_ | refine S.seq ?_ | refine S.block ?_ | refine S.reg ?_) | (apply T.ungV; apply rfl; (first | with_reducible rfl | decide)) | (apply T.skip; apply rfl; (first | with_reducible rfl | decide); apply rfl) | (apply T.skipU; apply rfl; apply rfl) | (apply S.condTV; apply rfl; (first | with_reducible rfl | decide)) | (apply T.gcase; apply rfl; apply rfl; all_goals (intro _; try (exfalso; first | omega | with_reducible contradiction))) | (apply T.retW; apply rfl) | fail)
   exact ⟨_, PSub.drop (PSub.refl _), rfl, rfl⟩
  by_cases a3 : n.kids < 0
  ·repeat' (first | ((first | apply T.mv | apply T.asn | apply T.fieldAddrZ); apply rfl; apply rfl) | (apply T.load; apply rfl; apply rfl; infer_instance; apply rfl; apply rfl) | ((first | apply T.lss | apply T.gtr); (iterate 3 apply rfl)) | (apply T.pickT; (iterate 3 apply rfl)) | (apply T.pickF; (iterate 3 apply rfl)) | (apply T.box; apply rfl; apply rfl; intro nb) | (with_reducible first | refine Sr.nil ?_ | refine S.seq ?_ | refine S.block ?_ | refine S.reg ?_) | (apply T.ungV; apply rfl; (first | with_reducible rfl | decide)) | (apply T.skip; apply rfl; (first | with_reducible rfl | decide); apply rfl) | (apply T.skipU; apply rfl; apply rfl) | (apply S.condTV; apply rfl; (first | with_reducible rfl | decide)) | (apply T.gcase; apply rfl; apply rfl; all_goals (intro _; try (exfalso; first | omega | with_reducible contradiction))) | (apply T.retW; apply rfl) | fail)
   exact ⟨_, PSub.drop (PSub.refl _), rfl, rfl⟩
  have a4 : 0 < n.kids := by omega
  have a5 : ¬ n.kind = 6 := by omega
  have a6 : ¬ n.kind = 7 := by omega
  repeat' (first | ((first | apply T.mv | apply T.asn | apply T.fieldAddrZ); apply rfl; apply rfl) | (apply T.load; apply rfl; apply rfl; infer_instance; apply rfl; apply rfl) | ((first | apply T.lss | apply T.gtr | apply T.neq); (iterate 3 apply rfl)) | (apply T.pickT; (iterate 3 apply rfl)) | (apply T.pickF; (iterate 3 apply rfl)) | (apply T.box; apply rfl; apply rfl; intro nb) | (with_reducible first | refine Sr.nil ?_ | refine S.seq ?_ | refine S.block ?_ | refine S.reg ?_) | (apply T.ungV; apply rfl; (first | with_reducible rfl | decide)) | (apply S.condQ; apply rfl; all_goals (intro _; try (exfalso; first | omega | with_reducible contradiction))) | (apply T.gcase; apply rfl; apply rfl; all_goals (intro _; try (exfalso; first | omega | with_reducible contradiction))) | (apply T.retW; apply rfl) | fail)
  exact ⟨_, PSub.drop (PSub.refl _), rfl, rfl⟩
 rw [if_neg h1]
 have b1 : ¬ n.kind < 1 := fun h => h1 (.inl h)
 have b2 : ¬ 7 < n.kind := fun h => h1 (.inr (.inl h))
 have b3 : ¬ n.kids < 0 := fun h => h1 (.inr (.inr (.inl h)))
 have b4 : ¬ 0 < n.kids ∨ n.kind = 6 ∨ n.kind = 7 := by omega
 by_cases c1 : n.kind = 4
 ·rw [if_pos c1]
  have c6 : ¬ n.kind = 6 := by omega
  have c7 : ¬ n.kind = 7 := by omega
  have c0 : ¬ 0 < n.kids := by omega
  repeat' (first | ((first | apply T.mv | apply T.asn | apply T.fieldAddrZ); apply rfl; apply rfl) | (apply T.load; apply rfl; apply rfl; infer_instance; apply rfl; apply rfl) | ((first | apply T.lss | apply T.gtr | apply T.eql); (iterate 3 apply rfl)) | (apply T.pickF; (iterate 3 apply rfl)) | (apply T.box; apply rfl; apply rfl; intro nb) | (with_reducible first | refine Sr.nil ?_ | refine S.seq ?_ | refine S.block ?_ | refine S.reg ?_) | (apply T.ungV; apply rfl; (first | with_reducible rfl | decide)) | (apply T.skip; apply rfl; (first | with_reducible rfl | decide); apply rfl) | (apply S.condFV; apply rfl; (first | with_reducible rfl | decide)) | (apply S.condQ; apply rfl; all_goals (intro _; try (exfalso; first | omega | with_reducible contradiction))) | (apply T.gcase; apply rfl; apply rfl; all_goals (intro _; try (exfalso; first | omega | with_reducible contradiction))) | fail)
  refine T.call rfl rfl (whole_spec (hl c1)) ?_
  rintro _ _ ⟨rfl, rfl⟩
  repeat' (first | ((first | apply T.mv | apply T.asn | apply T.fieldAddrZ); apply rfl; apply rfl) | (apply T.load; apply rfl; apply rfl; infer_instance; apply rfl; apply rfl) | (apply T.extract; (iterate 3 apply rfl)) | (with_reducible first | refine Sr.nil ?_ | refine S.seq ?_ | refine S.reg ?_) | (with_reducible apply T.ofRet) | fail)
  refine T.call rfl rfl (valid_spec (hl c1)) ?_
  rintro _ _ ⟨rfl, rfl⟩
  cases d1 : (numP n.text).isSome with
  | false =>
   repeat' (first | ((first | apply T.mv | apply T.asn); apply rfl; apply rfl) | (apply T.pickF; (iterate 3 apply rfl)) | with_reducible refine Sr.nil ?_ | (apply T.skip; apply rfl; (first | with_reducible rfl | decide); apply rfl) | (apply T.retW; apply rfl) | (with_reducible apply T.ofRet) | fail)
   exact ⟨_, PSub.drop (PSub.refl _), rfl, rfl⟩
  | true =>
   repeat' (first | ((first | apply T.mv | apply T.fieldAddrZ); apply rfl; apply rfl) | (apply T.load; apply rfl; apply rfl; infer_instance; apply rfl; apply rfl) | (apply T.ungV; apply rfl; (first | with_reducible rfl | decide)) | (with_reducible apply T.ofRet) | fail)
   cases w1 : n.whole <;> cases w2 : (wholeX n.text).2
   all_goals
    by_cases w3 : n.int = (wholeX n.text).1
    ·repeat' (first | (apply T.eqlB; (iterate 3 apply rfl); first | rw [show (true == true) = true from rfl] | rw [show (false == false) = true from rfl] | rw [show (true == false) = false from rfl] | rw [show (false == true) = false from rfl]) | ((first | apply T.mv | apply T.asn | apply T.fieldAddrZ); apply rfl; apply rfl) | (apply T.load; apply rfl; apply rfl; infer_instance; apply rfl; apply rfl) | (apply T.eql; (iterate 3 apply rfl)) | (apply T.pickT; (iterate 3 apply rfl)) | (apply T.pickF; (iterate 3 apply rfl)) | with_reducible refine Sr.nil ?_ | (apply T.ungV; apply rfl; (first | with_reducible rfl | decide)) | (apply T.skip; apply rfl; (first | with_reducible rfl | decide); apply rfl) | (apply T.retW; apply rfl) | fail)
     all_goals
      refine ⟨_, PSub.drop (PSub.refl _), ?_, rfl⟩
      first | (simp [w3]; done) | simp
    ·repeat' (first | (apply T.eqlB; (iterate 3 apply rfl); first | rw [show (true == true) = true from rfl] | rw [show (false == false) = true from rfl] | rw [show (true == false) = false from rfl] | rw [show (false == true) = false from rfl]) | ((first | apply T.mv | apply T.asn | apply T.fieldAddrZ); apply rfl; apply rfl) | (apply T.load; apply rfl; apply rfl; infer_instance; apply rfl; apply rfl) | (apply T.eql; (iterate 3 apply rfl)) | (apply T.pickT; (iterate 3 apply rfl)) | (apply T.pickF; (iterate 3 apply rfl)) | with_reducible refine Sr.nil ?_ | (apply T.ungV; apply rfl; (first | with_reducible rfl | decide)) | (apply T.skip; apply rfl; (first | with_reducible rfl | decide); apply rfl) | (apply T.retW; apply rfl) | fail)
     all_goals
      refine ⟨_, PSub.drop (PSub.refl _), ?_, rfl⟩
      first | (simp [w3]; done) | simp
 ·rw [if_neg c1]
  by_cases c2 : n.whole = true
  ·rw [if_pos (.inl c2)]
   by_cases c6 : n.kind = 6
   ·repeat' (first | ((first | apply T.mv | apply T.asn | apply T.fieldAddrZ); apply rfl; apply rfl) | (apply T.load; apply rfl; apply rfl; infer_instance; apply rfl; apply rfl) | ((first | apply T.lss | apply T.gtr | apply T.eql | apply T.neq); (iterate 3 apply rfl)) | (apply T.pickT; (iterate 3 apply rfl)) | (apply T.pickF; (iterate 3 apply rfl)) | (apply T.box; apply rfl; apply rfl; intro nb) | (with_reducible first | refine Sr.nil ?_ | refine S.seq ?_ | refine S.block ?_ | refine S.reg ?_) | (apply T.ungV; apply rfl; (first | with_reducible rfl | decide)) | (apply T.skip; apply rfl; (first | with_reducible rfl | decide); apply rfl) | (apply S.condFV; apply rfl; (first | with_reducible rfl | decide)) | (apply S.condQ; apply rfl; all_goals (intro _; try (exfalso; first | omega | with_reducible contradiction))) | (apply T.gcase; apply rfl; apply rfl; all_goals (intro _; try (exfalso; first | omega | with_reducible contradiction))) | fail)
    all_goals
     rw [c2]
     repeat' (first | (apply T.asn; apply rfl; apply rfl) | (apply T.pickT; (iterate 3 apply rfl)) | (with_reducible first | refine Sr.nil ?_ | refine S.seq ?_ | refine S.reg ?_) | (apply T.skip; apply rfl; (first | with_reducible rfl | decide); apply rfl) | (apply S.condTV; apply rfl; (first | with_reducible rfl | decide)) | (apply T.retW; apply rfl) | fail)
     exact ⟨_, PSub.drop (PSub.refl _), rfl, rfl⟩
   by_cases c7 : n.kind = 7
   ·repeat' (first | ((first | apply T.mv | apply T.asn | apply T.fieldAddrZ); apply rfl; apply rfl) | (apply T.load; apply rfl; apply rfl; infer_instance; apply rfl; apply rfl) | ((first | apply T.lss | apply T.gtr | apply T.eql | apply T.neq); (iterate 3 apply rfl)) | (apply T.pickT; (iterate 3 apply rfl)) | (apply T.pickF; (iterate 3 apply rfl)) | (apply T.box; apply rfl; apply rfl; intro nb) | (with_reducible first | refine Sr.nil ?_ | refine S.seq ?_ | refine S.block ?_ | refine S.reg ?_) | (apply T.ungV; apply rfl; (first | with_reducible rfl | decide)) | (apply T.skip; apply rfl; (first | with_reducible rfl | decide); apply rfl) | (apply S.condFV; apply rfl; (first | with_reducible rfl | decide)) | (apply S.condQ; apply rfl; all_goals (intro _; try (exfalso; first | omega | with_reducible contradiction))) | (apply T.gcase; apply rfl; apply rfl; all_goals (intro _; try (exfalso; first | omega | with_reducible contradiction))) | fail)
    all_goals
     rw [c2]
     repeat' (first | (apply T.asn; apply rfl; apply rfl) | (apply T.pickT; (iterate 3 apply rfl)) | (with_reducible first | refine Sr.nil ?_ | refine S.seq ?_ | refine S.reg ?_) | (apply T.skip; apply rfl; (first | with_reducible rfl | decide); apply rfl) | (apply S.condTV; apply rfl; (first | with_reducible rfl | decide)) | (apply T.retW; apply rfl) | fail)
     exact ⟨_, PSub.drop (PSub.refl _), rfl, rfl⟩
   have c0 : ¬ 0 < n.kids := by omega
   repeat' (first | ((first | apply T.mv | apply T.asn | apply T.fieldAddrZ); apply rfl; apply rfl) | (apply T.load; apply rfl; apply rfl; infer_instance; apply rfl; apply rfl) | ((first | apply T.lss | apply T.gtr | apply T.eql); (iterate 3 apply rfl)) | (apply T.pickF; (iterate 3 apply rfl)) | (apply T.box; apply rfl; apply rfl; intro nb) | (with_reducible first | refine Sr.nil ?_ | refine S.seq ?_ | refine S.block ?_ | refine S.reg ?_) | (apply T.ungV; apply rfl; (first | with_reducible rfl | decide)) | (apply T.skip; apply rfl; (first | with_reducible rfl | decide); apply rfl) | (apply S.condFV; apply rfl; (first | with_reducible rfl | decide)) | (apply S.condQ; apply rfl; all_goals (intro _; try (exfalso; first | omega | with_reducible contradiction))) | (apply T.gcase; apply rfl; apply rfl; all_goals (intro _; try (exfalso; first | omega | with_reducible contradiction))) | fail)
   all_goals
    rw [c2]
    repeat' (first | (apply T.asn; apply rfl; apply rfl) | (apply T.pickT; (iterate 3 apply rfl)) | (with_reducible first | refine Sr.nil ?_ | refine S.seq ?_ | refine S.reg ?_) | (apply T.skip; apply rfl; (first | with_reducible rfl | decide); apply rfl) | (apply S.condTV; apply rfl; (first | with_reducible rfl | decide)) | (apply T.retW; apply rfl) | fail)
    exact ⟨_, PSub.drop (PSub.refl _), rfl, rfl⟩
  have c2' : n.whole = false := by simpa using c2
  by_cases c3 : n.int = 0
  ·rw [if_neg (fun h => h.elim c2 (fun h => h c3))]
   by_cases c5 : n.kind = 5
   ·rw [if_pos c5]
    have c6 : ¬ n.kind = 6 := by omega
    have c7 : ¬ n.kind = 7 := by omega
    have c0 : ¬ 0 < n.kids := by omega
    repeat' (first | ((first | apply T.mv | apply T.asn | apply T.fieldAddrZ); apply rfl; apply rfl) | (apply T.load; apply rfl; apply rfl; infer_instance; apply rfl; apply rfl) | ((first | apply T.lss | apply T.gtr | apply T.eql); (iterate 3 apply rfl)) | (apply T.pickF; (iterate 3 apply rfl)) | (apply T.box; apply rfl; apply rfl; intro nb) | (with_reducible first | refine Sr.nil ?_ | refine S.seq ?_ | refine S.block ?_ | refine S.reg ?_) | (apply T.ungV; apply rfl; (first | with_reducible rfl | decide)) | (apply T.skip; apply rfl; (first | with_reducible rfl | decide); apply rfl) | (apply S.condFV; apply rfl; (first | with_reducible rfl | decide)) | (apply S.condQ; apply rfl; all_goals (intro _; try (exfalso; first | omega | with_reducible contradiction))) | (apply T.gcase; apply rfl; apply rfl; all_goals (intro _; try (exfalso; first | omega | with_reducible contradiction))) | fail)
    rw [c2']
    repeat' (first | ((first | apply T.asn | apply T.fieldAddrZ); apply rfl; apply rfl) | (apply T.load; apply rfl; apply rfl; infer_instance; apply rfl; apply rfl) | ((first | apply T.eql | apply T.neq); (iterate 3 apply rfl)) | (apply T.pickF; (iterate 3 apply rfl)) | (with_reducible first | refine Sr.nil ?_ | refine S.seq ?_ | refine S.reg ?_) | (apply T.ungV; apply rfl; (first | with_reducible rfl | decide)) | (apply S.condQ; apply rfl; all_goals (intro _; try (exfalso; first | omega | with_reducible contradiction))) | fail)
    refine T.call rfl rfl (validString_spec hT (by omega)) ?_
    rintro _ _ ⟨rfl, rfl⟩
    repeat' (first | (apply T.asn; apply rfl; apply rfl) | with_reducible refine Sr.nil ?_ | (apply T.retW; apply rfl) | (with_reducible apply T.ofRet) | fail)
    exact ⟨_, PSub.drop (PSub.refl _), rfl, rfl⟩
   rw [if_neg c5]
   by_cases c6 : n.kind = 6
   ·repeat' (first | ((first | apply T.mv | apply T.asn | apply T.fieldAddrZ); apply rfl; apply rfl) | (apply T.load; apply rfl; apply rfl; infer_instance; apply rfl; apply rfl) | ((first | apply T.lss | apply T.gtr | apply T.eql | apply T.neq); (iterate 3 apply rfl)) | (apply T.pickT; (iterate 3 apply rfl)) | (apply T.pickF; (iterate 3 apply rfl)) | (apply T.box; apply rfl; apply rfl; intro nb) | (with_reducible first | refine Sr.nil ?_ | refine S.seq ?_ | refine S.block ?_ | refine S.reg ?_) | (apply T.ungV; apply rfl; (first | with_reducible rfl | decide)) | (apply T.skip; apply rfl; (first | with_reducible rfl | decide); apply rfl) | (apply S.condFV; apply rfl; (first | with_reducible rfl | decide)) | (apply S.condQ; apply rfl; all_goals (intro _; try (exfalso; first | omega | with_reducible contradiction))) | (apply T.gcase; apply rfl; apply rfl; all_goals (intro _; try (exfalso; first | omega | with_reducible contradiction))) | fail)
    all_goals
     rw [c2']
     repeat' (first | (apply T.seql; (iterate 3 apply rfl)) | ((first | apply T.asn | apply T.fieldAddrZ); apply rfl; apply rfl) | (apply T.load; apply rfl; apply rfl; infer_instance; apply rfl; apply rfl) | (apply T.eql; (iterate 3 apply rfl)) | (apply T.neq; (iterate 3 apply rfl)) | (apply T.pickF; (iterate 3 apply rfl)) | (with_reducible first | refine Sr.nil ?_ | refine S.seq ?_ | refine S.reg ?_ | refine S.skip ?_ | refine S.inBlock ?_) | (apply T.ungV; apply rfl; (first | with_reducible rfl | decide)) | (apply S.condQ; apply rfl; all_goals (intro _; try (exfalso; first | omega | with_reducible contradiction))) | (apply T.retW; apply rfl) | fail)
     exact ⟨_, PSub.drop (PSub.refl _), rfl, rfl⟩
   by_cases c7 : n.kind = 7
   ·repeat' (first | ((first | apply T.mv | apply T.asn | apply T.fieldAddrZ); apply rfl; apply rfl) | (apply T.load; apply rfl; apply rfl; infer_instance; apply rfl; apply rfl) | ((first | apply T.lss | apply T.gtr | apply T.eql | apply T.neq); (iterate 3 apply rfl)) | (apply T.pickT; (iterate 3 apply rfl)) | (apply T.pickF; (iterate 3 apply rfl)) | (apply T.box; apply rfl; apply rfl; intro nb) | (with_reducible first | refine Sr.nil ?_ | refine S.seq ?_ | refine S.block ?_ | refine S.reg ?_) | (apply T.ungV; apply rfl; (first | with_reducible rfl | decide)) | (apply T.skip; apply rfl; (first | with_reducible rfl | decide); apply rfl) | (apply S.condFV; apply rfl; (first | with_reducible rfl | decide)) | (apply S.condQ; apply rfl; all_goals (intro _; try (exfalso; first | omega | with_reducible contradiction))) | (apply T.gcase; apply rfl; apply rfl; all_goals (intro _; try (exfalso; first | omega | with_reducible contradiction))) | fail)
    all_goals
     rw [c2']
     repeat' (first | (apply T.seql; (iterate 3 apply rfl)) | ((first | apply T.asn | apply T.fieldAddrZ); apply rfl; apply rfl) | (apply T.load; apply rfl; apply rfl; infer_instance; apply rfl; apply rfl) | (apply T.eql; (iterate 3 apply rfl)) | (apply T.neq; (iterate 3 apply rfl)) | (apply T.pickF; (iterate 3 apply rfl)) | (with_reducible first | refine Sr.nil ?_ | refine S.seq ?_ | refine S.reg ?_ | refine S.skip ?_ | refine S.inBlock ?_) | (apply T.ungV; apply rfl; (first | with_reducible rfl | decide)) | (apply S.condQ; apply rfl; all_goals (intro _; try (exfalso; first | omega | with_reducible contradiction))) | (apply T.retW; apply rfl) | fail)
     exact ⟨_, PSub.drop (PSub.refl _), rfl, rfl⟩
   have c0 : ¬ 0 < n.kids := by omega
   repeat' (first | ((first | apply T.mv | apply T.asn | apply T.fieldAddrZ); apply rfl; apply rfl) | (apply T.load; apply rfl; apply rfl; infer_instance; apply rfl; apply rfl) | ((first | apply T.lss | apply T.gtr | apply T.eql); (iterate 3 apply rfl)) | (apply T.pickF; (iterate 3 apply rfl)) | (apply T.box; apply rfl; apply rfl; intro nb) | (with_reducible first | refine Sr.nil ?_ | refine S.seq ?_ | refine S.block ?_ | refine S.reg ?_) | (apply T.ungV; apply rfl; (first | with_reducible rfl | decide)) | (apply T.skip; apply rfl; (first | with_reducible rfl | decide); apply rfl) | (apply S.condFV; apply rfl; (first | with_reducible rfl | decide)) | (apply S.condQ; apply rfl; all_goals (intro _; try (exfalso; first | omega | with_reducible contradiction))) | (apply T.gcase; apply rfl; apply rfl; all_goals (intro _; try (exfalso; first | omega | with_reducible contradiction))) | fail)
   all_goals
    rw [c2']
    repeat' (first | (apply T.seql; (iterate 3 apply rfl)) | ((first | apply T.asn | apply T.fieldAddrZ); apply rfl; apply rfl) | (apply T.load; apply rfl; apply rfl; infer_instance; apply rfl; apply rfl) | (apply T.eql; (iterate 3 apply rfl)) | (apply T.neq; (iterate 3 apply rfl)) | (apply T.pickF; (iterate 3 apply rfl)) | (with_reducible first | refine Sr.nil ?_ | refine S.seq ?_ | refine S.reg ?_ | refine S.skip ?_ | refine S.inBlock ?_) | (apply T.ungV; apply rfl; (first | with_reducible rfl | decide)) | (apply S.condQ; apply rfl; all_goals (intro _; try (exfalso; first | omega | with_reducible contradiction))) | (apply T.retW; apply rfl) | fail)
    exact ⟨_, PSub.drop (PSub.refl _), rfl, rfl⟩
  ·rw [if_pos (.inr c3)]
   by_cases c6 : n.kind = 6
   ·repeat' (first | ((first | apply T.mv | apply T.asn | apply T.fieldAddrZ); apply rfl; apply rfl) | (apply T.load; apply rfl; apply rfl; infer_instance; apply rfl; apply rfl) | ((first | apply T.lss | apply T.gtr | apply T.eql | apply T.neq); (iterate 3 apply rfl)) | (apply T.pickT; (iterate 3 apply rfl)) | (apply T.pickF; (iterate 3 apply rfl)) | (apply T.box; apply rfl; apply rfl; intro nb) | (with_reducible first | refine Sr.nil ?_ | refine S.seq ?_ | refine S.block ?_ | refine S.reg ?_) | (apply T.ungV; apply rfl; (first | with_reducible rfl | decide)) | (apply T.skip; apply rfl; (first | with_reducible rfl | decide); apply rfl) | (apply S.condFV; apply rfl; (first | with_reducible rfl | decide)) | (apply S.condQ; apply rfl; all_goals (intro _; try (exfalso; first | omega | with_reducible contradiction))) | (apply T.gcase; apply rfl; apply rfl; all_goals (intro _; try (exfalso; first | omega | with_reducible contradiction))) | fail)
    all_goals
     rw [c2']
     repeat' (first | ((first | apply T.asn | apply T.fieldAddrZ); apply rfl; apply rfl) | (apply T.load; apply rfl; apply rfl; infer_instance; apply rfl; apply rfl) | (apply T.neq; (iterate 3 apply rfl)) | (apply T.pickF; (iterate 3 apply rfl)) | (with_reducible first | refine Sr.nil ?_ | refine S.seq ?_ | refine S.reg ?_) | (apply T.ungV; apply rfl; (first | with_reducible rfl | decide)) | (apply S.condQ; apply rfl; all_goals (intro _; try (exfalso; first | omega | with_reducible contradiction))) | (apply T.retW; apply rfl) | fail)
     exact ⟨_, PSub.drop (PSub.refl _), rfl, rfl⟩
   by_cases c7 : n.kind = 7
   ·repeat' (first | ((first | apply T.mv | apply T.asn | apply T.fieldAddrZ); apply rfl; apply rfl) | (apply T.load; apply rfl; apply rfl; infer_instance; apply rfl; apply rfl) | ((first | apply T.lss | apply T.gtr | apply T.eql | apply T.neq); (iterate 3 apply rfl)) | (apply T.pickT; (iterate 3 apply rfl)) | (apply T.pickF; (iterate 3 apply rfl)) | (apply T.box; apply rfl; apply rfl; intro nb) | (with_reducible first | refine Sr.nil ?_ | refine S.seq ?_ | refine S.block ?_ | refine S.reg ?_) | (apply T.ungV; apply rfl; (first | with_reducible rfl | decide)) | (apply T.skip; apply rfl; (first | with_reducible rfl | decide); apply rfl) | (apply S.condFV; apply rfl; (first | with_reducible rfl | decide)) | (apply S.condQ; apply rfl; all_goals (intro _; try (exfalso; first | omega | with_reducible contradiction))) | (apply T.gcase; apply rfl; apply rfl; all_goals (intro _; try (exfalso; first | omega | with_reducible contradiction))) | fail)
    all_goals
     rw [c2']
     repeat' (first | ((first | apply T.asn | apply T.fieldAddrZ); apply rfl; apply rfl) | (apply T.load; apply rfl; apply rfl; infer_instance; apply rfl; apply rfl) | (apply T.neq; (iterate 3 apply rfl)) | (apply T.pickF; (iterate 3 apply rfl)) | (with_reducible first | refine Sr.nil ?_ | refine S.seq ?_ | refine S.reg ?_) | (apply T.ungV; apply rfl; (first | with_reducible rfl | decide)) | (apply S.condQ; apply rfl; all_goals (intro _; try (exfalso; first | omega | with_reducible contradiction))) | (apply T.retW; apply rfl) | fail)
     exact ⟨_, PSub.drop (PSub.refl _), rfl, rfl⟩
   have c0 : ¬ 0 < n.kids := by omega
   repeat' (first | ((first | apply T.mv | apply T.asn | apply T.fieldAddrZ); apply rfl; apply rfl) | (apply T.load; apply rfl; apply rfl; infer_instance; apply rfl; apply rfl) | ((first | apply T.lss | apply T.gtr | apply T.eql); (iterate 3 apply rfl)) | (apply T.pickF; (iterate 3 apply rfl)) | (apply T.box; apply rfl; apply rfl; intro nb) | (with_reducible first | refine Sr.nil ?_ | refine S.seq ?_ | refine S.block ?_ | refine S.reg ?_) | (apply T.ungV; apply rfl; (first | with_reducible rfl | decide)) | (apply T.skip; apply rfl; (first | with_reducible rfl | decide); apply rfl) | (apply S.condFV; apply rfl; (first | with_reducible rfl | decide)) | (apply S.condQ; apply rfl; all_goals (intro _; try (exfalso; first | omega | with_reducible contradiction))) | (apply T.gcase; apply rfl; apply rfl; all_goals (intro _; try (exfalso; first | omega | with_reducible contradiction))) | fail)
   all_goals
    rw [c2']
    repeat' (first | ((first | apply T.asn | apply T.fieldAddrZ); apply rfl; apply rfl) | (apply T.load; apply rfl; apply rfl; infer_instance; apply rfl; apply rfl) | (apply T.neq; (iterate 3 apply rfl)) | (apply T.pickF; (iterate 3 apply rfl)) | (with_reducible first | refine Sr.nil ?_ | refine S.seq ?_ | refine S.reg ?_) | (apply T.ungV; apply rfl; (first | with_reducible rfl | decide)) | (apply S.condQ; apply rfl; all_goals (intro _; try (exfalso; first | omega | with_reducible contradiction))) | (apply T.retW; apply rfl) | fail)
    exact ⟨_, PSub.drop (PSub.refl _), rfl, rfl⟩
end
end Go.Proofs.YtjajcmedipjfhaaGreatDoor
/- The stack of levels that the program's look at a value keeps: its row, its maps. -/
namespace Sg
open Go Go.RowKit
theorem shrinkN_owns {w : World} {E : TypeId} {n cp sz : Nat} {a : Option Addr} {xs vs : List Value} (hz : vs.length = sz) (h : w.ownsRow 0 E sz (.slice a (n + 1) cp) (n + 1) (xs ++ vs)) : w.ownsRow 0 E sz (.slice a n cp) n xs := by
 obtain ⟨h1, h2⟩ := h
 have h3 : xs.length = n * sz := by
  rw [List.length_append, hz, Nat.add_mul, Nat.one_mul] at h1
  omega
 refine ⟨h3, ?_⟩
 rcases h2 with ⟨_, h0⟩ | ⟨g, cap, cur, hv, hg, hh, hn, hm, hs, ht⟩
 ·omega
 ·simp only [Value.slice.injEq] at hv
  obtain ⟨rfl, _, rfl⟩ := hv
  refine .inr ⟨g, cp, cur, rfl, hg, hh, by omega, hm, hs, ?_⟩
  have := congrArg (List.take (n * sz)) ht
  rw [List.take_take, Nat.min_eq_left (Nat.mul_le_mul_right _ (Nat.le_succ n))] at this
  rw [this, List.take_append_of_le_length (by omega), List.take_of_length_le (by omega)]
theorem St.shrinkN {F : World} {M : List Nat} {w : World} {H : List Res} {a : Option Addr} {cp n sz : Nat} {E : TypeId} {xs vs : List Value} (hz : vs.length = sz) (h : St F M w (.row a cp E sz (n + 1) (xs ++ vs) :: H)) : St F M w (.row a cp E sz n xs :: H) :=
 h.turn rfl rfl rfl (Nat.le_refl _) (fun _ _ _ => rfl) (shrinkN_owns hz (h.res _ (List.mem_cons_self ..))) (fun b hb => .inl hb) (by cases a <;> simp [Res.foot])
section
variable {c : Ctx} {ds : List Deferred} {H : List Res} {ops : Array Oper} {l : List Oper} {κ : List Res → Env → Prop} {q : Mode} {e : Env} {ty : TypeId} {pos : String} {aft : Array Edge}
theorem T.nilCheckS {x : Operand} {d : Tmp} {g : Addr} {i sz f : Nat} (hx : ev e x = some (.pointer (faddr (some g) i sz f))) (hlt : Nat.blt d c.fn.ntmps = true) (hk : Sr q c ds H ops l κ ((d, .pointer (faddr (some g) i sz f)) :: e)) : Sr q c ds H ops (⟨some d, .nilCheck x, ty, pos, aft, none⟩ :: l) κ e :=
 Sr.p (Pu.nilCheck (show ev e x = some (.pointer (some _)) from hx)) rfl hlt rfl hk
theorem T.fieldAddrS {x : Operand} {d : Tmp} {b o i sz f fi fo : Nat} {t : TypeId} [HFd c.P t fi fo] (hx : ev e x = some (.pointer (faddr (some ⟨b, o, none⟩) i sz f))) (hlt : Nat.blt d c.fn.ntmps = true) (hk : Sr q c ds H ops l κ ((d, .pointer (faddr (some ⟨b, o, none⟩) i sz (f + fo))) :: e)) :
  Sr q c ds H ops (⟨some d, .fieldAddr t x fi, ty, pos, aft, none⟩ :: l) κ e := by
 have h0 : ∀ k, faddr (some ⟨b, o, none⟩) i sz k = some ⟨b, o + (i * sz + k), none⟩ := fun k => by simp [faddr, eaddr, addr_add]
 rw [h0] at hx hk
 have h : Pu c H e ⟨some d, .fieldAddr t x fi, ty, pos, aft, none⟩ (.pointer (some ⟨b, o + (i * sz + f) + fo, none⟩)) := Pu.fieldAddr hx
 rw [show (⟨b, o + (i * sz + f) + fo, none⟩ : Addr) = ⟨b, o + (i * sz + (f + fo)), none⟩ by rw [Nat.add_assoc, Nat.add_assoc]] at h
 exact Sr.p h rfl hlt rfl hk
end
theorem S.rowSome {c : Ctx} {ds : List Deferred} {H : List Res} {k : List Item} {e : Env} {a : Option Addr} {cp n sz : Nat} {E : TypeId} {xs : List Value} (hn : n ≠ 0) (h : ∀ g, a = some ⟨g, 0, none⟩ → S c ds (.row a cp E sz n xs :: H) k e) : S c ds (.row a cp E sz n xs :: H) k e := by
 unfold S at h ⊢
 intro w ac hw ha hd
 obtain ⟨_, h2⟩ : w.ownsRow 0 E sz (.slice a n cp) n xs := hw.res _ (List.mem_cons_self ..)
 rcases h2 with ⟨_, h0⟩ | ⟨g, cap, cur, hv, _⟩
 ·exact absurd h0 hn
 ·simp only [Value.slice.injEq] at hv
  exact h g hv.1 w ac hw ha hd
def KN (m : Ents) (ns : List (List UInt8)) : Prop := ∀ k, (eget m k).getD 0 = if k ∈ ns then 1 else 0
theorem KN.nil : KN [] [] := fun k => by simp [eget]
theorem KN.put {m : Ents} {ns : List (List UInt8)} (h : KN m ns) (k : List UInt8) : KN (eput m k 1) (k :: ns) := fun n => by
 rw [eget_put]
 by_cases e : k = n
 ·subst e; simp
 ·rw [if_neg e, h n]
  have : n ≠ k := fun h => e h.symm
  simp [this]
end Sg
namespace Go.Proofs.YtjajcmedipjfhaaGreatDoor
open Sg
def lvV (x : Nat × Option (Nat × Ents)) : List Value := [.int .i64 (x.1 : Int), mpV x]
abbrev lvR (a : Option Addr) (cp : Nat) (st : Stk) : Res := .row a cp 86 2 st.length (st.reverse.flatMap lvV)
theorem lv_push (a : Option Addr) (cp : Nat) (x : Nat × Option (Nat × Ents)) (st : Stk) : lvR a cp (x :: st) = .row a cp 86 2 (st.length + 1) (st.reverse.flatMap lvV ++ lvV x) := by
 simp only [lvR, List.reverse_cons, List.flatMap_append, List.length_cons, List.flatMap_cons, List.flatMap_nil, List.append_nil]
theorem pop_lv {F : World} {M : List Nat} {H : List Res} {w : World} {a : Option Addr} {cp : Nat} {x : Nat × Option (Nat × Ents)} {r : Stk} (h : St F M w (lvR a cp (x :: r) :: mapsR (x :: r) H)) : St F M w (lvR a cp r :: mapsR r H) := by
 rw [lv_push] at h
 have h1 : St F M w (lvR a cp r :: mapsR (x :: r) H) := h.shrinkN rfl
 obtain ⟨i, x2⟩ := x
 cases x2 with
 | none => exact h1
 | some y => exact St.midDrop (A := [lvR a cp r]) (q := mpR y.1 y.2) h1
inductive LvOf : Stk → List Lv → Prop
 | nil : LvOf [] []
 | list {k : Nat} {st : Stk} {l : List Lv} (h : LvOf st l) : LvOf ((k, none) :: st) ((k, none) :: l)
 | obj {k b : Nat} {m : Ents} {ns : List (List UInt8)} {st : Stk} {l : List Lv} (hk : KN m ns) (h : LvOf st l) : LvOf ((k, some (b, m)) :: st) ((k, some ns) :: l)
theorem LvOf.inv {y : Nat × Option (Nat × Ents)} {s : Stk} {l : List Lv} (h : LvOf (y :: s) l) : ∃ nm l', l = (y.1, nm) :: l' ∧ LvOf s l' ∧ ((y.2 = none ∧ nm = none) ∨ ∃ b m ns, y.2 = some (b, m) ∧ nm = some ns ∧ KN m ns) := by
 cases h with
 | list h => exact ⟨none, _, rfl, h, .inl ⟨rfl, rfl⟩⟩
 | obj hk h => exact ⟨_, _, rfl, h, .inr ⟨_, _, _, rfl, rfl, hk⟩⟩
theorem LvOf.len {st : Stk} {l : List Lv} (h : LvOf st l) : st.length = l.length := by induction h <;> simp_all
end Go.Proofs.YtjajcmedipjfhaaGreatDoor
