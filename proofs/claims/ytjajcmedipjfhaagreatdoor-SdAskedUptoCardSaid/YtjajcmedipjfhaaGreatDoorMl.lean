/- Texts put together by a program: Bey UtfV NumV ShpQ PlnA LwA Bld Blda SplA SplB LwB PlnB FrsA NdO. -/
import Derived.Test.YtjajcmedipjfhaaGreatDoorMk
import Derived.Test.YtjajcmedipjfhaaGreatDoorMb
import Derived.Test.YtjajcmedipjfhaaGreatDoorMc
import Derived.Lib.ValidLaws
import Derived.Lib.TrimUEq
import Derived.Test.YtjajcmedipjfhaaGreatDoorMd
import Derived.Test.YtjajcmedipjfhaaGreatDoorMg
import Derived.Test.YtjajcmedipjfhaaGreatDoorMi
import Derived.Test.YtjajcmedipjfhaaGreatDoorMa
import Derived.Laws.StructEq
import Derived.ChangeKeysEq
import Derived.Lib.Builder
import Derived.Lib.MakeNoZero
import Derived.Lib.UnsafeStr
import Derived.Laws.Externs
import Derived.Laws.CopyRow
import Derived.Test.YtjajcmedipjfhaaGreatDoorFacts
import Derived.Lib.Bytealg
/- The document's look at how deep nodes are nested: it ends, with some answer. -/
namespace Go.Proofs.YtjajcmedipjfhaaGreatDoor
open Sg Go Go.RowKit Go.IntWalk
set_option maxRecDepth 100000
set_option maxHeartbeats 4000000
section
variable {F : World} {M : List Nat} {H : List Res}
abbrev opI (a : Option Addr) (c : Nat) (l : List Int) : Res := .row a c 3 1 l.length (l.map iV)
def RngI (l : List Int) : Prop := ∀ x ∈ l, -9223372036854775808 ≤ x ∧ x ≤ 9223372036854775807
theorem beyond_spec {v : List Nd} {va : Option Addr} {vc : Nat} (hR : Rd F M H va (v.flatMap ndV)) (hk : ∀ n ∈ v, -9223372036854775808 ≤ n.kids ∧ n.kids ≤ 9223372036854775807) (hl : v.length ≤ 1100000) :
  Meets Tryz.prog 8 [.slice va v.length vc] F M H (fun e H' => ∃ b, e = .returned (.bool b) ∧ H' = H) := by
 refine Meets.enter Tryz.func8 rfl rfl ?_
 refine S.nilrow 3 1 ?_
 repeat' (first | (apply T.asn; apply rfl; apply rfl) | (with_reducible first | refine Sr.nil ?_ | refine S.seq ?_ | refine S.block ?_ | refine S.reg ?_) | fail)
 refine S.loopE 1 [0] (fun R b' μ H' e => ∃ (i : Nat) (a : Option Addr) (c : Nat) (l : List Int), H' = opI a c l :: R ∧ e = (3, .slice a l.length c) :: (4, .int .i64 i) :: b' ∧ (i ≤ v.length ∧ l.length ≤ i ∧ RngI l) ∧ μ = v.length - i) rfl rfl ?_ _ _ ⟨0, none, 0, [], rfl, rfl, ⟨by omega, Nat.le_refl _, fun x hx => by cases hx⟩, rfl⟩ (by repeat' first | exact trivial | refine And.intro rfl ?_)
 rintro _ _ _ ⟨i, a, c, l, rfl, rfl, ⟨h1, h2, h3⟩, rfl⟩ ih
 by_cases hi : i < v.length
 ·have hki := hk (v.getD i default) (by rw [List.getD_eq_getElem?_getD, List.getElem?_eq_getElem hi]; exact List.getElem_mem hi)
  repeat' (first | ((first | apply T.mv | apply T.len); apply rfl; apply rfl) | (apply T.lss; (iterate 3 apply rfl)) | (with_reducible first | refine Sr.nil ?_ | refine S.seq ?_ | refine S.block ?_ | refine S.reg ?_ | refine S.skip ?_) | (apply S.condQ; apply rfl; all_goals (intro _; try (exfalso; first | omega | with_reducible contradiction))) | fail)
  refine S.loopE 1 [0, 4] (fun R b' μ H' e => ∃ (c : Nat) (a : Option Addr) (l' : List Int), H' = opI a c l' :: R ∧ e = (3, .slice a l'.length c) :: b' ∧ (l'.length ≤ i ∧ RngI l') ∧ μ = l'.length) rfl rfl ?_ _ _ ⟨c, a, l, rfl, rfl, ⟨h2, h3⟩, rfl⟩ (by repeat' first | exact trivial | refine And.intro rfl ?_)
  clear h2 h3
  rintro _ _ _ ⟨c, a, l, rfl, rfl, ⟨h2, h3⟩, rfl⟩ ih2
  rcases List.eq_nil_or_concat l with rfl | ⟨ys, x, rfl⟩
  ·have g0 : ([] : List Int).length = 0 := rfl
   repeat' (first | ((first | apply T.mv | apply T.asn | apply T.len); apply rfl; apply rfl) | (apply T.gtr; (iterate 3 apply rfl)) | (apply T.addI; apply rfl; apply rfl; omega; apply rfl) | (apply T.ixF; apply rfl; apply rfl; infer_instance; exact (fun _ => rfl); apply rfl; omega; omega; apply rfl) | (apply T.fieldAddrF; apply rfl; infer_instance; exact (fun _ => rfl); apply rfl; omega; apply rfl) | (apply T.loadF; apply rfl; apply rfl; infer_instance; exact (fun _ => rfl); apply rfl; exact getD_some (by omega); apply rfl; apply rfl) | (apply T.pickF; (iterate 3 apply rfl)) | (apply T.bs; (iterate 6 apply rfl); intro nb) | (apply T.append; apply rfl; apply rfl; infer_instance; (first | rfl | (simp; done)); (first | rfl | (simp; done)); apply rfl; apply rfl; (constructor <;> omega); apply rfl; intro na nc) | (with_reducible first | refine Sr.nil ?_ | refine S.seq ?_ | refine S.reg ?_ | refine S.skip ?_ | refine S.inBlock ?_) | (apply S.exit; apply rfl) | (apply T.skip; apply rfl; (first | with_reducible rfl | decide); apply rfl) | (apply S.condFV; apply rfl; (first | with_reducible rfl | decide)) | fail)
   exact ih _ _ _ _ ⟨i + 1, na, nc, [(v.getD i default).kids], rfl, rfl, ⟨by omega, by simp, fun y hy => by
    obtain rfl := List.mem_singleton.1 hy
    exact hki⟩, rfl⟩ (by omega) (by repeat' first | exact trivial | refine And.intro rfl ?_)
  ·have hcl : (ys.concat x).length = ys.length + 1 := by simp
   rw [hcl] at h2 ⊢
   have e1 : ((ys.length + 1 : Nat) : Int) - 1 = ((ys.length : Nat) : Int) := by omega
   have hm : opI a c (ys.concat x) = .row a c 3 1 (ys.length + 1) (ys.map iV ++ [iV x]) := by rw [opI, List.concat_eq_append, List.map_append, List.length_append]; rfl
   have hx3 := h3 x (by simp)
   have hset : ((ys.concat x).map iV).set ys.length (iV (x - 1)) ++ [iV (v.getD i default).kids] = (ys ++ [x - 1, (v.getD i default).kids]).map iV := by simp [List.set_append_right]
   have hv : (ys.concat x).getD ys.length 0 = x := by simp [List.getD]
   refine S.capR (ad := a) inferInstance fun hcap => ?_
   by_cases hx : x ≤ 0
   ·repeat' (first | (apply T.subI; apply rfl; apply rfl; omega; apply rfl; rw [e1]) | (apply T.loadI; apply rfl; infer_instance; omega; apply rfl; rw [hv]) | ((first | apply T.mv | apply T.asn | apply T.len); apply rfl; apply rfl) | ((first | apply T.leq | apply T.gtr); (iterate 3 apply rfl)) | (apply T.ixN; apply rfl; apply rfl; infer_instance; omega; (first | omega | (simp only [List.length_map]; omega) | (simp; omega)); apply rfl) | (apply T.pickT; (iterate 3 apply rfl)) | (apply T.sliceHK; apply rfl; apply rfl; omega; apply rfl) | (with_reducible first | refine Sr.nil ?_ | refine S.seq ?_ | refine S.block ?_ | refine S.reg ?_ | refine S.skip ?_ | refine S.inBlock ?_) | (apply T.ungV; apply rfl; (first | with_reducible rfl | decide)) | (apply S.condQ; apply rfl; all_goals (intro _; try (exfalso; first | omega | with_reducible contradiction))) | (apply T.gcase; apply rfl; apply rfl; all_goals (intro _; try (exfalso; first | omega | with_reducible contradiction))) | fail)
    rw [hm]
    refine S.frontR a ?_
    refine S.shrink ?_
    exact ih2 _ _ _ _ ⟨c, a, ys, rfl, rfl, ⟨by omega, fun y hy => h3 y (by simp [hy])⟩, rfl⟩ (by rw [hcl]; omega) (by repeat' first | exact trivial | refine And.intro rfl ?_)
   ·repeat' (first | (apply T.subI; apply rfl; apply rfl; omega; apply rfl; rw [e1]) | (apply T.loadI; apply rfl; infer_instance; omega; apply rfl; rw [hv]) | ((first | apply T.mv | apply T.len); apply rfl; apply rfl) | ((first | apply T.leq | apply T.gtr); (iterate 3 apply rfl)) | (apply T.subI; apply rfl; apply rfl; omega; apply rfl) | (apply T.ixN; apply rfl; apply rfl; infer_instance; omega; (first | omega | (simp only [List.length_map]; omega) | (simp; omega)); apply rfl) | (apply T.ixF; apply rfl; apply rfl; infer_instance; exact (fun _ => rfl); apply rfl; omega; omega; apply rfl) | (apply T.fieldAddrF; apply rfl; infer_instance; exact (fun _ => rfl); apply rfl; omega; apply rfl) | (apply T.loadF; apply rfl; apply rfl; infer_instance; exact (fun _ => rfl); apply rfl; exact getD_some (by omega); apply rfl; apply rfl) | (apply T.pickT; (iterate 3 apply rfl)) | (apply T.storeE; apply rfl; apply rfl; infer_instance; (first | omega | (simp only [List.length_map]; omega) | (simp; omega)); apply rfl) | (apply T.bs; (iterate 6 apply rfl); intro nb) | (with_reducible first | refine Sr.nil ?_ | refine S.seq ?_ | refine S.reg ?_) | (apply S.exit; apply rfl) | (apply T.ungV; apply rfl; (first | with_reducible rfl | decide)) | (apply S.condQ; apply rfl; all_goals (intro _; try (exfalso; first | omega | with_reducible contradiction))) | (apply T.gcase; apply rfl; apply rfl; all_goals (intro _; try (exfalso; first | omega | with_reducible contradiction))) | fail)
    rw [hcl]
    repeat' (first | ((first | apply T.mv | apply T.asn | apply T.len); apply rfl; apply rfl) | (apply T.gtr; (iterate 3 apply rfl)) | (apply T.addI; apply rfl; apply rfl; omega; apply rfl) | (apply T.append; apply rfl; apply rfl; infer_instance; (first | rfl | (simp; done)); (first | rfl | (simp; done)); apply rfl; apply rfl; (constructor <;> omega); apply rfl; intro na nc) | (with_reducible first | refine Sr.nil ?_ | refine S.seq ?_ | refine S.reg ?_ | refine S.skip ?_ | refine S.inBlock ?_) | (apply S.condQ; apply rfl; all_goals (intro _; try (exfalso; first | omega | with_reducible contradiction))) | (apply T.retW; apply rfl) | fail)
    ·exact ⟨_, by ((repeat (first | dsimp only [List.set_cons_zero] | dsimp only [List.set_cons_succ])); repeat' first | exact PSub.refl _ | exact PSub.nil | (apply PSub.take; (repeat' first | (with_reducible exact pick_hd) | (with_reducible apply pick_tl))) | (with_reducible apply PSub.drop) | ((apply PSub.take); (repeat' first | exact pick_hd | (apply pick_tl)))), _, rfl, rfl⟩
    ·rw [hset]
     have hl2 : (ys ++ [x - 1, (v.getD i default).kids]).length = ys.length + 1 + 1 := by simp
     rw [← hl2]
     exact ih _ _ _ _ ⟨i + 1, na, nc, _, rfl, rfl, ⟨by omega, by omega, fun y hy => by
      rcases List.mem_append.1 hy with hy | hy
      ·exact h3 y (by simp [hy])
      ·rcases List.mem_cons.1 hy with rfl | hy
       ·omega
       ·obtain rfl := List.mem_singleton.1 hy
        exact hki⟩, rfl⟩ (by omega) (by repeat' first | exact trivial | refine And.intro rfl ?_)
 ·clear ih
  repeat' (first | ((first | apply T.mv | apply T.asn | apply T.len); apply rfl; apply rfl) | (apply T.lss; (iterate 3 apply rfl)) | (with_reducible first | refine Sr.nil ?_ | refine S.seq ?_ | refine S.reg ?_) | (apply S.exit; apply rfl) | (apply S.condQ; apply rfl; all_goals (intro _; try (exfalso; first | omega | with_reducible contradiction))) | (apply T.retW; apply rfl) | fail)
  exact ⟨_, by ((repeat (first | dsimp only [List.set_cons_zero] | dsimp only [List.set_cons_succ])); repeat' first | exact PSub.refl _ | exact PSub.nil | (apply PSub.take; (repeat' first | (with_reducible exact pick_hd) | (with_reducible apply pick_tl))) | (with_reducible apply PSub.drop) | ((apply PSub.take); (repeat' first | exact pick_hd | (apply pick_tl)))), _, rfl, rfl⟩
end
end Go.Proofs.YtjajcmedipjfhaaGreatDoor
/- Texts that have been read as strings are well formed UTF-8; plain. -/
namespace Sg
open Go.Lib
end Sg
/- A number that has been read is one by itself; plain. -/
namespace Sg
def Digs (s : List UInt8) : Prop := s ≠ [] ∧ ∀ c ∈ s, digitB c = true
structure NumS (M D F E : List UInt8) : Prop where
 m : M = [] ∨ M = [45]
 d : D = [48] ∨ (Digs D ∧ D.head? ≠ some 48)
 f : F = [] ∨ ∃ r, F = 46 :: r ∧ Digs r
 e : E = [] ∨ ∃ x sg r, E = x :: (sg ++ r) ∧ (x = 101 ∨ x = 69) ∧ (sg = [] ∨ sg = [43] ∨ sg = [45]) ∧ Digs r
end Sg
/- What has been read from a text is well shaped; plain. -/
namespace Sg
open Go.Lib
mutual
inductive VOk : Nat → Option (List (List UInt8)) → List Nd → Prop
 | mk {d : Nat} {nm : Option (List (List UInt8))} {n : Nd} {xs : List (List Nd)} : plainX validD n = true → validD n.key = true → (nm = none → n.key = []) → hasN nm n.key = false → (isRow n → d ≠ 0) → n.kids = (xs.length : Int) →
   ROk (d - 1) (if n.kind = 7 then some [] else none) xs → VOk d nm (n :: xs.flatten)
inductive ROk : Nat → Option (List (List UInt8)) → List (List Nd) → Prop
 | nil {d : Nat} {nm : Option (List (List UInt8))} : ROk d nm []
 | cons {d : Nat} {nm : Option (List (List UInt8))} {x : List Nd} {xs : List (List Nd)} : VOk d nm x → ROk d (nm.map ((headN x).key :: ·)) xs → ROk d nm (x :: xs)
end
structure RowS (d : Nat) (obj : Bool) (names : List (List UInt8)) (hd : Nd) (out : List Nd) (xs : List (List Nd)) : Prop where
 out_ : out = xs.flatten
 kids : hd.kids = (xs.length : Int)
 kind : hd.kind = if obj then 7 else 6
 head : hd.key = [] ∧ hd.text = [] ∧ hd.whole = false ∧ hd.int = 0
 rows : ROk d (if obj then some [] else none) xs
 names_ : obj = true → ∀ k, k ∈ names ↔ k ∈ xs.map fun x => (headN x).key
end Sg
/- Where nothing is hidden a payload reveals itself; plain. -/
namespace Sg
open Go.Lib
theorem kid_sub {x y : List Nd} (h : x = headN x :: (kidsOf x 0).flatten) (hy : y ∈ kidsOf x 0) : ∀ n ∈ y, n ∈ x := fun n hn => by
 rw [h]
 exact List.mem_cons_of_mem _ (List.mem_flatten.2 ⟨y, hy, hn⟩)
theorem head_mem {x : List Nd} (h : Fo 1 x) : headN x ∈ x := by
 obtain ⟨-, -, h3, -⟩ := kids_size h
 rw [h3]
 exact List.mem_cons_self ..
def Bare (x : List Nd) : Prop := ∀ n ∈ x, n.key ≠ sdN ∧ n.key ≠ dotsN
end Sg
/- The law's small functions: nodes and texts held against each other, copies. -/
namespace Sg
end Sg
namespace Go.Proofs.YtjajcmedipjfhaaGreatDoor
open Sg Go Go.RowKit Go.IntWalk
set_option maxRecDepth 100000
set_option maxHeartbeats 4000000
section
variable {P : Program} {w : World} {d : Nat} {xs ys : Array Value} {f : Field} {fs : List Field}
end
section
variable {c : Ctx} {ds : List Deferred} {H : List Res} {ops : Array Oper} {l : List Oper} {κ : List Res → Env → Prop} {q : Sg.Mode} {e : Env} {ty : TypeId} {pos : String} {aft : Array Edge}
end
section
variable {F : World} {M : List Nat} {H : List Res}
end
end Go.Proofs.YtjajcmedipjfhaaGreatDoor
/- Rules for what a builder of texts needs: pointers by way of unsafe ones, calls of functions without a body, bytes turned to a text and frozen. -/
namespace Sg
open Go Go.RowKit
section
variable {c : Ctx} {ds : List Deferred} {H : List Res} {ops : Array Oper} {l : List Oper} {κ : List Res → Env → Prop} {q : Mode} {dr : Bool} {e : Env} {ty : TypeId} {pos : String} {aft : Array Edge}
theorem St.shape {F : World} {M : List Nat} {w : World} {b : Nat} {vs : List Value} {E : TypeId} (h : St F M w H) (hm : .blk b vs E ∈ H) : w.shape? b = some (E, vs.length) := by
 have hb : w.heap[b]? = some (.cells ⟨vs⟩ E (0, 0)) := h.res _ hm
 simp [World.shape?, hb]
theorem T.toUnsafe {x : Operand} {d b : Nat} {s t t' E by_ sz : Nat} {z : Value} {vs : List Value} [HU c.P s (.pointer t')] [HU c.P t .unsafePointer] [HI c.P t' z sz by_] (hx : ev e x = some (.pointer (some ⟨b, 0, none⟩))) (hb : InB H b vs E) (hsz : Nat.blt 0 sz = true) (hl : Nat.blt 0 vs.length = true)
  (hlt : Nat.blt d c.fn.ntmps = true) (hk : Sr q c ds H ops l κ ((d, .pointer (some ⟨b, 0, none⟩)) :: e)) : Sr q c ds H ops (⟨some d, .convert s t x, ty, pos, aft, none⟩ :: l) κ e :=
 Sr.p (fun w a hw ha => by
  obtain ⟨j, hj, _, h2, _⟩ := HI.h (P := c.P) (t := t')
  have h0 : 0 < sz := by simpa [Nat.blt_eq] using hsz
  have h1 : 0 < vs.length := by simpa [Nat.blt_eq] using hl
  have := Lib.run_to_unsafe (P := c.P) w ⟨b, 0, none⟩ (HU.h (P := c.P) (t := s)) (HU.h (P := c.P) (t := t)) hj (by omega) (hw.shape hb.h) h1
  simp [execOp, ha.ev hx, this]) rfl hlt rfl hk
theorem T.fromUnsafe {x : Operand} {d b : Nat} {s t t' E by_ sz : Nat} {z : Value} {vs : List Value} [HU c.P s .unsafePointer] [HU c.P t (.pointer t')] [HI c.P t' z sz by_] (hx : ev e x = some (.pointer (some ⟨b, 0, none⟩))) (hb : InB H b vs E)
  (hlies : liesAt c.P c.P.depth E (vs.length / c.P.cellsOf E) 0 t' 1 = true)
  (hlt : Nat.blt d c.fn.ntmps = true) (hk : Sr q c ds H ops l κ ((d, .pointer (some ⟨b, 0, none⟩)) :: e)) : Sr q c ds H ops (⟨some d, .convert s t x, ty, pos, aft, none⟩ :: l) κ e :=
 Sr.p (fun w a hw ha => by
  obtain ⟨j, hj, _⟩ := HI.h (P := c.P) (t := t')
  have := Lib.run_from_unsafe (P := c.P) w ⟨b, 0, none⟩ (HU.h (P := c.P) (t := s)) (HU.h (P := c.P) (t := t)) hj (hw.shape hb.h) hlies
  simp [execOp, ha.ev hx, this]) rfl hlt rfl hk
theorem T.pneqSame {x y : Operand} {d : Nat} {ad : Addr} {t t' u by_ sz : Nat} {z : Value} [HU c.P t (.pointer t')] [HI c.P t' z sz by_] (hx : ev e x = some (.pointer (some ad))) (hy : ev e y = some (.pointer (some ad)))
  (hlt : Nat.blt d c.fn.ntmps = true) (hk : Sr q c ds H ops l κ ((d, .bool false) :: e)) : Sr q c ds H ops (⟨some d, .binOp .neq t x y u, ty, pos, aft, none⟩ :: l) κ e :=
 Sr.p (fun w a hw ha => by
  obtain ⟨j, hj, _⟩ := HI.h (P := c.P) (t := t')
  have := Lib.run_neq_ptr_same (P := c.P) w ad (HU.h (P := c.P) (t := t)) hj
  simp [execOp, ha.ev hx, ha.ev hy, eqGuard, this]) rfl hlt rfl hk
theorem T.callX {d : Tmp} {args : List Operand} {ats : Array TypeId} {g : FuncId} {vs : List Value} {K : Value → List Res → Prop} (hargs : evs e args = some vs) (hd : Nat.blt d c.fn.ntmps = true)
  (hrun : ∀ w, St c.F c.M w H → ∃ v w' H', (callFunc g ⟨vs⟩).run c.P w = .ok (.value v) w' ∧ St c.F c.M w' H' ∧ K v H')
  (hk : ∀ v H', K v H' → Sr (.eff dr) c ds H' ops l κ ((d, v) :: e)) :
  Sr (.eff dr) c ds H ops (⟨some d, .call ⟨.value (.func g), args.toArray, ats⟩, ty, pos, aft, none⟩ :: l) κ e :=
 Sr.eff (K := K) (fun w a hw ha => by
  obtain ⟨v, w', H', h1, h2, h3⟩ := hrun w hw
  have h4 := ha.evs hargs
  have hm : Array.map a.eval args.toArray = ⟨vs⟩ := by rw [← h4]; simp
  refine ⟨v, w', H', .inl ?_, h2, h3⟩
  simp only [execOp, resolve, hm, Deferred.ofValue, pure_bind, invoke, Act.eval]
  simpa using h1) hd rfl hk
theorem T.unsafeData {d : Tmp} {x : Operand} {ad : Option Addr} {n cp t : Nat} (hx : ev e x = some (.slice ad n cp)) (h0 : 0 < cp ∨ ad = none) (hlt : Nat.blt d c.fn.ntmps = true) (hk : Sr q c ds H ops l κ ((d, .pointer ad) :: e)) :
  Sr q c ds H ops (⟨some d, .call ⟨.builtin .unsafeSliceData, #[x], #[t]⟩, ty, pos, aft, none⟩ :: l) κ e :=
 Sr.p (fun w a hw ha => by
  cases ad with
  | none =>
   have := Lib.run_unsafeSliceData_nil (P := c.P) w #[t] ty n cp
   simp [execOp, ha.ev hx, resolve, invoke, builtin, this]
  | some ad =>
   have := Lib.run_unsafeSliceData_row (P := c.P) w #[t] ty ad n cp (by rcases h0 with h | h; omega; cases h)
   simp [execOp, ha.ev hx, resolve, invoke, builtin, this]) rfl hlt rfl hk
theorem T.unsafeStr {d : Tmp} {x y : Operand} {ad : Option Addr} {n cp pt it E : Nat} [HU c.P pt (.pointer E)] {z : Value} {by_ : Nat} [HI c.P E z 1 by_] {xs : List UInt8} {f : Res → List Res} (hx : ev e x = some (.pointer ad)) (hy : ev e y = some (.int .i64 (n : Int))) (hr : AtR H ad cp E 1 n (xs.map bV) f)
  (h0 : 0 < n) (hlt : Nat.blt d c.fn.ntmps = true) (hk : Sr (.eff dr) c ds (f (.row none 0 E 1 0 [])) ops l κ ((d, sV xs) :: e)) :
  Sr (.eff dr) c ds H ops (⟨some d, .call ⟨.builtin .unsafeString, #[x, y], #[pt, it]⟩, ty, pos, aft, none⟩ :: l) κ e :=
 Sr.eff (K := fun v H' => v = sV xs ∧ H' = f (.row none 0 E 1 0 [])) (fun w a hw ha => by
  obtain ⟨rest, p1, p2⟩ := hr.h
  have hw' := hw.perm p1
  have hown : w.ownsRow 0 E 1 (.slice ad n cp) n (xs.map bV) := hw'.res _ (List.mem_cons_self ..)
  have hlen : xs.length = n := by simpa using hown.1
  obtain ⟨ti, hi, _, hsz, _⟩ := HI.h (P := c.P) (t := E)
  have hc1 : c.P.cellsOf E = 1 := by simp [Program.cellsOf, hi, hsz]
  rcases hown.2 with ⟨hv, hn0⟩ | ⟨g, cap, cur, hv, _, hh, hle, hmx, hcs, htk⟩
  ·omega
  ·simp only [Value.slice.injEq, true_and] at hv
   obtain ⟨rfl, rfl⟩ := hv
   have hsh : w.shape? g = some (E, cur.size) := by simp [World.shape?, hh]
   have hmax : n ≤ 9223372036854775807 := by unfold maxLen at hmx; omega
   have hcells := hown.cells (g := g) rfl
   have hrun := Lib.run_unsafeString_row (P := c.P) w pt it ty E (HU.h (P := c.P)) hc1 g cur.size hsh xs (fun h => by rw [h] at hlen; simp at hlen; omega) (by rw [hlen]; omega) (by omega) (fun j x hx => hcells j (bV x) (by simp [hx]))
   rw [hlen] at hrun
   refine ⟨sV xs, w.freeze ⟨g, 0, none⟩ n, f (.row none 0 E 1 0 []), .inl (by simp [execOp, ha.ev hx, ha.ev hy, resolve, invoke, builtin, hrun]), St.perm (hw'.turn (r' := .row none 0 E 1 0 []) ?_ ?_ ?_ ?_ ?_ (World.ownsRow_nil _ 0 E 1) (fun q hq => by simp [Res.foot] at hq) (by simp [Res.foot])) (p2 _), rfl, rfl⟩
   all_goals unfold World.freeze
   all_goals split
   all_goals try rfl
   ·exact Nat.le_refl _
   ·simp
   ·intro j _ hj; rfl
   ·intro j _ hj
    simp only [Array.getElem?_modify]
    rw [if_neg]
    intro h
    exact hj (by simp [Res.foot, h])) hlt rfl (fun v H' ⟨h2, h3⟩ => by subst h2 h3; exact hk)
end
end Sg
/- The walks of strings.Builder, by hand. -/
namespace Go.Proofs.YtjajcmedipjfhaaGreatDoor
open Sg Go.IntWalk
set_option maxRecDepth 100000
set_option maxHeartbeats 4000000
section
variable {F : World} {M : List Nat} {H : List Res} {b : Nat} {p v : Value}
def BdOk (b : Nat) (p : Value) : Prop := p = .pointer none ∨ p = .pointer (some ⟨b, 0, none⟩)
theorem BdOk.self (b : Nat) : BdOk b (.pointer (some ⟨b, 0, none⟩)) := .inr rfl
abbrev bdB (b : Nat) (p : Value) (na : Option Addr) (n cp : Nat) : Res := .blk b [p, .slice na n cp] 113
abbrev byR (na : Option Addr) (cp : Nat) (xs : List UInt8) : Res := .row na cp 5 1 xs.length (xs.map bV)
theorem copyCheck_spec (hp : BdOk b p) : Meets Tryz.prog 125 [.pointer (some ⟨b, 0, none⟩)] F M (.blk b [p, v] 113 :: H) (fun e H' => e = .returned (.tuple ⟨[]⟩) ∧ H' = .blk b [.pointer (some ⟨b, 0, none⟩), v] 113 :: H) := by
 refine Meets.enter Tryz.func125 rfl rfl ?_
 rcases hp with rfl | rfl
 ·repeat' (first | (apply T.toUnsafe; apply rfl; infer_instance; (iterate 3 apply rfl)) | (apply T.eqlP0; apply rfl; apply rfl) | ((first | apply T.mv | apply T.nilCheck | apply T.fieldAddrZ); apply rfl; apply rfl) | (apply T.load; apply rfl; apply rfl; infer_instance; apply rfl; apply rfl) | (with_reducible first | refine Sr.nil ?_ | refine S.seq ?_ | refine S.reg ?_) | (apply S.condTV; apply rfl; (first | with_reducible rfl | decide)) | fail)
  refine T.callX (vs := [.pointer (some ⟨b, 0, none⟩)]) (K := fun v H' => v = .pointer (some ⟨b, 0, none⟩) ∧ H' = _) rfl rfl (fun w hw => ⟨_, w, _, by rw [run_callFunc_extern Tryz.func149 (by kernel_rfl) (by kernel_rfl) (by kernel_rfl) (e := Extern.AbiNoEscape.same) (by kernel_rfl)]; rfl, hw, rfl, rfl⟩) ?_
  rintro _ _ ⟨rfl, rfl⟩
  repeat' (first | (apply T.fromUnsafe; apply rfl; infer_instance; kernel_rfl; apply rfl) | ((first | apply T.nilCheck | apply T.fieldAddrZ); apply rfl; apply rfl) | (apply T.store; apply rfl; apply rfl; infer_instance; (first | decide | (simp; omega) | simp); apply rfl) | with_reducible refine Sr.nil ?_ | (apply T.doneW; apply rfl) | fail)
  exact ⟨_, PSub.refl _, rfl, rfl⟩
 ·repeat' (first | (apply T.pneqSame; (iterate 3 apply rfl)) | (apply T.eqlP; apply rfl; apply rfl) | ((first | apply T.mv | apply T.nilCheck | apply T.fieldAddrZ); apply rfl; apply rfl) | (apply T.load; apply rfl; apply rfl; infer_instance; apply rfl; apply rfl) | (with_reducible first | refine Sr.nil ?_ | refine S.seq ?_ | refine S.reg ?_ | refine S.skip ?_) | (apply S.condFV; apply rfl; (first | with_reducible rfl | decide)) | (apply T.doneW; apply rfl) | fail)
  exact ⟨_, PSub.refl _, rfl, rfl⟩
theorem bdLen_spec {na : Option Addr} {n cp : Nat} : Meets Tryz.prog 64 [.pointer (some ⟨b, 0, none⟩)] F M (bdB b p na n cp :: H) (fun e H' => e = .returned (.int .i64 n) ∧ H' = bdB b p na n cp :: H) := by
 refine Meets.enter Tryz.func64 rfl rfl ?_
 repeat' (first | ((first | apply T.mv | apply T.asn | apply T.len | apply T.nilCheck | apply T.fieldAddrZ); apply rfl; apply rfl) | (apply T.load; apply rfl; apply rfl; infer_instance; apply rfl; apply rfl) | (with_reducible first | refine Sr.nil ?_ | refine S.seq ?_ | refine S.reg ?_) | (apply T.retW; apply rfl) | fail)
 exact ⟨_, PSub.refl _, rfl, rfl⟩
theorem writeString_spec {na : Option Addr} {cp : Nat} {xs s : List UInt8} (hp : BdOk b p) (hl : xs.length + s.length ≤ 100000000) :
  Meets Tryz.prog 96 [.pointer (some ⟨b, 0, none⟩), sV s] F M (bdB b p na xs.length cp :: byR na cp xs :: H)
   (fun e H' => ∃ na' cp', e = .returned (.tuple ⟨[.int .i64 s.length, .nilIface]⟩) ∧ H' = bdB b (.pointer (some ⟨b, 0, none⟩)) na' (xs ++ s).length cp' :: byR na' cp' (xs ++ s) :: H) := by
 refine Meets.enter Tryz.func96 rfl rfl ?_
 have hL : (xs ++ s).length = xs.length + s.length := List.length_append
 repeat' (first | ((first | apply T.mv | apply T.asn); apply rfl; apply rfl) | (with_reducible first | refine Sr.nil ?_ | refine S.seq ?_ | refine S.reg ?_) | fail)
 refine T.call rfl rfl (copyCheck_spec hp) ?_
 rintro _ _ ⟨rfl, rfl⟩
 repeat' (first | ((first | apply T.slen | apply T.mv | apply T.asn | apply T.nilCheck | apply T.fieldAddrZ); apply rfl; apply rfl) | (apply T.appendS; apply rfl; apply rfl; infer_instance; omega; apply rfl; intro na nc) | (apply T.load; apply rfl; apply rfl; infer_instance; apply rfl; apply rfl) | (apply T.store; apply rfl; apply rfl; infer_instance; (first | decide | (simp; omega) | simp); apply rfl) | (with_reducible first | refine Sr.nil ?_ | refine S.seq ?_ | refine S.reg ?_) | (apply T.retW; apply rfl) | (with_reducible apply T.ofRet) | fail)
 dsimp only [bdB, byR]
 rw [hL]
 exact ⟨_, PSub.refl _, _, _, rfl, rfl⟩
theorem writeByte_spec {na : Option Addr} {cp : Nat} {xs : List UInt8} {x : UInt8} (hp : BdOk b p) (hl : xs.length ≤ 100000000) :
  Meets Tryz.prog 98 [.pointer (some ⟨b, 0, none⟩), .int .u8 (x.toNat : Nat)] F M (bdB b p na xs.length cp :: byR na cp xs :: H)
   (fun e H' => ∃ na' cp', e = .returned .nilIface ∧ H' = bdB b (.pointer (some ⟨b, 0, none⟩)) na' (xs ++ [x]).length cp' :: byR na' cp' (xs ++ [x]) :: H) := by
 refine Meets.enter Tryz.func98 rfl rfl ?_
 have hL : (xs ++ [x]).length = xs.length + 1 := List.length_append
 repeat' (first | ((first | apply T.mv | apply T.asn); apply rfl; apply rfl) | (with_reducible first | refine Sr.nil ?_ | refine S.seq ?_ | refine S.reg ?_) | fail)
 refine T.call rfl rfl (copyCheck_spec hp) ?_
 rintro _ _ ⟨rfl, rfl⟩
 repeat' (first | ((first | apply T.mv | apply T.asn | apply T.nilCheck | apply T.fieldAddrZ); apply rfl; apply rfl) | (apply T.load; apply rfl; apply rfl; infer_instance; apply rfl; apply rfl) | (apply T.store; apply rfl; apply rfl; infer_instance; (first | decide | (simp; omega) | simp); apply rfl) | (apply T.bs; (iterate 6 apply rfl); intro nb) | (apply T.appendB; apply rfl; apply rfl; infer_instance; apply rfl; (constructor <;> omega); apply rfl; intro na nc) | (with_reducible first | refine Sr.nil ?_ | refine S.seq ?_ | refine S.reg ?_) | (apply T.retW; apply rfl) | (with_reducible apply T.ofRet) | fail)
 dsimp only [bdB, byR]
 rw [hL]
 exact ⟨_, PSub.refl _, _, _, rfl, rfl⟩
theorem bdString_spec {na : Option Addr} {cp : Nat} {xs : List UInt8} (hx : 0 < xs.length) :
  Meets Tryz.prog 65 [.pointer (some ⟨b, 0, none⟩)] F M (bdB b p na xs.length cp :: byR na cp xs :: H) (fun e H' => e = .returned (sV xs) ∧ H' = H) := by
 refine Meets.enter Tryz.func65 rfl rfl ?_
 refine S.capR (ad := na) inferInstance fun hcap => ?_
 have h0 : 0 < cp ∨ na = none := .inl (by omega)
 refine S.seq ?_
 repeat' (first | (apply T.asn; apply rfl; apply rfl) | (with_reducible first | refine Sr.nil ?_ | refine S.reg ?_) | fail)
 refine S.seq ?_
 (apply S.draw; (case Hs => exact bdB b p na xs.length cp :: H); (case es => exact  [10]); (case n => exact  12); (case hn => rfl))
 repeat' (first | (apply T.unsafeData; apply rfl; exact h0; apply rfl) | (refine T.unsafeStr (xs := xs) rfl rfl inferInstance hx rfl ?_) | ((first | apply T.mv | apply T.asn | apply T.len | apply T.nilCheck | apply T.fieldAddrZ); apply rfl; apply rfl) | (apply T.load; apply rfl; apply rfl; infer_instance; apply rfl; apply rfl) | with_reducible refine Sr.nil ?_ | (apply T.retW; apply rfl) | (apply SA.qn; (iterate 4 apply rfl); kernel_rfl) | (apply SA.en; apply rfl; apply rfl; kernel_rfl) | (apply SA.done; apply rfl; kernel_rfl) | (apply SK.intro; (first | exact fun _ h => h | exact fun _ h => St.psub h (by ((repeat (first | dsimp only [List.set_cons_zero] | dsimp only [List.set_cons_succ])); repeat' first | exact PSub.refl _ | exact PSub.nil | (apply PSub.take; (repeat' first | (with_reducible exact pick_hd) | (with_reducible apply pick_tl))) | (with_reducible apply PSub.drop) | ((apply PSub.take); (repeat' first | exact pick_hd | (apply pick_tl))))))) | fail)
 exact ⟨_, PSub.drop (PSub.drop (PSub.refl _)), rfl, rfl⟩
end
end Go.Proofs.YtjajcmedipjfhaaGreatDoor
/- The walks of the program's spelling of texts and values. -/
namespace Sg
open Go Go.RowKit
section
variable {c : Ctx} {ds : List Deferred} {H : List Res} {ops : Array Oper} {l : List Oper} {κ : List Res → Env → Prop} {q : Mode} {e : Env} {ty : TypeId} {pos : String} {aft : Array Edge}
theorem T.bshr4 {x : Operand} {d : Tmp} {t u : TypeId} {a : UInt8} {kd' : IntKind} (hx : ev e x = some (.int .u8 (a.toNat : Int))) (hlt : Nat.blt d c.fn.ntmps = true) (hk : Sr q c ds H ops l κ ((d, .int .u8 ((a.toNat / 16 : Nat) : Int)) :: e)) :
  Sr q c ds H ops (⟨some d, .binOp .shr t x (.const (.int kd' 4)) u, ty, pos, aft, none⟩ :: l) κ e := Sr.p (Pu.shr hx rfl (by decide) (by
 show (a.toNat : Int).fdiv (2 ^ 4) = ((a.toNat / 16 : Nat) : Int)
 rw [Int.fdiv_eq_ediv_of_nonneg _ (by decide)]
 omega)) rfl hlt rfl hk
theorem T.band15 {x : Operand} {d : Tmp} {t u : TypeId} {a : UInt8} (hx : ev e x = some (.int .u8 (a.toNat : Int))) (hlt : Nat.blt d c.fn.ntmps = true) (hk : Sr q c ds H ops l κ ((d, .int .u8 ((a.toNat % 16 : Nat) : Int)) :: e)) :
  Sr q c ds H ops (⟨some d, .binOp .and t x (.const (.int .u8 15)) u, ty, pos, aft, none⟩ :: l) κ e := T.band (b := 15) hx rfl hlt (by
 rw [show (a &&& 15).toNat = a.toNat % 16 by
  rw [UInt8.toNat_and]
  exact Nat.and_two_pow_sub_one_eq_mod a.toNat 4]
 exact hk)
theorem T.badd1 {x : Operand} {d : Tmp} {t u : TypeId} {n : Nat} (hx : ev e x = some (.int .u8 (n : Int))) (hn : n < 255) (hlt : Nat.blt d c.fn.ntmps = true) (hk : Sr q c ds H ops l κ ((d, .int .u8 ((n + 1 : Nat) : Int)) :: e)) :
  Sr q c ds H ops (⟨some d, .binOp .add t x (.const (.int .u8 1)) u, ty, pos, aft, none⟩ :: l) κ e := Sr.p (Pu.add hx rfl (by
 show IntKind.u8.wrap ((n : Int) + 1) = ((n + 1 : Nat) : Int)
 rw [wrap_u8]
 omega)) rfl hlt rfl hk
end
def hexL : List UInt8 := [48, 49, 50, 51, 52, 53, 54, 55, 56, 57, 97, 98, 99, 100, 101, 102]
theorem hexL_get : ∀ k : Fin 16, (hexL.drop k.val).take (k.val + 1 - k.val) = [hexD k.val] := by decide
theorem hexL_at {k : Nat} (h : k < 16) : (hexL.drop k).take (k + 1 - k) = [hexD k] := hexL_get ⟨k, h⟩
def escL : List UInt8 := [8, 12, 10, 13, 9, 34, 92]
def escT : List UInt8 := [98, 102, 110, 114, 116, 34, 92]
theorem esc_ix : ∀ n : Fin 256, (Lib.indexByte escL (UInt8.ofNat n.val) = -1 ∧ (n.val < 32 → qB (UInt8.ofNat n.val) = [92, 117, 48, 48, hexD (n.val / 16), hexD (n.val % 16)]) ∧ n.val ≠ 34 ∧ n.val ≠ 92) ∨
  (∃ i : Fin 7, Lib.indexByte escL (UInt8.ofNat n.val) = (i.val : Int) ∧ qB (UInt8.ofNat n.val) = 92 :: (escT.drop i.val).take (i.val + 1 - i.val)) := by decide +kernel
theorem esc_at (c : UInt8) : (Lib.indexByte escL c = -1 ∧ (c.toNat < 32 → qB c = [92, 117, 48, 48, hexD (c.toNat / 16), hexD (c.toNat % 16)]) ∧ c.toNat ≠ 34 ∧ c.toNat ≠ 92) ∨
  (∃ i : Nat, i < 7 ∧ Lib.indexByte escL c = (i : Int) ∧ qB c = 92 :: (escT.drop i).take (i + 1 - i)) := by
 have h := esc_ix ⟨c.toNat, c.toNat_lt⟩
 simp only [UInt8.ofNat_toNat] at h
 rcases h with h | ⟨i, h1, h2⟩
 ·exact .inl h
 ·exact .inr ⟨i.val, i.isLt, h1, h2⟩
theorem qB_plain {c : UInt8} (h1 : ¬ c.toNat < 32) (h2 : c.toNat ≠ 34) (h3 : c.toNat ≠ 92) : qB c = [c] := by
 unfold qB
 rw [if_neg (by omega), if_neg (by omega), if_neg (by omega), if_neg (by omega), if_neg (by omega), if_neg (by omega), if_neg (by omega)]
end Sg
namespace Go.Proofs.YtjajcmedipjfhaaGreatDoor
open Sg Go.IntWalk
set_option maxRecDepth 100000
set_option maxHeartbeats 4000000
section
variable {F : World} {M : List Nat} {H : List Res} {b : Nat} {p v : Value}
theorem indexByte_spec {s : List UInt8} {ch : UInt8} : Meets Tryz.prog 41 [sV s, .int .u8 (ch.toNat : Nat)] F M H (fun e H' => e = .returned (.int .i64 (Lib.indexByte s ch)) ∧ H' = H) := by
 refine Meets.enter Tryz.func41 rfl rfl ?_
 repeat' (first | ((first | apply T.mv | apply T.asn); apply rfl; apply rfl) | (with_reducible first | refine Sr.nil ?_ | refine S.seq ?_ | refine S.reg ?_) | fail)
 refine T.call rfl rfl (Meets.enter (post := fun e H' => e = .returned (.int .i64 (Lib.indexByte s ch)) ∧ H' = H) Tryz.func72 rfl rfl ?_) ?_
 ·repeat' (first | ((first | apply T.mv | apply T.asn); apply rfl; apply rfl) | (with_reducible first | refine Sr.nil ?_ | refine S.seq ?_ | refine S.reg ?_) | fail)
  refine T.callX (vs := [sV s, .int .u8 (ch.toNat : Nat)]) (K := fun v H' => v = .int .i64 (Lib.indexByte s ch) ∧ H' = _) rfl rfl (fun w hw => ⟨.int .i64 (Lib.indexByte s ch), w, _, by
   have h := Lib.run_indexByteString (P := Tryz.prog) (ByteArray.mk s.toArray) (ch.toNat : Nat) w
   rw [run_callFunc_extern Tryz.func103 (by kernel_rfl) (by kernel_rfl) (by kernel_rfl) (e := Extern.BytealgIndexByte.indexByte) (by kernel_rfl)]
   refine (congrArg (fun r => Result.andThen r fun v w' => Result.ok (Next.value v) w') h).trans ?_
   rw [Int.toNat_natCast]
   have h2 : ch.toNat.toUInt8 = ch := by simp
   rw [h2]
   rfl, hw, rfl, rfl⟩) ?_
  rintro _ _ ⟨rfl, rfl⟩
  repeat' (first | (apply T.asn; apply rfl; apply rfl) | with_reducible refine Sr.nil ?_ | (apply T.retW; apply rfl) | fail)
  exact ⟨_, PSub.refl _, rfl, rfl⟩
 rintro _ _ ⟨rfl, rfl⟩
 repeat' (first | (apply T.asn; apply rfl; apply rfl) | with_reducible refine Sr.nil ?_ | (apply T.retW; apply rfl) | (with_reducible apply T.ofRet) | fail)
 exact ⟨_, PSub.refl _, rfl, rfl⟩
theorem take_next1 {s : List UInt8} {f i : Nat} (h : i < s.length) (hf : f ≤ i) : (s.drop f).take (i + 1 - f) = (s.drop f).take (i - f) ++ [s.getD i 0] := by
 rw [show i + 1 - f = (i - f) + 1 by omega, List.take_succ_eq_append_getElem (by rw [List.length_drop]; omega), List.getElem_drop]
 simp [List.getD, show f + (i - f) = i by omega, h]
theorem flat_next {s : List UInt8} {i : Nat} (h : i < s.length) : (s.take (i + 1)).flatMap qB = (s.take i).flatMap qB ++ qB (s.getD i 0) := by
 rw [List.take_succ_eq_append_getElem h, List.flatMap_append]
 simp [List.getD, h]
theorem quote_spec {na : Option Addr} {cp : Nat} {xs s : List UInt8} (hp : BdOk b p) (hl : xs.length + 6 * s.length + 2 ≤ 100000000) :
  Meets Tryz.prog 97 [.pointer (some ⟨b, 0, none⟩), sV s] F M (bdB b p na xs.length cp :: byR na cp xs :: H)
   (fun e H' => ∃ na' cp', e = .returned (.tuple ⟨[]⟩) ∧ H' = bdB b (.pointer (some ⟨b, 0, none⟩)) na' (xs ++ quoS s).length cp' :: byR na' cp' (xs ++ quoS s) :: H) := by
 refine Meets.enter Tryz.func97 rfl rfl ?_
 repeat' (first | (apply T.mv; apply rfl; apply rfl) | (with_reducible first | refine S.seq ?_ | refine S.reg ?_) | fail)
 refine T.call rfl rfl (writeByte_spec (x := 34) hp (by omega)) ?_
 rintro _ _ ⟨na1, cp1, rfl, rfl⟩
 repeat' (first | ((first | apply T.slen | apply T.mv | apply T.asn); apply rfl; apply rfl) | (with_reducible first | refine Sr.nil ?_ | refine S.seq ?_ | refine S.block ?_ | refine S.reg ?_) | (with_reducible apply T.ofRet) | fail)
 refine S.loopE 2 [0, 1, 11] (fun R b' μ H' e => ∃ (i f : Nat) (na : Option Addr) (cp : Nat) (ys A : List UInt8), H' = bdB b (.pointer (some ⟨b, 0, none⟩)) na ys.length cp :: byR na cp ys :: R ∧ e = (4, .int .i64 f) :: (12, .int .i64 i) :: b' ∧
  (i ≤ s.length ∧ f ≤ i ∧ ys = xs ++ 34 :: A ∧ A ++ (s.drop f).take (i - f) = (s.take i).flatMap qB) ∧ μ = s.length - i) rfl rfl ?_ _ _ ⟨0, 0, na1, cp1, xs ++ [34], [], rfl, rfl, ⟨Nat.zero_le _, Nat.le_refl _, rfl, rfl⟩, rfl⟩ (by repeat' first | exact trivial | refine And.intro rfl ?_)
 rintro _ _ _ ⟨i, f, na, cp, ys, A, rfl, rfl, ⟨h1, h2, h3, h4⟩, rfl⟩ ih
 have hA : A.length ≤ 6 * i := by
  have h5 := flatMap_len qB_len (s.take i)
  have h6 := congrArg List.length h4
  rw [List.length_take] at h5
  rw [List.length_append] at h6
  omega
 have hy : ys.length = xs.length + A.length + 1 := by rw [h3, List.length_append, List.length_cons]; omega
 by_cases h7 : i < s.length
 ·have hn := take_next1 h7 h2
  have hq := flat_next h7
  generalize hc : s.getD i 0 = ch at *
  have h8 := ch.toNat_lt
  by_cases hpl : ¬ ch.toNat < 32 ∧ ch.toNat ≠ 34 ∧ ch.toNat ≠ 92
  ·obtain ⟨p1, p2, p3⟩ := hpl
   rw [qB_plain p1 p2 p3, ← h4, List.append_assoc, ← hn] at hq
   repeat' (first | (apply T.sidx; apply rfl; apply rfl; omega; apply rfl; rw [hc]) | ((first | apply T.mv | apply T.asn); apply rfl; apply rfl) | ((first | apply T.lss | apply T.geq | apply T.neq); (iterate 3 apply rfl)) | (apply T.addI; apply rfl; apply rfl; omega; apply rfl) | (apply T.pickT; (iterate 3 apply rfl)) | (with_reducible first | refine Sr.nil ?_ | refine S.seq ?_ | refine S.block ?_ | refine S.reg ?_ | refine S.skip ?_) | (apply S.exit; apply rfl) | (apply T.ungV; apply rfl; (first | with_reducible rfl | decide)) | (apply S.condQ; apply rfl; all_goals (intro _; try (exfalso; first | omega | with_reducible contradiction))) | (apply T.gcase; apply rfl; apply rfl; all_goals (intro _; try (exfalso; first | omega | with_reducible contradiction))) | fail)
   exact ih _ _ _ _ ⟨i + 1, f, _, _, ys, A, rfl, rfl, ⟨h7, by omega, h3, hq.symm⟩, rfl⟩ (by omega) (by repeat' first | exact trivial | refine And.intro rfl ?_)
  ·have hT : ((s.drop f).take (i - f)).length ≤ i := by rw [List.length_take]; omega
   have h5 : A.length + ((s.drop f).take (i - f)).length ≤ 6 * i := by
    have g1 := flatMap_len qB_len (s.take i)
    have g2 := congrArg List.length h4
    have g3 : (s.take i).length ≤ i := List.length_take_le ..
    rw [List.length_append] at g2
    omega
   rw [← h4] at hq
   generalize hTd : (s.drop f).take (i - f) = tl at *
   have hyl : (ys ++ tl).length = ys.length + tl.length := List.length_append
   repeat' (first | (apply T.sidx; apply rfl; apply rfl; omega; apply rfl; rw [hc]) | (apply T.sslice; (iterate 3 apply rfl); omega; apply rfl; rw [hTd]) | ((first | apply T.mv | apply T.asn); apply rfl; apply rfl) | ((first | apply T.lss | apply T.geq | apply T.neq); (iterate 3 apply rfl)) | (apply T.pickT; (iterate 3 apply rfl)) | (apply T.pickF; (iterate 3 apply rfl)) | (with_reducible first | refine Sr.nil ?_ | refine S.seq ?_ | refine S.block ?_ | refine S.reg ?_ | refine S.skip ?_) | (apply T.ungV; apply rfl; (first | with_reducible rfl | decide)) | (apply T.skip; apply rfl; (first | with_reducible rfl | decide); apply rfl) | (apply S.condFV; apply rfl; (first | with_reducible rfl | decide)) | (apply S.condQ; apply rfl; all_goals (intro _; try (exfalso; first | omega | with_reducible contradiction))) | (apply T.gcase; apply rfl; apply rfl; all_goals (intro _; try (exfalso; first | omega | with_reducible contradiction))) | fail)
   all_goals
    refine T.call rfl rfl (writeString_spec (BdOk.self b) (by omega)) ?_
    rintro _ _ ⟨na2, cp2, rfl, rfl⟩
    repeat' (first | ((first | apply T.mv | apply T.asn); apply rfl; apply rfl) | (apply T.addI; apply rfl; apply rfl; omega; apply rfl) | (with_reducible first | refine Sr.nil ?_ | refine S.seq ?_ | refine S.reg ?_) | (with_reducible apply T.ofRet) | fail)
    refine T.call rfl rfl (indexByte_spec (s := escL) (ch := ch)) ?_
    rintro _ _ ⟨rfl, rfl⟩
    rcases esc_at ch with ⟨e1, e2, e3, e4⟩ | ⟨k, e0, e1, e3⟩
    ·all_goals try (exfalso; omega)
     all_goals
      have hlt : ch.toNat < 32 := by omega
      have e5 := e2 hlt
      have x1 := hexL_at (k := ch.toNat / 16) (by omega)
      have x2 := hexL_at (k := ch.toNat % 16) (by omega)
      rw [e1]
      repeat' (first | ((first | apply T.mv | apply T.asn); apply rfl; apply rfl) | (apply T.geq; (iterate 3 apply rfl)) | (with_reducible first | refine Sr.nil ?_ | refine S.seq ?_ | refine S.reg ?_) | (apply S.condFV; apply rfl; (first | with_reducible rfl | decide)) | (with_reducible apply T.ofRet) | fail)
      (apply S.draw; (case Hs => exact []); (case es => exact  [15]); (case n => exact  16); (case hn => rfl))
      repeat' (first | (apply T.bshr4; apply rfl; apply rfl) | (apply T.band15; apply rfl; apply rfl) | (apply T.badd1; apply rfl; omega; apply rfl) | (refine T.sslice (bs := hexL) (i := ch.toNat / 16) (j := ch.toNat / 16 + 1) rfl rfl rfl ⟨by omega, by show _ ≤ 16; omega⟩ rfl ?_; rw [x1]) | (refine T.sslice (bs := hexL) (i := ch.toNat % 16) (j := ch.toNat % 16 + 1) rfl rfl rfl ⟨by omega, by show _ ≤ 16; omega⟩ rfl ?_; rw [x2]) | (refine T.sadd (a := [92, 117, 48, 48]) (b := [hexD (ch.toNat / 16)]) rfl rfl (by show 4 + 1 ≤ _; omega) rfl ?_) | (refine T.sadd (b := [hexD (ch.toNat % 16)]) rfl rfl (by show 5 + 1 ≤ _; omega) rfl ?_) | (refine T.call rfl rfl (writeString_spec (BdOk.self b) (by rw [hyl]; show _ + 6 ≤ _; omega)) ?_; rintro _ _ ⟨na3, cp3, rfl, rfl⟩) | (apply T.mv; apply rfl; apply rfl) | (apply T.addI; apply rfl; apply rfl; omega; apply rfl) | (with_reducible first | refine Sr.nil ?_ | refine S.reg ?_ | refine S.inBlock ?_) | (with_reducible apply T.ofRet) | (apply SA.qn; (iterate 4 apply rfl); kernel_rfl) | (apply SA.en; apply rfl; apply rfl; kernel_rfl) | (apply SA.done; apply rfl; kernel_rfl) | (apply SK.intro; (first | exact fun _ h => h | exact fun _ h => St.psub h (by ((repeat (first | dsimp only [List.set_cons_zero] | dsimp only [List.set_cons_succ])); repeat' first | exact PSub.refl _ | exact PSub.nil | (apply PSub.take; (repeat' first | (with_reducible exact pick_hd) | (with_reducible apply pick_tl))) | (with_reducible apply PSub.drop) | ((apply PSub.take); (repeat' first | exact pick_hd | (apply pick_tl))))))) | fail)
      skip
      exact ih _ _ _ _ ⟨i + 1, i + 1, _, _, (ys ++ tl) ++ (([92, 117, 48, 48] ++ [hexD (ch.toNat / 16)]) ++ [hexD (ch.toNat % 16)]), A ++ tl ++ qB ch, rfl, rfl, ⟨h7, Nat.le_refl _, by rw [h3, e5]; simp, by rw [Nat.sub_self, List.take_zero, List.append_nil, hq]⟩, rfl⟩ (by omega) (by repeat' first | exact trivial | refine And.intro rfl ?_)
    ·have hk1 : ((escT.drop k).take (k + 1 - k)).length ≤ 1 := by rw [List.length_take]; omega
     rw [e1]
     repeat' (first | (refine T.sslice (bs := escT) (i := k) (j := k + 1) rfl rfl rfl ⟨by omega, by show _ ≤ 7; omega⟩ rfl ?_) | (refine T.sadd (a := [92]) rfl rfl (by show 1 + _ ≤ _; omega) rfl ?_) | ((first | apply T.mv | apply T.asn); apply rfl; apply rfl) | (apply T.geq; (iterate 3 apply rfl)) | (apply T.addI; apply rfl; apply rfl; omega; apply rfl) | (with_reducible first | refine Sr.nil ?_ | refine S.seq ?_ | refine S.reg ?_) | (apply S.condQ; apply rfl; all_goals (intro _; try (exfalso; first | omega | with_reducible contradiction))) | (with_reducible apply T.ofRet) | fail)
     refine T.call rfl rfl (writeString_spec (BdOk.self b) (by rw [hyl, List.length_append]; show _ + (1 + _) ≤ _; omega)) ?_
     rintro _ _ ⟨na3, cp3, rfl, rfl⟩
     repeat' (first | (apply T.mv; apply rfl; apply rfl) | (apply T.addI; apply rfl; apply rfl; omega; apply rfl) | (with_reducible first | refine Sr.nil ?_ | refine S.reg ?_ | refine S.inBlock ?_) | (with_reducible apply T.ofRet) | fail)
     exact ih _ _ _ _ ⟨i + 1, i + 1, _, _, (ys ++ tl) ++ ([92] ++ (escT.drop k).take (k + 1 - k)), A ++ tl ++ qB ch, rfl, rfl, ⟨h7, Nat.le_refl _, by rw [h3, e3]; simp, by rw [Nat.sub_self, List.take_zero, List.append_nil, hq]⟩, rfl⟩ (by omega) (by repeat' first | exact trivial | refine And.intro rfl ?_)
 ·obtain rfl : i = s.length := by omega
  have h9 : (s.drop f).length = s.length - f := List.length_drop
  have h8 : (s.drop f).take (s.length - f) = s.drop f := by rw [← h9, List.take_length]
  rw [h8, List.take_length] at h4
  have h10 := congrArg List.length h4
  have h11 := flatMap_len qB_len s
  rw [List.length_append] at h10
  repeat' (first | (refine T.ssliceL (i := f) rfl rfl (by omega) rfl ?_) | (refine T.sadd rfl rfl (by show _ + 1 ≤ _; omega) rfl ?_) | (apply T.mv; apply rfl; apply rfl) | (apply T.lss; (iterate 3 apply rfl)) | (with_reducible first | refine Sr.nil ?_ | refine S.seq ?_ | refine S.reg ?_) | (apply S.exit; apply rfl) | (apply S.condQ; apply rfl; all_goals (intro _; try (exfalso; first | omega | with_reducible contradiction))) | fail)
  refine T.call rfl rfl (writeString_spec (BdOk.self b) (by rw [List.length_append]; show _ + (_ + 1) ≤ _; omega)) ?_
  rintro _ _ ⟨na3, cp3, rfl, rfl⟩
  have h12 : ys ++ (s.drop f ++ [34]) = xs ++ quoS s := by rw [h3, quoS, ← h4]; simp
  repeat' (first | with_reducible refine Sr.nil ?_ | (apply T.doneW; apply rfl) | (with_reducible apply T.ofRet) | fail)
  exact ⟨_, PSub.refl _, _, _, rfl, by rw [← h12]⟩
end
end Go.Proofs.YtjajcmedipjfhaaGreatDoor
/- The walks of the program's printing of values. -/
namespace Go.Proofs.YtjajcmedipjfhaaGreatDoor
open Sg Go.IntWalk
set_option maxRecDepth 100000
set_option maxHeartbeats 4000000
section
variable {F : World} {M : List Nat} {H : List Res} {b : Nat} {v : List Nd} {oa : Option Addr} {oc n : Nat}
theorem spelled_spec : ∀ (L : Nat) {x r : List Nd} {p cp : Nat} {na : Option Addr} {pv : Value} {bs : List UInt8} {H : List Res} [Rd F M H oa (v.flatMap ndV)], x.length ≤ L → v.length = n → n ≤ 1100000 → Fo 1 x → (∀ m ∈ x, NdSh m) → v.drop p = x ++ r → BdOk b pv → bs.length + wL x ≤ 50000010 + 6 * (headN x).key.length →
  Meets Tryz.prog 63 [.pointer (some ⟨b, 0, none⟩), .slice oa n oc, .int .i64 p] F M (bdB b pv na bs.length cp :: byR na cp bs :: H)
   (fun e H' => ∃ na' cp', e = .returned (.int .i64 (p + x.length : Nat)) ∧ H' = bdB b (.pointer (some ⟨b, 0, none⟩)) na' (bs ++ spellX L x).length cp' :: byR na' cp' (bs ++ spellX L x) :: H) := by
 intro L
 induction L with
 | zero =>
  intro x r p cp na pv bs H _ hL hn hl hx hok hd hb hw
  have := hx.pos
  omega
 | succ L IH =>
  intro x r p cp na pv bs H _ hL hn hl hx hok hd hb hw
  subst hn
  refine Meets.enter Tryz.func63 rfl rfl ?_
  obtain ⟨nn, xs, rfl, ha⟩ := At.of_fo hd hx
  obtain ⟨g1, g2⟩ := drop_head ha.drop
  subst g1
  have g3 : (v.getD p default).kids = (xs.length : Int) := ha.kids
  have hxl : ((v.getD p default) :: xs.flatten).length = xs.flatten.length + 1 := rfl
  have hxs := (Fo.of ha.fo).le
  have hvl := drop_le hd hx.pos
  have hwx : wL ((v.getD p default) :: xs.flatten) = 6 * ((v.getD p default).text.length + (v.getD p default).key.length) + 20 + wL xs.flatten := rfl
  have hhk : headN ((v.getD p default) :: xs.flatten) = (v.getD p default) := rfl
  rw [hhk, hwx] at hw
  rw [hxl] at hL hvl ⊢
  have h0 : ¬ isRow (v.getD p default) → xs = [] := fun h => by
   have h9 := (hok (v.getD p default) (List.mem_cons_self ..)).2.2 h
   rw [g3] at h9
   exact List.eq_nil_of_length_eq_zero (by omega)
  obtain ⟨hkl, hku, -⟩ := hok (v.getD p default) (List.mem_cons_self ..)
  by_cases k1 : (v.getD p default).kind = 1
  ·have hxs : xs = [] := h0 (by unfold isRow; omega)
   subst hxs
   have hsp : spellX (L + 1) ((v.getD p default) :: ([] : List (List Nd)).flatten) = [110, 117, 108, 108] := by rw [spellX, if_pos k1]
   repeat' (first | ((first | apply T.mv | apply T.asn | apply T.fieldAddrZ); apply rfl; apply rfl) | (apply T.load; apply rfl; apply rfl; infer_instance; apply rfl; apply rfl) | (apply T.eql; (iterate 3 apply rfl)) | (apply T.addI; apply rfl; apply rfl; omega; apply rfl) | (apply T.ixF; apply rfl; apply rfl; infer_instance; exact (fun _ => rfl); apply rfl; omega; omega; apply rfl) | (apply T.loadFN; apply rfl; apply rfl; infer_instance; exact (fun _ => rfl); apply rfl; exact getD_some (by omega); apply rfl) | (apply T.storeW; apply rfl; apply rfl; infer_instance; (first | rfl | (simp only [List.length_append, List.length_map, List.length_set, List.length_replicate, List.length_cons, List.length_nil]; first | done | omega)); (first | rfl | (simp only [List.length_append, List.length_map, List.length_set, List.length_replicate, List.length_cons, List.length_nil]; first | done | omega)); (first | rfl | (repeat' first | apply all_nV | apply all_bV | apply all_iV | rfl | apply all_app))) | (apply T.alloc; apply rfl; intro nb) | (with_reducible first | refine Sr.nil ?_ | refine S.seq ?_ | refine S.block ?_ | refine S.reg ?_) | (apply S.condQ; apply rfl; all_goals (intro _; try (exfalso; first | omega | with_reducible contradiction))) | fail)
   refine Sr.frontR na ?_
   refine Sr.front b ?_
   refine T.call rfl rfl (writeString_spec (s := [110, 117, 108, 108]) hb (by show _ + 4 ≤ _; omega)) ?_
   rintro _ _ ⟨na1, cp1, rfl, rfl⟩
   repeat' (first | ((first | apply T.mv | apply T.asn); apply rfl; apply rfl) | (with_reducible first | refine Sr.nil ?_ | refine S.seq ?_ | refine S.reg ?_ | refine S.inBlock ?_) | (apply T.retW; apply rfl) | (with_reducible apply T.ofRet) | fail)
   rw [hsp]
   exact ⟨_, PSub.take pick_hd (PSub.take pick_hd (PSub.drop (PSub.refl _))), _, _, rfl, rfl⟩
  by_cases k2 : (v.getD p default).kind = 2
  ·have hxs : xs = [] := h0 (by unfold isRow; omega)
   subst hxs
   have hsp : spellX (L + 1) ((v.getD p default) :: ([] : List (List Nd)).flatten) = [102, 97, 108, 115, 101] := by rw [spellX, if_neg k1, if_pos k2]
   repeat' (first | ((first | apply T.mv | apply T.asn | apply T.fieldAddrZ); apply rfl; apply rfl) | (apply T.load; apply rfl; apply rfl; infer_instance; apply rfl; apply rfl) | (apply T.eql; (iterate 3 apply rfl)) | (apply T.addI; apply rfl; apply rfl; omega; apply rfl) | (apply T.ixF; apply rfl; apply rfl; infer_instance; exact (fun _ => rfl); apply rfl; omega; omega; apply rfl) | (apply T.loadFN; apply rfl; apply rfl; infer_instance; exact (fun _ => rfl); apply rfl; exact getD_some (by omega); apply rfl) | (apply T.storeW; apply rfl; apply rfl; infer_instance; (first | rfl | (simp only [List.length_append, List.length_map, List.length_set, List.length_replicate, List.length_cons, List.length_nil]; first | done | omega)); (first | rfl | (simp only [List.length_append, List.length_map, List.length_set, List.length_replicate, List.length_cons, List.length_nil]; first | done | omega)); (first | rfl | (repeat' first | apply all_nV | apply all_bV | apply all_iV | rfl | apply all_app))) | (apply T.alloc; apply rfl; intro nb) | (with_reducible first | refine Sr.nil ?_ | refine S.seq ?_ | refine S.block ?_ | refine S.reg ?_) | (apply S.condQ; apply rfl; all_goals (intro _; try (exfalso; first | omega | with_reducible contradiction))) | fail)
   refine Sr.frontR na ?_
   refine Sr.front b ?_
   refine T.call rfl rfl (writeString_spec (s := [102, 97, 108, 115, 101]) hb (by show _ + 5 ≤ _; omega)) ?_
   rintro _ _ ⟨na1, cp1, rfl, rfl⟩
   repeat' (first | ((first | apply T.mv | apply T.asn); apply rfl; apply rfl) | (with_reducible first | refine Sr.nil ?_ | refine S.seq ?_ | refine S.reg ?_ | refine S.inBlock ?_) | (apply T.retW; apply rfl) | (with_reducible apply T.ofRet) | fail)
   rw [hsp]
   exact ⟨_, PSub.take pick_hd (PSub.take pick_hd (PSub.drop (PSub.refl _))), _, _, rfl, rfl⟩
  by_cases k3 : (v.getD p default).kind = 3
  ·have hxs : xs = [] := h0 (by unfold isRow; omega)
   subst hxs
   have hsp : spellX (L + 1) ((v.getD p default) :: ([] : List (List Nd)).flatten) = [116, 114, 117, 101] := by rw [spellX, if_neg k1, if_neg k2, if_pos k3]
   repeat' (first | ((first | apply T.mv | apply T.asn | apply T.fieldAddrZ); apply rfl; apply rfl) | (apply T.load; apply rfl; apply rfl; infer_instance; apply rfl; apply rfl) | (apply T.eql; (iterate 3 apply rfl)) | (apply T.addI; apply rfl; apply rfl; omega; apply rfl) | (apply T.ixF; apply rfl; apply rfl; infer_instance; exact (fun _ => rfl); apply rfl; omega; omega; apply rfl) | (apply T.loadFN; apply rfl; apply rfl; infer_instance; exact (fun _ => rfl); apply rfl; exact getD_some (by omega); apply rfl) | (apply T.storeW; apply rfl; apply rfl; infer_instance; (first | rfl | (simp only [List.length_append, List.length_map, List.length_set, List.length_replicate, List.length_cons, List.length_nil]; first | done | omega)); (first | rfl | (simp only [List.length_append, List.length_map, List.length_set, List.length_replicate, List.length_cons, List.length_nil]; first | done | omega)); (first | rfl | (repeat' first | apply all_nV | apply all_bV | apply all_iV | rfl | apply all_app))) | (apply T.alloc; apply rfl; intro nb) | (with_reducible first | refine Sr.nil ?_ | refine S.seq ?_ | refine S.block ?_ | refine S.reg ?_) | (apply S.condQ; apply rfl; all_goals (intro _; try (exfalso; first | omega | with_reducible contradiction))) | fail)
   refine Sr.frontR na ?_
   refine Sr.front b ?_
   refine T.call rfl rfl (writeString_spec (s := [116, 114, 117, 101]) hb (by show _ + 4 ≤ _; omega)) ?_
   rintro _ _ ⟨na1, cp1, rfl, rfl⟩
   repeat' (first | ((first | apply T.mv | apply T.asn); apply rfl; apply rfl) | (with_reducible first | refine Sr.nil ?_ | refine S.seq ?_ | refine S.reg ?_ | refine S.inBlock ?_) | (apply T.retW; apply rfl) | (with_reducible apply T.ofRet) | fail)
   rw [hsp]
   exact ⟨_, PSub.take pick_hd (PSub.take pick_hd (PSub.drop (PSub.refl _))), _, _, rfl, rfl⟩
  by_cases k4 : (v.getD p default).kind = 4
  ·have hxs : xs = [] := h0 (by unfold isRow; omega)
   subst hxs
   have hsp : spellX (L + 1) ((v.getD p default) :: ([] : List (List Nd)).flatten) = (v.getD p default).text := by rw [spellX, if_neg k1, if_neg k2, if_neg k3, if_pos k4]
   repeat' (first | ((first | apply T.mv | apply T.asn | apply T.fieldAddrZ); apply rfl; apply rfl) | (apply T.load; apply rfl; apply rfl; infer_instance; apply rfl; apply rfl) | (apply T.eql; (iterate 3 apply rfl)) | (apply T.addI; apply rfl; apply rfl; omega; apply rfl) | (apply T.ixF; apply rfl; apply rfl; infer_instance; exact (fun _ => rfl); apply rfl; omega; omega; apply rfl) | (apply T.loadFN; apply rfl; apply rfl; infer_instance; exact (fun _ => rfl); apply rfl; exact getD_some (by omega); apply rfl) | (apply T.storeW; apply rfl; apply rfl; infer_instance; (first | rfl | (simp only [List.length_append, List.length_map, List.length_set, List.length_replicate, List.length_cons, List.length_nil]; first | done | omega)); (first | rfl | (simp only [List.length_append, List.length_map, List.length_set, List.length_replicate, List.length_cons, List.length_nil]; first | done | omega)); (first | rfl | (repeat' first | apply all_nV | apply all_bV | apply all_iV | rfl | apply all_app))) | (apply T.alloc; apply rfl; intro nb) | (with_reducible first | refine Sr.nil ?_ | refine S.seq ?_ | refine S.block ?_ | refine S.reg ?_) | (apply S.condQ; apply rfl; all_goals (intro _; try (exfalso; first | omega | with_reducible contradiction))) | fail)
   refine Sr.frontR na ?_
   refine Sr.front b ?_
   refine T.call rfl rfl (writeString_spec hb (by omega)) ?_
   rintro _ _ ⟨na1, cp1, rfl, rfl⟩
   repeat' (first | ((first | apply T.mv | apply T.asn); apply rfl; apply rfl) | (with_reducible first | refine Sr.nil ?_ | refine S.seq ?_ | refine S.reg ?_ | refine S.inBlock ?_) | (apply T.retW; apply rfl) | (with_reducible apply T.ofRet) | fail)
   rw [hsp]
   exact ⟨_, PSub.take pick_hd (PSub.take pick_hd (PSub.drop (PSub.refl _))), _, _, rfl, rfl⟩
  by_cases k5 : (v.getD p default).kind = 5
  ·have hxs : xs = [] := h0 (by unfold isRow; omega)
   subst hxs
   have hsp : spellX (L + 1) ((v.getD p default) :: ([] : List (List Nd)).flatten) = quoS (v.getD p default).text := by rw [spellX, if_neg k1, if_neg k2, if_neg k3, if_neg k4, if_pos k5]
   repeat' (first | ((first | apply T.mv | apply T.asn | apply T.fieldAddrZ); apply rfl; apply rfl) | (apply T.load; apply rfl; apply rfl; infer_instance; apply rfl; apply rfl) | (apply T.eql; (iterate 3 apply rfl)) | (apply T.addI; apply rfl; apply rfl; omega; apply rfl) | (apply T.ixF; apply rfl; apply rfl; infer_instance; exact (fun _ => rfl); apply rfl; omega; omega; apply rfl) | (apply T.loadFN; apply rfl; apply rfl; infer_instance; exact (fun _ => rfl); apply rfl; exact getD_some (by omega); apply rfl) | (apply T.storeW; apply rfl; apply rfl; infer_instance; (first | rfl | (simp only [List.length_append, List.length_map, List.length_set, List.length_replicate, List.length_cons, List.length_nil]; first | done | omega)); (first | rfl | (simp only [List.length_append, List.length_map, List.length_set, List.length_replicate, List.length_cons, List.length_nil]; first | done | omega)); (first | rfl | (repeat' first | apply all_nV | apply all_bV | apply all_iV | rfl | apply all_app))) | (apply T.alloc; apply rfl; intro nb) | (with_reducible first | refine Sr.nil ?_ | refine S.seq ?_ | refine S.block ?_ | refine S.reg ?_) | (apply S.condQ; apply rfl; all_goals (intro _; try (exfalso; first | omega | with_reducible contradiction))) | fail)
   refine Sr.frontR na ?_
   refine Sr.front b ?_
   refine T.call rfl rfl (quote_spec hb (by omega)) ?_
   rintro _ _ ⟨na1, cp1, rfl, rfl⟩
   repeat' (first | ((first | apply T.mv | apply T.asn); apply rfl; apply rfl) | (with_reducible first | refine Sr.nil ?_ | refine S.seq ?_ | refine S.reg ?_ | refine S.inBlock ?_) | (apply T.retW; apply rfl) | (with_reducible apply T.ofRet) | fail)
   rw [hsp]
   exact ⟨_, PSub.take pick_hd (PSub.take pick_hd (PSub.drop (PSub.refl _))), _, _, rfl, rfl⟩
  by_cases k7 : (v.getD p default).kind = 7
  ·skip
   repeat' (first | (refine T.sidx (i := 0) rfl rfl (by decide) rfl ?_) | ((first | apply T.mv | apply T.asn | apply T.fieldAddrZ); apply rfl; apply rfl) | (apply T.load; apply rfl; apply rfl; infer_instance; apply rfl; apply rfl) | (apply T.eql; (iterate 3 apply rfl)) | (apply T.addI; apply rfl; apply rfl; omega; apply rfl) | (apply T.ixF; apply rfl; apply rfl; infer_instance; exact (fun _ => rfl); apply rfl; omega; omega; apply rfl) | (apply T.loadFN; apply rfl; apply rfl; infer_instance; exact (fun _ => rfl); apply rfl; exact getD_some (by omega); apply rfl) | (apply T.storeW; apply rfl; apply rfl; infer_instance; (first | rfl | (simp only [List.length_append, List.length_map, List.length_set, List.length_replicate, List.length_cons, List.length_nil]; first | done | omega)); (first | rfl | (simp only [List.length_append, List.length_map, List.length_set, List.length_replicate, List.length_cons, List.length_nil]; first | done | omega)); (first | rfl | (repeat' first | apply all_nV | apply all_bV | apply all_iV | rfl | apply all_app))) | (apply T.alloc; apply rfl; intro nb) | (with_reducible first | refine Sr.nil ?_ | refine S.seq ?_ | refine S.block ?_ | refine S.reg ?_) | (apply S.condQ; apply rfl; all_goals (intro _; try (exfalso; first | omega | with_reducible contradiction))) | fail)
   refine Sr.frontR na ?_
   refine Sr.front b ?_
   refine T.call rfl rfl (writeByte_spec (x := 123) hb (by omega)) ?_
   rintro _ _ ⟨na1, cp1, rfl, rfl⟩
   repeat' (first | ((first | apply T.mv | apply T.fieldAddrZ); apply rfl; apply rfl) | (apply T.load; apply rfl; apply rfl; infer_instance; apply rfl; apply rfl) | (with_reducible first | refine Sr.nil ?_ | refine S.seq ?_ | refine S.block ?_ | refine S.reg ?_) | (with_reducible apply T.ofRet) | fail)
   refine S.loopE 2 [0, 1, 7, 8, 26] (fun R b' μ H' e => ∃ (i q : Nat) (na : Option Addr) (cp : Nat) (ys : List UInt8), H' = bdB b (.pointer (some ⟨b, 0, none⟩)) na ys.length cp :: byR na cp ys :: R ∧ e = (2, .int .i64 q) :: (27, .int .i64 i) :: b' ∧
    (i ≤ xs.length ∧ q = p + 1 + (xs.take i).flatten.length ∧ ys = bs ++ 123 :: joinC ((xs.take i).map (itemS L ((v.getD p default).kind = 7)))) ∧ μ = xs.length - i) rfl rfl ?_ _ _ ⟨0, p + 1, na1, cp1, bs ++ [123], rfl, rfl, ⟨Nat.zero_le _, rfl, rfl⟩, rfl⟩ (by repeat' first | exact trivial | refine And.intro rfl ?_)
   rintro _ _ _ ⟨i, q, na, cp, ys, rfl, rfl, ⟨h1, h3, h5⟩, rfl⟩ ih
   have hjl := joinC_len (g := itemS L ((v.getD p default).kind = 7)) (xs := xs.take i) fun y hy => itemS_len (ha.fo _ (List.mem_of_mem_take hy)) (by have := flat_mem_len (List.mem_of_mem_take hy); omega)
   have hyl : ys.length = bs.length + 1 + (joinC ((xs.take i).map (itemS L ((v.getD p default).kind = 7)))).length := by rw [h5, List.length_append, List.length_cons]; omega
   have hwt := wL_take xs i
   by_cases h4 : i < xs.length
   ·have hk := ha.kid h4
    rw [← h3] at hk
    have hx2 := ha.fo _ (List.getElem_mem h4)
    have hq := drop_le hk hx2.pos
    have hxp := hx2.pos
    have ht := take_flat_succ h4
    have hjn := join_next (g := itemS L ((v.getD p default).kind = 7)) h4
    have hws := wL_split h4
    have hfl := flat_mem_len (List.getElem_mem h4)
    have hok2 : ∀ m ∈ xs[i], NdSh m := fun m hm => hok m (List.mem_cons_of_mem _ (List.mem_flatten.2 ⟨_, List.getElem_mem h4, hm⟩))
    have hhd : v.getD q default = headN xs[i] := by
     obtain ⟨n2, xs2, e2, -⟩ := At.of_fo hk hx2
     rw [e2] at hk ⊢
     exact (drop_head hk).1
    have hql := quoS_len (headN xs[i]).key
    have hsl := spell_len L xs[i] hx2 (by omega)
    have hyq : (ys ++ quoS (headN xs[i]).key).length = ys.length + (quoS (headN xs[i]).key).length := List.length_append
    have hyq1 : (ys ++ [44] ++ quoS (headN xs[i]).key).length = ys.length + 1 + (quoS (headN xs[i]).key).length := by rw [List.length_append, List.length_append]; rfl
    have hit : itemS L ((v.getD p default).kind = 7) xs[i] = quoS (headN xs[i]).key ++ [58] ++ spellX L xs[i] := by unfold itemS; rw [if_pos k7]
    have hy44 : (ys ++ [44]).length = ys.length + 1 := List.length_append
    rw [hit] at hjn
    by_cases hi0 : i = 0
    ·rw [if_pos hi0] at hjn
     repeat' (first | ((first | apply T.mv | apply T.asn); apply rfl; apply rfl) | (apply T.fieldAddrZ; apply rfl; apply rfl) | (apply T.load; apply rfl; apply rfl; infer_instance; apply rfl; apply rfl) | ((first | apply T.lss | apply T.gtr | apply T.eql); (iterate 3 apply rfl)) | (apply T.ixF; apply rfl; apply rfl; infer_instance; exact (fun _ => rfl); apply rfl; omega; omega; apply rfl) | (apply T.fieldAddrF; apply rfl; infer_instance; exact (fun _ => rfl); apply rfl; omega; apply rfl) | (apply T.loadF; apply rfl; apply rfl; infer_instance; exact (fun _ => rfl); apply rfl; exact getD_some (by omega); apply rfl; apply rfl) | (with_reducible first | refine Sr.nil ?_ | refine S.seq ?_ | refine S.block ?_ | refine S.reg ?_ | refine S.skip ?_) | (apply S.condQ; apply rfl; all_goals (intro _; try (exfalso; first | omega | with_reducible contradiction))) | fail)
     rw [hhd]
     refine T.call rfl rfl (quote_spec (BdOk.self b) (by omega)) ?_
     rintro _ _ ⟨na3, cp3, rfl, rfl⟩
     repeat' (first | (apply T.mv; apply rfl; apply rfl) | (with_reducible first | refine Sr.nil ?_ | refine S.reg ?_) | (with_reducible apply T.ofRet) | fail)
     refine T.call rfl rfl (writeByte_spec (x := 58) (BdOk.self b) (by omega)) ?_
     rintro _ _ ⟨na4, cp4, rfl, rfl⟩
     repeat' (first | (apply T.mv; apply rfl; apply rfl) | (with_reducible first | refine Sr.nil ?_ | refine S.reg ?_) | (with_reducible apply T.ofRet) | fail)
     refine T.call rfl rfl (IH (x := xs[i]) (by omega) rfl hl hx2 hok2 hk (BdOk.self b) (by rw [List.length_append, hyq]; show _ + _ + 1 + _ ≤ _; omega)) ?_
     rintro _ _ ⟨na5, cp5, rfl, rfl⟩
     repeat' (first | ((first | apply T.mv | apply T.asn); apply rfl; apply rfl) | (apply T.addI; apply rfl; apply rfl; omega; apply rfl) | (with_reducible first | refine Sr.nil ?_ | refine S.reg ?_ | refine S.inBlock ?_) | (with_reducible apply T.ofRet) | fail)
     exact ih _ _ _ _ ⟨i + 1, q + xs[i].length, _, _, ((ys ++ quoS (headN xs[i]).key) ++ [58]) ++ spellX L xs[i], rfl, rfl, ⟨h4, by omega, by rw [h5, hjn]; simp⟩, rfl⟩ (by omega) (by repeat' first | exact trivial | refine And.intro rfl ?_)
    ·rw [if_neg hi0] at hjn
     repeat' (first | ((first | apply T.mv | apply T.asn); apply rfl; apply rfl) | ((first | apply T.lss | apply T.gtr); (iterate 3 apply rfl)) | (with_reducible first | refine Sr.nil ?_ | refine S.seq ?_ | refine S.block ?_ | refine S.reg ?_ | refine S.skip ?_) | (apply S.condQ; apply rfl; all_goals (intro _; try (exfalso; first | omega | with_reducible contradiction))) | fail)
     refine T.call rfl rfl (writeByte_spec (x := 44) (BdOk.self b) (by omega)) ?_
     rintro _ _ ⟨na2, cp2, rfl, rfl⟩
     repeat' (first | (apply T.mv; apply rfl; apply rfl) | (apply T.fieldAddrZ; apply rfl; apply rfl) | (apply T.load; apply rfl; apply rfl; infer_instance; apply rfl; apply rfl) | (apply T.eql; (iterate 3 apply rfl)) | (apply T.ixF; apply rfl; apply rfl; infer_instance; exact (fun _ => rfl); apply rfl; omega; omega; apply rfl) | (apply T.fieldAddrF; apply rfl; infer_instance; exact (fun _ => rfl); apply rfl; omega; apply rfl) | (apply T.loadF; apply rfl; apply rfl; infer_instance; exact (fun _ => rfl); apply rfl; exact getD_some (by omega); apply rfl; apply rfl) | (with_reducible first | refine Sr.nil ?_ | refine S.seq ?_ | refine S.reg ?_) | (apply S.condQ; apply rfl; all_goals (intro _; try (exfalso; first | omega | with_reducible contradiction))) | (with_reducible apply T.ofRet) | fail)
     rw [hhd]
     refine T.call rfl rfl (quote_spec (BdOk.self b) (by omega)) ?_
     rintro _ _ ⟨na3, cp3, rfl, rfl⟩
     repeat' (first | (apply T.mv; apply rfl; apply rfl) | (with_reducible first | refine Sr.nil ?_ | refine S.reg ?_) | (with_reducible apply T.ofRet) | fail)
     refine T.call rfl rfl (writeByte_spec (x := 58) (BdOk.self b) (by omega)) ?_
     rintro _ _ ⟨na4, cp4, rfl, rfl⟩
     repeat' (first | (apply T.mv; apply rfl; apply rfl) | (with_reducible first | refine Sr.nil ?_ | refine S.reg ?_) | (with_reducible apply T.ofRet) | fail)
     refine T.call rfl rfl (IH (x := xs[i]) (by omega) rfl hl hx2 hok2 hk (BdOk.self b) (by rw [List.length_append, hyq1]; show _ + _ + 1 + _ ≤ _; omega)) ?_
     rintro _ _ ⟨na5, cp5, rfl, rfl⟩
     repeat' (first | ((first | apply T.mv | apply T.asn); apply rfl; apply rfl) | (apply T.addI; apply rfl; apply rfl; omega; apply rfl) | (with_reducible first | refine Sr.nil ?_ | refine S.reg ?_ | refine S.inBlock ?_) | (with_reducible apply T.ofRet) | fail)
     exact ih _ _ _ _ ⟨i + 1, q + xs[i].length, _, _, (((ys ++ [44]) ++ quoS (headN xs[i]).key) ++ [58]) ++ spellX L xs[i], rfl, rfl, ⟨h4, by omega, by rw [h5, hjn]; simp⟩, rfl⟩ (by omega) (by repeat' first | exact trivial | refine And.intro rfl ?_)
   ·obtain rfl : i = xs.length := by omega
    rw [List.take_length] at h3 h5
    repeat' (first | (refine T.sidx (i := 1) rfl rfl (by decide) rfl ?_) | (apply T.mv; apply rfl; apply rfl) | (apply T.lss; (iterate 3 apply rfl)) | (with_reducible first | refine Sr.nil ?_ | refine S.seq ?_ | refine S.reg ?_) | (apply S.exit; apply rfl) | (apply S.condQ; apply rfl; all_goals (intro _; try (exfalso; first | omega | with_reducible contradiction))) | fail)
    refine T.call rfl rfl (writeByte_spec (x := 125) (BdOk.self b) (by omega)) ?_
    rintro _ _ ⟨na2, cp2, rfl, rfl⟩
    repeat' (first | ((first | apply T.mv | apply T.asn); apply rfl; apply rfl) | (with_reducible first | refine Sr.nil ?_ | refine S.seq ?_ | refine S.reg ?_ | refine S.inBlock ?_) | (apply T.retW; apply rfl) | (with_reducible apply T.ofRet) | fail)
    have h12 : ys ++ [125] = bs ++ spellX (L + 1) ((v.getD p default) :: xs.flatten) := by rw [spellX_row ha.kids ha.fo k1 k2 k3 k4 k5, h5, if_pos k7, if_pos k7]; simp
    exact ⟨_, PSub.take pick_hd (PSub.take pick_hd (PSub.drop (PSub.refl _))), _, _, by rw [h3]; congr 3; omega, by rw [← h12]⟩
  ·skip
   repeat' (first | (refine T.sidx (i := 0) rfl rfl (by decide) rfl ?_) | ((first | apply T.mv | apply T.asn | apply T.fieldAddrZ); apply rfl; apply rfl) | (apply T.load; apply rfl; apply rfl; infer_instance; apply rfl; apply rfl) | (apply T.eql; (iterate 3 apply rfl)) | (apply T.addI; apply rfl; apply rfl; omega; apply rfl) | (apply T.ixF; apply rfl; apply rfl; infer_instance; exact (fun _ => rfl); apply rfl; omega; omega; apply rfl) | (apply T.loadFN; apply rfl; apply rfl; infer_instance; exact (fun _ => rfl); apply rfl; exact getD_some (by omega); apply rfl) | (apply T.storeW; apply rfl; apply rfl; infer_instance; (first | rfl | (simp only [List.length_append, List.length_map, List.length_set, List.length_replicate, List.length_cons, List.length_nil]; first | done | omega)); (first | rfl | (simp only [List.length_append, List.length_map, List.length_set, List.length_replicate, List.length_cons, List.length_nil]; first | done | omega)); (first | rfl | (repeat' first | apply all_nV | apply all_bV | apply all_iV | rfl | apply all_app))) | (apply T.alloc; apply rfl; intro nb) | (with_reducible first | refine Sr.nil ?_ | refine S.seq ?_ | refine S.block ?_ | refine S.reg ?_ | refine S.skip ?_) | (apply S.condQ; apply rfl; all_goals (intro _; try (exfalso; first | omega | with_reducible contradiction))) | fail)
   refine Sr.frontR na ?_
   refine Sr.front b ?_
   refine T.call rfl rfl (writeByte_spec (x := 91) hb (by omega)) ?_
   rintro _ _ ⟨na1, cp1, rfl, rfl⟩
   repeat' (first | ((first | apply T.mv | apply T.fieldAddrZ); apply rfl; apply rfl) | (apply T.load; apply rfl; apply rfl; infer_instance; apply rfl; apply rfl) | (with_reducible first | refine Sr.nil ?_ | refine S.seq ?_ | refine S.block ?_ | refine S.reg ?_) | (with_reducible apply T.ofRet) | fail)
   refine S.loopE 2 [0, 1, 7, 8, 26] (fun R b' μ H' e => ∃ (i q : Nat) (na : Option Addr) (cp : Nat) (ys : List UInt8), H' = bdB b (.pointer (some ⟨b, 0, none⟩)) na ys.length cp :: byR na cp ys :: R ∧ e = (2, .int .i64 q) :: (27, .int .i64 i) :: b' ∧
    (i ≤ xs.length ∧ q = p + 1 + (xs.take i).flatten.length ∧ ys = bs ++ 91 :: joinC ((xs.take i).map (itemS L ((v.getD p default).kind = 7)))) ∧ μ = xs.length - i) rfl rfl ?_ _ _ ⟨0, p + 1, na1, cp1, bs ++ [91], rfl, rfl, ⟨Nat.zero_le _, rfl, rfl⟩, rfl⟩ (by repeat' first | exact trivial | refine And.intro rfl ?_)
   rintro _ _ _ ⟨i, q, na, cp, ys, rfl, rfl, ⟨h1, h3, h5⟩, rfl⟩ ih
   have hjl := joinC_len (g := itemS L ((v.getD p default).kind = 7)) (xs := xs.take i) fun y hy => itemS_len (ha.fo _ (List.mem_of_mem_take hy)) (by have := flat_mem_len (List.mem_of_mem_take hy); omega)
   have hyl : ys.length = bs.length + 1 + (joinC ((xs.take i).map (itemS L ((v.getD p default).kind = 7)))).length := by rw [h5, List.length_append, List.length_cons]; omega
   have hwt := wL_take xs i
   by_cases h4 : i < xs.length
   ·have hk := ha.kid h4
    rw [← h3] at hk
    have hx2 := ha.fo _ (List.getElem_mem h4)
    have hq := drop_le hk hx2.pos
    have hxp := hx2.pos
    have ht := take_flat_succ h4
    have hjn := join_next (g := itemS L ((v.getD p default).kind = 7)) h4
    have hws := wL_split h4
    have hfl := flat_mem_len (List.getElem_mem h4)
    have hok2 : ∀ m ∈ xs[i], NdSh m := fun m hm => hok m (List.mem_cons_of_mem _ (List.mem_flatten.2 ⟨_, List.getElem_mem h4, hm⟩))
    have hhd : v.getD q default = headN xs[i] := by
     obtain ⟨n2, xs2, e2, -⟩ := At.of_fo hk hx2
     rw [e2] at hk ⊢
     exact (drop_head hk).1
    have hql := quoS_len (headN xs[i]).key
    have hsl := spell_len L xs[i] hx2 (by omega)
    have hyq : (ys ++ quoS (headN xs[i]).key).length = ys.length + (quoS (headN xs[i]).key).length := List.length_append
    have hyq1 : (ys ++ [44] ++ quoS (headN xs[i]).key).length = ys.length + 1 + (quoS (headN xs[i]).key).length := by rw [List.length_append, List.length_append]; rfl
    have hit : itemS L ((v.getD p default).kind = 7) xs[i] = spellX L xs[i] := by unfold itemS; rw [if_neg k7]; rfl
    have hy44 : (ys ++ [44]).length = ys.length + 1 := List.length_append
    rw [hit] at hjn
    by_cases hi0 : i = 0
    ·rw [if_pos hi0] at hjn
     repeat' (first | ((first | apply T.mv | apply T.asn | apply T.fieldAddrZ); apply rfl; apply rfl) | (apply T.load; apply rfl; apply rfl; infer_instance; apply rfl; apply rfl) | ((first | apply T.lss | apply T.gtr | apply T.eql); (iterate 3 apply rfl)) | (with_reducible first | refine Sr.nil ?_ | refine S.seq ?_ | refine S.block ?_ | refine S.reg ?_ | refine S.skip ?_) | (apply S.condQ; apply rfl; all_goals (intro _; try (exfalso; first | omega | with_reducible contradiction))) | fail)
     skip
     refine T.call rfl rfl (IH (x := xs[i]) (by omega) rfl hl hx2 hok2 hk (BdOk.self b) (by omega)) ?_
     rintro _ _ ⟨na5, cp5, rfl, rfl⟩
     repeat' (first | ((first | apply T.mv | apply T.asn); apply rfl; apply rfl) | (apply T.addI; apply rfl; apply rfl; omega; apply rfl) | (with_reducible first | refine Sr.nil ?_ | refine S.reg ?_ | refine S.inBlock ?_) | (with_reducible apply T.ofRet) | fail)
     exact ih _ _ _ _ ⟨i + 1, q + xs[i].length, _, _, ys ++ spellX L xs[i], rfl, rfl, ⟨h4, by omega, by rw [h5, hjn]; simp⟩, rfl⟩ (by omega) (by repeat' first | exact trivial | refine And.intro rfl ?_)
    ·rw [if_neg hi0] at hjn
     repeat' (first | ((first | apply T.mv | apply T.asn); apply rfl; apply rfl) | ((first | apply T.lss | apply T.gtr); (iterate 3 apply rfl)) | (with_reducible first | refine Sr.nil ?_ | refine S.seq ?_ | refine S.block ?_ | refine S.reg ?_ | refine S.skip ?_) | (apply S.condQ; apply rfl; all_goals (intro _; try (exfalso; first | omega | with_reducible contradiction))) | fail)
     refine T.call rfl rfl (writeByte_spec (x := 44) (BdOk.self b) (by omega)) ?_
     rintro _ _ ⟨na2, cp2, rfl, rfl⟩
     repeat' (first | ((first | apply T.mv | apply T.fieldAddrZ); apply rfl; apply rfl) | (apply T.load; apply rfl; apply rfl; infer_instance; apply rfl; apply rfl) | (apply T.eql; (iterate 3 apply rfl)) | (with_reducible first | refine Sr.nil ?_ | refine S.seq ?_ | refine S.reg ?_ | refine S.skip ?_) | (apply S.condQ; apply rfl; all_goals (intro _; try (exfalso; first | omega | with_reducible contradiction))) | (with_reducible apply T.ofRet) | fail)
     skip
     refine T.call rfl rfl (IH (x := xs[i]) (by omega) rfl hl hx2 hok2 hk (BdOk.self b) (by omega)) ?_
     rintro _ _ ⟨na5, cp5, rfl, rfl⟩
     repeat' (first | ((first | apply T.mv | apply T.asn); apply rfl; apply rfl) | (apply T.addI; apply rfl; apply rfl; omega; apply rfl) | (with_reducible first | refine Sr.nil ?_ | refine S.reg ?_ | refine S.inBlock ?_) | (with_reducible apply T.ofRet) | fail)
     exact ih _ _ _ _ ⟨i + 1, q + xs[i].length, _, _, (ys ++ [44]) ++ spellX L xs[i], rfl, rfl, ⟨h4, by omega, by rw [h5, hjn]; simp⟩, rfl⟩ (by omega) (by repeat' first | exact trivial | refine And.intro rfl ?_)
   ·obtain rfl : i = xs.length := by omega
    rw [List.take_length] at h3 h5
    repeat' (first | (refine T.sidx (i := 1) rfl rfl (by decide) rfl ?_) | (apply T.mv; apply rfl; apply rfl) | (apply T.lss; (iterate 3 apply rfl)) | (with_reducible first | refine Sr.nil ?_ | refine S.seq ?_ | refine S.reg ?_) | (apply S.exit; apply rfl) | (apply S.condQ; apply rfl; all_goals (intro _; try (exfalso; first | omega | with_reducible contradiction))) | fail)
    refine T.call rfl rfl (writeByte_spec (x := 93) (BdOk.self b) (by omega)) ?_
    rintro _ _ ⟨na2, cp2, rfl, rfl⟩
    repeat' (first | ((first | apply T.mv | apply T.asn); apply rfl; apply rfl) | (with_reducible first | refine Sr.nil ?_ | refine S.seq ?_ | refine S.reg ?_ | refine S.inBlock ?_) | (apply T.retW; apply rfl) | (with_reducible apply T.ofRet) | fail)
    have h12 : ys ++ [93] = bs ++ spellX (L + 1) ((v.getD p default) :: xs.flatten) := by rw [spellX_row ha.kids ha.fo k1 k2 k3 k4 k5, h5, if_neg k7, if_neg k7]; simp
    exact ⟨_, PSub.take pick_hd (PSub.take pick_hd (PSub.drop (PSub.refl _))), _, _, by rw [h3]; congr 3; omega, by rw [← h12]⟩
theorem print_spec (hT : Tabs F M) [Rd F M H oa (v.flatMap ndV)] (hn : v.length = n) (hl : n ≤ 1100000) (htx : ∀ x ∈ v, (x.kind = 4 → x.text.length ≤ 1100000) ∧ x.text.length ≤ 9223372036854775807 ∧ x.key.length ≤ 1100000 ∧ x.kids ≤ 9223372036854775807) (hw : wL v ≤ 50000000) :
  Meets Tryz.prog 37 [.slice oa n oc] F M H (fun e H' => e = .returned (.tuple ⟨[sV (printX Lib.validD v).1, .int .i64 (printX Lib.validD v).2]⟩) ∧ H' = H) := by
 subst hn
 refine Meets.enter Tryz.func37 rfl rfl ?_
 cases hs : shapedX Lib.validD v with
 | false =>
  have hp : printX Lib.validD v = ([], 31) := by unfold printX; rw [hs, if_neg (by simp)]
  rw [hp]
  repeat' (first | ((first | apply T.mv | apply T.asn); apply rfl; apply rfl) | (with_reducible first | refine Sr.nil ?_ | refine S.seq ?_ | refine S.reg ?_) | fail)
  refine T.call rfl rfl (shaped_spec (oa := oa) hT rfl hl htx) ?_
  rintro _ _ ⟨rfl, rfl⟩
  rw [hs]
  repeat' (first | (apply T.asn; apply rfl; apply rfl) | (apply T.notB; apply rfl; apply rfl) | (with_reducible first | refine Sr.nil ?_ | refine S.seq ?_ | refine S.reg ?_) | (apply S.condTV; apply rfl; (first | with_reducible rfl | decide)) | (apply T.retW; apply rfl) | (with_reducible apply T.ofRet) | fail)
  exact ⟨_, PSub.refl _, rfl, rfl⟩
 | true =>
  have hp : printX Lib.validD v = if 262144 < (spellX v.length v).length then ([], 10) else (spellX v.length v, 0) := by unfold printX; rw [hs, if_pos rfl]
  rw [hp]
  obtain ⟨hf, hok⟩ := shaped_fo hs
  have hsl := spell_len v.length v hf (Nat.le_refl _)
  have hps := spell_pos hs
  repeat' (first | ((first | apply T.mv | apply T.asn); apply rfl; apply rfl) | (with_reducible first | refine Sr.nil ?_ | refine S.seq ?_ | refine S.reg ?_) | fail)
  refine T.call rfl rfl (shaped_spec (oa := oa) hT rfl hl htx) ?_
  rintro _ _ ⟨rfl, rfl⟩
  rw [hs]
  repeat' (first | (apply T.mv; apply rfl; apply rfl) | (apply T.notB; apply rfl; apply rfl) | (apply T.alloc; apply rfl; intro nb) | (with_reducible first | refine Sr.nil ?_ | refine S.seq ?_ | refine S.reg ?_ | refine S.skip ?_) | (apply S.condFV; apply rfl; (first | with_reducible rfl | decide)) | (with_reducible apply T.ofRet) | fail)
  refine Sr.nilrow 5 1 ?_
  refine Sr.front nb ?_
  refine T.call rfl rfl (spelled_spec v.length (x := v) (r := []) (p := 0) (bs := []) (pv := .pointer none) (na := none) (cp := 0) (Nat.le_refl _) rfl hl hf hok (by simp) (.inl rfl) (by rw [List.length_nil]; omega)) ?_
  rintro _ _ ⟨na1, cp1, rfl, rfl⟩
  rw [List.nil_append]
  generalize spellX v.length v = tx at *
  repeat' (first | (with_reducible first | refine Sr.nil ?_ | refine S.seq ?_ | refine S.reg ?_) | (with_reducible apply T.ofRet) | fail)
  refine T.call rfl rfl bdLen_spec ?_
  rintro _ _ ⟨rfl, rfl⟩
  by_cases hL : 262144 < tx.length
  ·rw [if_pos hL]
   repeat' (first | (apply T.asn; apply rfl; apply rfl) | (apply T.gtr; (iterate 3 apply rfl)) | (with_reducible first | refine Sr.nil ?_ | refine S.seq ?_ | refine S.reg ?_) | (apply S.condQ; apply rfl; all_goals (intro _; try (exfalso; first | omega | with_reducible contradiction))) | (apply T.retW; apply rfl) | (with_reducible apply T.ofRet) | fail)
   exact ⟨_, PSub.drop (PSub.drop (PSub.refl _)), rfl, rfl⟩
  ·rw [if_neg hL]
   repeat' (first | (apply T.gtr; (iterate 3 apply rfl)) | (with_reducible first | refine Sr.nil ?_ | refine S.seq ?_ | refine S.reg ?_ | refine S.skip ?_) | (apply S.condQ; apply rfl; all_goals (intro _; try (exfalso; first | omega | with_reducible contradiction))) | (with_reducible apply T.ofRet) | fail)
   refine T.call rfl rfl (bdString_spec hps) ?_
   rintro _ _ ⟨rfl, rfl⟩
   repeat' (first | (apply T.asn; apply rfl; apply rfl) | with_reducible refine Sr.nil ?_ | (apply T.retW; apply rfl) | (with_reducible apply T.ofRet) | fail)
   exact ⟨_, PSub.refl _, rfl, rfl⟩
end
end Go.Proofs.YtjajcmedipjfhaaGreatDoor
/- The law's look at a payload that is known: a hidden member is revealed, and one that is not disclosed is gone. -/
namespace Go.Proofs.YtjajcmedipjfhaaGreatDoor
open Sg Go Go.RowKit Go.IntWalk
set_option maxRecDepth 100000
set_option maxHeartbeats 4000000
abbrev alB : List UInt8 := [91, 34, 115, 34, 44, 34, 97, 34, 44, 49, 93]
abbrev alD : List UInt8 := [87, 121, 74, 122, 73, 105, 119, 105, 89, 83, 73, 115, 77, 86, 48]
abbrev alG : List UInt8 := [66, 71, 84, 120, 121, 85, 101, 70, 99, 107, 66, 106, 52, 53, 119, 107, 118, 70, 104, 121, 116, 81, 122, 84, 69, 108, 78, 57, 56, 53, 113, 52, 56, 115, 53, 56, 57, 68, 108, 122, 90, 75, 119]
abbrev alT : List UInt8 := [123, 34, 98, 34, 58, 50, 44, 34, 95, 115, 100, 34, 58, 91, 34, 120, 34, 44, 34, 66, 71, 84, 120, 121, 85, 101, 70, 99, 107, 66, 106, 52, 53, 119, 107, 118, 70, 104, 121, 116, 81, 122, 84, 69, 108, 78, 57, 56, 53, 113, 52, 56, 115, 53, 56, 57, 68, 108, 122, 90, 75, 119, 34, 93, 125]
def alV : List Nd := [⟨7, [], [], false, 0, 2⟩, ⟨4, [98], [50], true, 2, 0⟩, ⟨6, sdN, [], false, 0, 2⟩, ⟨5, [], [120], false, 0, 0⟩, ⟨5, [], alG, false, 0, 0⟩]
def alO : List Nd := [⟨7, [], [], false, 0, 2⟩, ⟨4, [98], [50], true, 2, 0⟩, ⟨4, [97], [49], true, 1, 0⟩]
theorem al_enc : enc urlS alB = alD := by decide +kernel
theorem al_dig : digestOf alD = alG := by decide +kernel
theorem al_parse : parseX wholeX alT = .ok 65 alV := by kernel_rfl
theorem al_reveal : revealX Lib.validD readT alV [alD] = (0, alO) := by kernel_rfl
theorem al_print : printX Lib.validD alO = ([123, 34, 98, 34, 58, 50, 44, 34, 97, 34, 58, 49, 125], 0) := by kernel_rfl
theorem al_bound : AllB alV := by unfold AllB NdB alV; decide
theorem alive_spec {F : World} {M : List Nat} {H : List Res} (hT : Tabs F M) (hS : ShP F M) : Meets Tryz.prog 15 [] F M H (fun e H' => e = .returned (.bool true) ∧ H' = H) := by
 refine Meets.enter Tryz.func15 rfl rfl ?_
 repeat' (first | (apply T.asn; apply rfl; apply rfl) | (apply T.bs; (iterate 6 apply rfl); intro nb) | (with_reducible first | refine Sr.nil ?_ | refine S.seq ?_ | refine S.reg ?_) | fail)
 rw [show ([.int .u8 91, .int .u8 34, .int .u8 115, .int .u8 34, .int .u8 44, .int .u8 34, .int .u8 97, .int .u8 34, .int .u8 44, .int .u8 49, .int .u8 93] : List Value) = alB.map bV from rfl]
 refine T.convM (E' := 5) rfl rfl ?_
 have hp : Rd F M (.obj nb (.cells ⟨alB.map bV⟩ 5 ((alB.map bV).length, (alB.map bV).length + 1)) :: H) (some ⟨nb, 0, none⟩) (alB.map bV) := Rd.mrk
 refine T.call rfl rfl (encode_spec (bs := alB) (c := 11) hp (by decide) (by decide)) ?_
 rintro _ _ ⟨rfl, r, rfl⟩
 rw [al_enc]
 repeat' (first | ((first | apply T.mv | apply T.asn); apply rfl; apply rfl) | (with_reducible first | refine Sr.nil ?_ | refine S.seq ?_ | refine S.reg ?_) | (with_reducible apply T.ofRet) | fail)
 refine T.call rfl rfl (digest_spec (bs := alD) hS (by decide)) ?_
 rintro _ _ ⟨rfl, rfl⟩
 rw [al_dig]
 repeat' (first | (apply T.sadd; apply rfl; apply rfl; decide; apply rfl) | (with_reducible apply T.ofRet) | fail)
 refine T.call rfl rfl (parse_spec (t := alT) hT (by decide)) ?_
 rw [al_parse]
 rintro _ _ ⟨va, vc, rfl, rfl⟩
 repeat' (first | ((first | apply T.mv | apply T.asn); apply rfl; apply rfl) | (apply T.extract; (iterate 3 apply rfl)) | (apply T.bs; (iterate 6 apply rfl); intro nb) | (with_reducible first | refine Sr.nil ?_ | refine S.seq ?_ | refine S.reg ?_) | (with_reducible apply T.ofRet) | fail)
 rename_i nb'
 have hp2 : Rd F M (.blk nb [sV alD] 9 :: ouR va vc alV :: r :: .obj nb' (.cells ⟨alB.map bV⟩ 5 ((alB.map bV).length, (alB.map bV).length + 1)) :: H) (some ⟨nb, 0, none⟩) ([alD].map sV) := Rd.blk0
 refine T.call rfl rfl (reveal_spec (v := alV) (ts := [alD]) (va := va) (vc := vc) (tc := 1) hT hS Rd.tl hp2 al_bound (by unfold alV; decide) (by decide) (by decide)) ?_
 rw [al_reveal]
 rintro _ _ ⟨oa, oc, rfl, rfl⟩
 repeat' (first | ((first | apply T.mv | apply T.asn); apply rfl; apply rfl) | (apply T.extract; (iterate 3 apply rfl)) | (with_reducible first | refine Sr.nil ?_ | refine S.seq ?_ | refine S.reg ?_) | (with_reducible apply T.ofRet) | fail)
 refine T.call rfl rfl (print_spec (v := alO) hT rfl (by decide) (by unfold alO; decide) (by decide)) ?_
 rw [al_print]
 rintro _ _ ⟨rfl, rfl⟩
 repeat' (first | (apply T.seql; (iterate 3 apply rfl)) | ((first | apply T.mv | apply T.asn); apply rfl; apply rfl) | (apply T.eql; (iterate 3 apply rfl)) | (apply T.extract; (iterate 3 apply rfl)) | (apply T.pickT; (iterate 3 apply rfl)) | (with_reducible first | refine Sr.nil ?_ | refine S.seq ?_ | refine S.reg ?_) | (apply T.ungV; apply rfl; (first | with_reducible rfl | decide)) | (apply T.retW; apply rfl) | (with_reducible apply T.ofRet) | fail)
 exact ⟨H, PSub.drop (PSub.drop (PSub.drop (PSub.drop (PSub.drop (PSub.refl _))))), rfl, rfl⟩
end Go.Proofs.YtjajcmedipjfhaaGreatDoor
/- The law of SdPlain: walked. -/
namespace Sg
def plainB (v : List Nd) : Bool := v.all (fun n => decide (n.key ≠ sdN) && decide (n.key ≠ dotsN)) && decide ((headN v).kind = 7)
theorem plainB_iff {v : List Nd} : plainB v = true ↔ Bare v ∧ (headN v).kind = 7 := by
 simp [plainB, Bare]
end Sg
namespace Go.Proofs.YtjajcmedipjfhaaGreatDoor
open Sg Go Go.RowKit Go.IntWalk
set_option maxRecDepth 100000
set_option maxHeartbeats 4000000
section
variable {F : World} {M : List Nat} {H : List Res}
theorem plainL_spec {v : List Nd} {va : Option Addr} {vc : Nat} (hR : Rd F M H va (v.flatMap ndV)) (hl : v.length ≤ 1000000000000) :
  Meets Tryz.prog 16 [.slice va v.length vc] F M H (fun e H' => e = .returned (.bool (plainB v)) ∧ H' = H) := by
 refine Meets.enter Tryz.func16 rfl rfl ?_
 generalize hQ : plainB v = Q
 repeat' (first | (apply T.asn; apply rfl; apply rfl) | (with_reducible first | refine Sr.nil ?_ | refine S.seq ?_ | refine S.block ?_ | refine S.reg ?_) | fail)
 refine S.loopE 0 [0] (fun R b' μ H' e => ∃ i : Nat, H' = R ∧ e = (3, .int .i64 i) :: b' ∧ (i ≤ v.length ∧ ∀ j, j < i → (v.getD j default).key ≠ [95, 115, 100] ∧ (v.getD j default).key ≠ [46, 46, 46]) ∧ μ = v.length - i) rfl rfl ?_ _ _ ⟨0, rfl, rfl, ⟨Nat.zero_le _, fun j hj => by omega⟩, rfl⟩ (by repeat' first | exact trivial | refine And.intro rfl ?_)
 rintro _ _ _ ⟨i, rfl, rfl, ⟨h1, h2⟩, rfl⟩ ih
 by_cases h3 : i < v.length
 ·have bad : ¬ ((v.getD i default).key ≠ [95, 115, 100] ∧ (v.getD i default).key ≠ [46, 46, 46]) → Q = false := fun hb => by
   rw [← hQ, ← Bool.not_eq_true, plainB_iff]
   rintro ⟨p1, -⟩
   refine hb (p1 _ ?_)
   rw [List.getD_eq_getElem?_getD, List.getElem?_eq_getElem h3]
   exact List.getElem_mem h3
  by_cases k1 : (v.getD i default).key = [95, 115, 100]
  ·obtain rfl := bad (fun h => h.1 k1)
   repeat' (first | (apply T.seql; (iterate 3 apply rfl)) | ((first | apply T.mv | apply T.asn | apply T.len); apply rfl; apply rfl) | (apply T.lss; (iterate 3 apply rfl)) | (apply T.ixF; apply rfl; apply rfl; infer_instance; exact (fun _ => rfl); apply rfl; omega; omega; apply rfl) | (apply T.fieldAddrF; apply rfl; infer_instance; exact (fun _ => rfl); apply rfl; omega; apply rfl) | (apply T.loadF; apply rfl; apply rfl; infer_instance; exact (fun _ => rfl); apply rfl; exact getD_some (by omega); apply rfl; apply rfl) | (apply T.pickT; (iterate 3 apply rfl)) | (with_reducible first | refine Sr.nil ?_ | refine S.seq ?_ | refine S.block ?_ | refine S.reg ?_ | refine S.skip ?_) | (apply T.skip; apply rfl; (first | with_reducible rfl | decide); apply rfl) | (apply S.condTV; apply rfl; (first | with_reducible rfl | decide)) | (apply S.condQ; apply rfl; all_goals (intro _; try (exfalso; first | omega | with_reducible contradiction))) | (apply T.gcase; apply rfl; apply rfl; all_goals (intro _; try (exfalso; first | omega | with_reducible contradiction))) | (apply T.retW; apply rfl) | fail)
   exact ⟨_, PSub.refl _, rfl, rfl⟩
  ·by_cases k2 : (v.getD i default).key = [46, 46, 46]
   ·obtain rfl := bad (fun h => h.2 k2)
    repeat' (first | (apply T.seql; (iterate 3 apply rfl)) | ((first | apply T.mv | apply T.asn | apply T.len); apply rfl; apply rfl) | (apply T.lss; (iterate 3 apply rfl)) | (apply T.ixF; apply rfl; apply rfl; infer_instance; exact (fun _ => rfl); apply rfl; omega; omega; apply rfl) | (apply T.fieldAddrF; apply rfl; infer_instance; exact (fun _ => rfl); apply rfl; omega; apply rfl) | (apply T.loadF; apply rfl; apply rfl; infer_instance; exact (fun _ => rfl); apply rfl; exact getD_some (by omega); apply rfl; apply rfl) | (apply T.pickF; (iterate 3 apply rfl)) | (with_reducible first | refine Sr.nil ?_ | refine S.seq ?_ | refine S.block ?_ | refine S.reg ?_ | refine S.skip ?_) | (apply T.ungV; apply rfl; (first | with_reducible rfl | decide)) | (apply S.condQ; apply rfl; all_goals (intro _; try (exfalso; first | omega | with_reducible contradiction))) | (apply T.gcase; apply rfl; apply rfl; all_goals (intro _; try (exfalso; first | omega | with_reducible contradiction))) | (apply T.retW; apply rfl) | fail)
    exact ⟨_, PSub.refl _, rfl, rfl⟩
   ·repeat' (first | (apply T.seql; (iterate 3 apply rfl)) | ((first | apply T.mv | apply T.asn | apply T.len); apply rfl; apply rfl) | (apply T.lss; (iterate 3 apply rfl)) | (apply T.addI; apply rfl; apply rfl; omega; apply rfl) | (apply T.ixF; apply rfl; apply rfl; infer_instance; exact (fun _ => rfl); apply rfl; omega; omega; apply rfl) | (apply T.fieldAddrF; apply rfl; infer_instance; exact (fun _ => rfl); apply rfl; omega; apply rfl) | (apply T.loadF; apply rfl; apply rfl; infer_instance; exact (fun _ => rfl); apply rfl; exact getD_some (by omega); apply rfl; apply rfl) | (apply T.pickF; (iterate 3 apply rfl)) | (with_reducible first | refine Sr.nil ?_ | refine S.seq ?_ | refine S.block ?_ | refine S.reg ?_ | refine S.skip ?_ | refine S.inBlock ?_) | (apply T.ungV; apply rfl; (first | with_reducible rfl | decide)) | (apply S.condQ; apply rfl; all_goals (intro _; try (exfalso; first | omega | with_reducible contradiction))) | (apply T.gcase; apply rfl; apply rfl; all_goals (intro _; try (exfalso; first | omega | with_reducible contradiction))) | fail)
    exact ih _ _ _ _ ⟨i + 1, rfl, rfl, ⟨by omega, fun j hj => by
     rcases Nat.lt_succ_iff_lt_or_eq.1 hj with hj | rfl
     ·exact h2 j hj
     ·exact ⟨k1, k2⟩⟩, rfl⟩ (by omega) (by repeat' first | exact trivial | refine And.intro rfl ?_)
 ·obtain rfl : i = v.length := by omega
  have hb : Bare v := fun n hn => by
   obtain ⟨j, hj, rfl⟩ := List.mem_iff_getElem.1 hn
   have := h2 j hj
   rw [List.getD_eq_getElem?_getD, List.getElem?_eq_getElem hj] at this
   exact this
  clear ih
  by_cases h0 : 0 < v.length
  ·have e0 : headN v = v.getD 0 default := by
    cases v with
    | nil => exact absurd h0 (by simp)
    | cons n r => rfl
   by_cases k7 : (v.getD 0 default).kind = 7
   ·obtain rfl : Q = true := by
     rw [← hQ, plainB_iff]
     exact ⟨hb, by rw [e0]; exact k7⟩
    repeat' (first | ((first | apply T.mv | apply T.asn | apply T.len); apply rfl; apply rfl) | ((first | apply T.lss | apply T.gtr | apply T.eql); (iterate 3 apply rfl)) | (apply T.ixF; apply rfl; apply rfl; infer_instance; exact (fun _ => rfl); apply rfl; omega; omega; apply rfl) | (apply T.fieldAddrF; apply rfl; infer_instance; exact (fun _ => rfl); apply rfl; omega; apply rfl) | (apply T.loadF; apply rfl; apply rfl; infer_instance; exact (fun _ => rfl); apply rfl; exact getD_some (by omega); apply rfl; apply rfl) | (apply T.pickT; (iterate 3 apply rfl)) | (with_reducible first | refine Sr.nil ?_ | refine S.seq ?_ | refine S.reg ?_) | (apply S.exit; apply rfl) | (apply T.ungV; apply rfl; (first | with_reducible rfl | decide)) | (apply S.condQ; apply rfl; all_goals (intro _; try (exfalso; first | omega | with_reducible contradiction))) | (apply T.gcase; apply rfl; apply rfl; all_goals (intro _; try (exfalso; first | omega | with_reducible contradiction))) | (apply T.retW; apply rfl) | fail)
    exact ⟨_, PSub.refl _, by rw [decide_eq_true k7], rfl⟩
   ·obtain rfl : Q = false := by
     rw [← hQ, ← Bool.not_eq_true, plainB_iff]
     exact fun h => k7 (by rw [← e0]; exact h.2)
    repeat' (first | ((first | apply T.mv | apply T.asn | apply T.len); apply rfl; apply rfl) | ((first | apply T.lss | apply T.gtr | apply T.eql); (iterate 3 apply rfl)) | (apply T.ixF; apply rfl; apply rfl; infer_instance; exact (fun _ => rfl); apply rfl; omega; omega; apply rfl) | (apply T.fieldAddrF; apply rfl; infer_instance; exact (fun _ => rfl); apply rfl; omega; apply rfl) | (apply T.loadF; apply rfl; apply rfl; infer_instance; exact (fun _ => rfl); apply rfl; exact getD_some (by omega); apply rfl; apply rfl) | (apply T.pickT; (iterate 3 apply rfl)) | (with_reducible first | refine Sr.nil ?_ | refine S.seq ?_ | refine S.reg ?_) | (apply S.exit; apply rfl) | (apply T.ungV; apply rfl; (first | with_reducible rfl | decide)) | (apply S.condQ; apply rfl; all_goals (intro _; try (exfalso; first | omega | with_reducible contradiction))) | (apply T.gcase; apply rfl; apply rfl; all_goals (intro _; try (exfalso; first | omega | with_reducible contradiction))) | (apply T.retW; apply rfl) | fail)
    exact ⟨_, PSub.refl _, by rw [decide_eq_false k7], rfl⟩
  ·obtain rfl : Q = false := by
    rw [← hQ, ← Bool.not_eq_true, plainB_iff]
    obtain rfl : v = [] := List.eq_nil_of_length_eq_zero (by omega)
    rintro ⟨-, h⟩
    exact absurd h (by decide)
   repeat' (first | ((first | apply T.mv | apply T.asn | apply T.len); apply rfl; apply rfl) | ((first | apply T.lss | apply T.gtr); (iterate 3 apply rfl)) | (apply T.pickF; (iterate 3 apply rfl)) | (with_reducible first | refine Sr.nil ?_ | refine S.seq ?_ | refine S.reg ?_) | (apply S.exit; apply rfl) | (apply T.skip; apply rfl; (first | with_reducible rfl | decide); apply rfl) | (apply S.condQ; apply rfl; all_goals (intro _; try (exfalso; first | omega | with_reducible contradiction))) | (apply T.gcase; apply rfl; apply rfl; all_goals (intro _; try (exfalso; first | omega | with_reducible contradiction))) | (apply T.retW; apply rfl) | fail)
   exact ⟨_, PSub.refl _, rfl, rfl⟩
end
end Go.Proofs.YtjajcmedipjfhaaGreatDoor
/- The law of SdFresh: its writings. -/
namespace Sg
open Go Go.RowKit
section
variable {q : Mode} {c : Ctx} {ds : List Deferred} {H : List Res} {ops : Array Oper} {l : List Oper} {κ : List Res → Env → Prop} {dr : Bool} {e : Env} {ty : TypeId} {pos : String} {aft : Array Edge}
end
end Sg
namespace Go.Proofs.YtjajcmedipjfhaaGreatDoor
open Sg Go Go.RowKit Go.IntWalk
set_option maxRecDepth 100000
set_option maxHeartbeats 4000000
theorem allO_sz : ∀ {ts : List (List UInt8)} {L : List Said}, allO readT ts = some L → (∀ s ∈ L, Vl s.value) ∧ pend L [] ≤ (ts.map List.length).sum
 | [], L, h => by
  cases h
  exact ⟨fun s hs => (by cases hs), Nat.le_refl _⟩
 | t :: r, L, h => by
  unfold allO at h
  cases ht : readT t with
  | none => rw [ht] at h; cases h
  | some s =>
   rw [ht] at h
   cases hr : allO readT r with
   | none => rw [hr] at h; cases h
   | some L' =>
    rw [hr] at h
    cases h
    obtain ⟨h1, h2⟩ := allO_sz hr
    obtain ⟨-, h3, h4, -⟩ := readT_ok ht
    refine ⟨fun x hx => ?_, ?_⟩
    ·rcases List.mem_cons.1 hx with rfl | hx
     ·exact h4
     ·exact h1 x hx
    ·have e : pend (s :: L') [] = s.value.length + 1 + pend L' [] := by simp [pend]
     rw [e, List.map_cons, List.sum_cons]
     omega
section
variable {F : World} {H : List Res}
end
end Go.Proofs.YtjajcmedipjfhaaGreatDoor
/- Slices of nodes handed in, opened: their texts are no longer than what is read. -/
namespace Go.Proofs.YtjajcmedipjfhaaGreatDoor
open Sg Go Go.ChangeShapes Go.WideShapes Go.RowKit
set_option maxRecDepth 100000
def NdQ {H : Type} (n : Nd) (d : DataW H) : Prop := n.text.length + n.key.length + 1 ≤ Rows.uptoBulk d ∧ -9223372036854775808 ≤ n.kids ∧ n.kids ≤ 9223372036854775807
theorem cut_at {cs : List Value} {i : Nat} {v : Value} (h : (cs.drop i).take 1 = [v]) : cs[i]? = some v := by
 have := congrArg (fun l => l[0]?) h
 simpa [List.getElem?_take, List.getElem?_drop] using this
theorem nd_read {H : Type} {enc : TypeId × Value → H} {W : World} {fuel : Nat} {cs : List Value} {x : DataW H × List MemPlace} (h : DataW.trod enc Tryz.prog W 0 (fun _ => true) true fuel 34 cs = some x) : ∃ a : Nd, cs = ndV a ∧ NdQ a x.1 := by
 obtain ⟨xs, n, rfl, rfl, hl, hlen, hf⟩ := DataW.trod_struct Tryz.underlying34 h
 match xs, hlen with
 | [y0, y1, y2, y3, y4, y5], _ =>
  have h0 := hf 0 _ rfl
  have h1 := hf 1 _ rfl
  have h2 := hf 2 _ rfl
  have h3 := hf 3 _ rfl
  have h4 := hf 4 _ rfl
  have h5 := hf 5 _ rfl
  dsimp only [List.getElem?_cons_zero, List.getElem?_cons_succ] at h0 h1 h2 h3 h4 h5
  obtain ⟨z0, a0, b0, w0⟩ := DataW.trod_int Tryz.underlying32 h0
  obtain ⟨s1, a1, b1, -⟩ := DataW.trod_string Tryz.underlying9 h1
  obtain ⟨s2, a2, b2, -⟩ := DataW.trod_string Tryz.underlying9 h2
  obtain ⟨t3, a3, b3⟩ := DataW.trod_bool Tryz.underlying4 h3
  obtain ⟨z4, a4, b4, w4⟩ := DataW.trod_int Tryz.underlying2 h4
  obtain ⟨z5, a5, b5, w5⟩ := DataW.trod_int Tryz.underlying3 h5
  have c0 : Tryz.prog.cellsOf 32 = 1 := by kernel_rfl
  have c1 : Tryz.prog.cellsOf 9 = 1 := by kernel_rfl
  have c3 : Tryz.prog.cellsOf 4 = 1 := by kernel_rfl
  have c4 : Tryz.prog.cellsOf 2 = 1 := by kernel_rfl
  have c5 : Tryz.prog.cellsOf 3 = 1 := by kernel_rfl
  have c6 : Tryz.prog.cellsOf 34 = 6 := by kernel_rfl
  rw [c6] at hl
  have q0 : (cs.drop 0).take (Tryz.prog.cellsOf 32) = _ := a0
  rw [c0] at q0
  have q1 : (cs.drop 1).take (Tryz.prog.cellsOf 9) = _ := a1
  rw [c1] at q1
  have q2 : (cs.drop 2).take (Tryz.prog.cellsOf 9) = _ := a2
  rw [c1] at q2
  have q3 : (cs.drop 3).take (Tryz.prog.cellsOf 4) = _ := a3
  rw [c3] at q3
  have q4 : (cs.drop 4).take (Tryz.prog.cellsOf 2) = _ := a4
  rw [c4] at q4
  have q5 : (cs.drop 5).take (Tryz.prog.cellsOf 3) = _ := a5
  rw [c5] at q5
  have e0 := cut_at q0
  have e1 := cut_at q1
  have e2 := cut_at q2
  have e3 := cut_at q3
  have e4 := cut_at q4
  have e5 := cut_at q5
  refine ⟨⟨z0, s1.data.toList, s2.data.toList, t3, z4, z5⟩, ?_, ?_, ?_⟩
  ·match cs, hl with
   | [v0, v1, v2, v3, v4, v5], _ =>
    simp only [List.getElem?_cons_zero, List.getElem?_cons_succ, Option.some.injEq] at e0 e1 e2 e3 e4 e5
    subst e0 e1 e2 e3 e4 e5
    rfl
  ·show s2.data.toList.length + s1.data.toList.length + 1 ≤ _
   subst b0 b1 b2 b3 b4 b5
   simp only [List.map_cons, List.map_nil, Rows.uptoBulk, Rows.uptoBulkAll]
   omega
  ·show -9223372036854775808 ≤ z5 ∧ z5 ≤ 9223372036854775807
   simp only [Lit.wf, Bool.and_eq_true, decide_eq_true_eq] at w5
   exact w5
theorem bulk_mem {H : Type} {y : DataW H} : ∀ {l : List (DataW H)}, y ∈ l → Rows.uptoBulk y ≤ Rows.uptoBulkAll l
 | [], h => by cases h
 | d :: r, h => by
  rw [Rows.uptoBulkAll]
  rcases List.mem_cons.1 h with rfl | h
  ·omega
  ·have := bulk_mem h
   omega
theorem bulk_txt {H : Type} : ∀ ts : List (List UInt8), Rows.uptoBulkAll (ts.map fun s => (DataW.lit (.string s) : DataW H)) = (ts.map List.length).sum + ts.length
 | [] => rfl
 | s :: r => by
  rw [List.map_cons, Rows.uptoBulkAll, bulk_txt r, Rows.uptoBulk, List.map_cons, List.sum_cons, List.length_cons]
  omega
theorem open_two {H : Type} {enc : TypeId × Value → H} {W : World} {base : Nat} {v0 v1 : Value} {d0 d1 : DataW H} {p0 p1 : List MemPlace} (w0 : Value.okWide Tryz.prog W .any base 22 v0) (w1 : Value.okWide Tryz.prog W .any base 23 v1) (h0 : DataW.Trod enc Tryz.prog W 0 (fun _ => true) true 22 v0 d0 p0) (h1 : DataW.Trod enc Tryz.prog W 0 (fun _ => true) true 23 v1 d1 p1) (hk : Rows.uptoBulkAll [d0, d1] ≤ 1048576) :
  ∃ (va : Option Addr) (vc : Nat) (v : List Nd) (ta : Option Addr) (tc : Nat) (ts : List (List UInt8)), v0 = .slice va v.length vc ∧ v1 = .slice ta ts.length tc ∧ (∀ X, Rd W [] X va (v.flatMap ndV)) ∧ (∀ X, Rd W [] X ta (ts.map sV)) ∧ AllB v ∧ (∀ n ∈ v, -9223372036854775808 ≤ n.kids ∧ n.kids ≤ 9223372036854775807) ∧ v.length + (ts.map List.length).sum ≤ 1048576 ∧ ts.length ≤ 1048576 := by
 obtain ⟨va, vc, v, rfl, -, hd, hRv⟩ := open_slice_recsQ (g := ndV) (sz := 6) (Q := NdQ) (fun _ => rfl) (by decide) nd_read Tryz.underlying22 (by kernel_rfl) w0 h0
 obtain ⟨ta, tc, ts, rfl, hd2, hRt⟩ := open_slice_texts Tryz.underlying23 Tryz.underlying9 (by kernel_rfl) w1 h1
 simp only [Rows.uptoBulkAll] at hk
 have hb2 : (ts.map List.length).sum + ts.length ≤ Rows.uptoBulk d1 := by
  rcases hd2 with rfl | ⟨sp, rfl⟩
  ·exact Nat.zero_le _
  ·rw [Rows.uptoBulk, bulk_txt]
   omega
 have hb1 : v.length ≤ Rows.uptoBulk d0 ∧ ∀ n ∈ v, n.text.length + n.key.length ≤ Rows.uptoBulk d0 ∧ -9223372036854775808 ≤ n.kids ∧ n.kids ≤ 9223372036854775807 := by
  rcases hd with rfl | ⟨el, sp, rfl, e1, e2⟩
  ·exact ⟨Nat.zero_le _, fun n hn => by cases hn⟩
  ·have h3 := bulk_all el
   rw [Rows.uptoBulk]
   refine ⟨by omega, fun n hn => ?_⟩
   obtain ⟨i, hi, rfl⟩ := List.mem_iff_getElem.1 hn
   obtain ⟨y, h4, h5, h6⟩ := e2 i _ (List.getElem?_eq_getElem hi)
   have h7 := bulk_mem (List.mem_of_getElem? h4)
   exact ⟨by omega, h6⟩
 refine ⟨va, vc, v, ta, tc, ts, rfl, rfl, hRv, hRt, fun n hn => ?_, fun n hn => (hb1.2 n hn).2, by omega, by omega⟩
 have h8 := (hb1.2 n hn).1
 exact ⟨by omega, by omega⟩
end Go.Proofs.YtjajcmedipjfhaaGreatDoor
