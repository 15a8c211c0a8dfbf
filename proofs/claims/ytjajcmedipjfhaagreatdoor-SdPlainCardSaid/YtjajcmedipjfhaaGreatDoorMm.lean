/- Texts put together by a program: PlnC Law LawS SdT. -/
import Derived.Test.YtjajcmedipjfhaaGreatDoorMl
import Derived.Test.YtjajcmedipjfhaaGreatDoorRecs
import Derived.ProofKit
import Derived.Carry
import Derived.LaidMore
import Derived.OpenShut
import Derived.Stop.Joined
import Derived.SizedLaws
import Derived.Handed
import Derived.Shelf.Vars
import Derived.Test.YtjajcmedipjfhaaGreatDoorMj
import Derived.Test.YtjajcmedipjfhaaGreatDoorMe
import Derived.Test.YtjajcmedipjfhaaGreatDoorRows
import Derived.Lay
import Derived.ChangeMaps5
/- The law of SdPlain: walked, the whole of it. -/
namespace Go.Proofs.YtjajcmedipjfhaaGreatDoor
open Sg Go Go.RowKit Go.IntWalk
set_option maxRecDepth 100000
set_option maxHeartbeats 4000000
section
variable {F : World} {M : List Nat} {H : List Res}
theorem parse_bounds {t : List UInt8} {a : Nat} {v : List Nd} (h : parseX wholeX t = .ok a v) : v.length ≤ 262144 ∧ AllB v ∧ (∀ n ∈ v, n.kids ≤ 9223372036854775807) := by
 obtain ⟨h1, h2, h3⟩ := parse_sz h
 refine ⟨by omega, fun n hn => ⟨Nat.le_trans (h2 n hn).text (by omega), Nat.le_trans (h2 n hn).key (by omega)⟩, fun n hn => ?_⟩
 have := (parse_fo h).kids_le n hn
 omega
theorem plain_walk {t : List UInt8} (hT : Tabs F M) (hS : ShP F M) (ht : t.length ≤ maxLen) : Meets Tryz.prog 5 [sV t] F M H (fun e _ => e = .returned (.bool true)) := by
 refine Meets.enter Tryz.func5 rfl rfl ?_
 repeat' (first | (apply T.asn; apply rfl; apply rfl) | with_reducible refine Sr.nil ?_ | with_reducible refine S.seq ?_ | with_reducible refine S.reg ?_ | fail)
 refine T.call rfl rfl (alive_spec hT hS) ?_
 rintro _ _ ⟨rfl, rfl⟩
 repeat' (first | (apply T.mv; apply rfl; apply rfl) | (apply T.notB; apply rfl; apply rfl) | with_reducible refine Sr.nil ?_ | with_reducible refine S.seq ?_ | with_reducible refine S.reg ?_ | with_reducible refine S.skip ?_ | (apply S.condFV; apply rfl; (first | with_reducible rfl | decide)) | (with_reducible apply T.ofRet) | fail)
 refine T.call rfl rfl (parse_spec (t := t) hT ht) ?_
 cases hp : parseX wholeX t with
 | bad c b =>
  have hc := parse_code hp
  rintro _ _ ⟨rfl, rfl⟩
  repeat' (first | (apply T.mv; apply rfl; apply rfl) | (apply T.asn; apply rfl; apply rfl) | (apply T.neq; (iterate 3 apply rfl)) | (apply T.extract; (iterate 3 apply rfl)) | (apply T.pickT; (iterate 3 apply rfl)) | with_reducible refine Sr.nil ?_ | with_reducible refine S.seq ?_ | with_reducible refine S.reg ?_ | (apply T.skip; apply rfl; (first | with_reducible rfl | decide); apply rfl) | (apply S.condTV; apply rfl; (first | with_reducible rfl | decide)) | (apply T.gcase; apply rfl; apply rfl; all_goals (intro _; try (exfalso; first | omega | with_reducible contradiction))) | (apply T.retW; apply rfl) | (with_reducible apply T.ofRet) | fail)
  exact ⟨_, PSub.refl _, rfl⟩
 | ok a v =>
  rintro _ _ ⟨va, vc, rfl, rfl⟩
  obtain ⟨b1, b2, b3⟩ := parse_bounds hp
  repeat' (first | (apply T.mv; apply rfl; apply rfl) | (apply T.asn; apply rfl; apply rfl) | (apply T.neq; (iterate 3 apply rfl)) | (apply T.extract; (iterate 3 apply rfl)) | with_reducible refine Sr.nil ?_ | with_reducible refine S.seq ?_ | with_reducible refine S.reg ?_ | (apply T.ungV; apply rfl; (first | with_reducible rfl | decide)) | (with_reducible apply T.ofRet) | fail)
  refine T.call rfl rfl (plainL_spec (v := v) Rd.row (by omega)) ?_
  rintro _ _ ⟨rfl, rfl⟩
  cases hpl : plainB v with
  | false =>
   repeat' (first | (apply T.asn; apply rfl; apply rfl) | (apply T.notB; apply rfl; apply rfl) | (apply T.pickF; (iterate 3 apply rfl)) | with_reducible refine Sr.nil ?_ | with_reducible refine S.seq ?_ | with_reducible refine S.reg ?_ | (apply T.ungV; apply rfl; (first | with_reducible rfl | decide)) | (apply S.condTV; apply rfl; (first | with_reducible rfl | decide)) | (apply T.retW; apply rfl) | (with_reducible apply T.ofRet) | fail)
   exact ⟨_, PSub.refl _, rfl⟩
  | true =>
   obtain ⟨c1, c2⟩ := plainB_iff.1 hpl
   have ha := IsAt.of_fo (parse_fo hp)
   repeat' (first | (apply T.mv; apply rfl; apply rfl) | (apply T.notB; apply rfl; apply rfl) | (apply T.pickF; (iterate 3 apply rfl)) | with_reducible refine Sr.nil ?_ | with_reducible refine S.seq ?_ | with_reducible refine S.reg ?_ | with_reducible refine S.skip ?_ | (apply T.ungV; apply rfl; (first | with_reducible rfl | decide)) | (apply S.condFV; apply rfl; (first | with_reducible rfl | decide)) | (with_reducible apply T.ofRet) | fail)
   refine T.call rfl rfl (reveal_spec (v := v) (ts := []) (ta := none) (tc := 0) hT hS Rd.row ⟨fun w hw j u hu => by cases hu⟩ b2 b3 (by simp; omega) (by simp)) ?_
   have hlaw := plain_law (rd := readT) hp c2 c1
   generalize hX : revealX Lib.validD readT v [] = X at *
   rintro _ _ ⟨oa, oc, rfl, rfl⟩
   repeat' (first | (apply T.mv; apply rfl; apply rfl) | (apply T.asn; apply rfl; apply rfl) | (apply T.extract; (iterate 3 apply rfl)) | with_reducible refine Sr.nil ?_ | with_reducible refine S.seq ?_ | with_reducible refine S.reg ?_ | (with_reducible apply T.ofRet) | fail)
   refine T.call rfl rfl (memberI_spec (v := v) (key := algN) rfl (by omega) ha) ?_
   rintro _ _ ⟨rfl, rfl⟩
   rcases hlaw with ⟨e1, rfl⟩ | ⟨q, e1, e2, e3, e4⟩
   ·rw [e1]
    repeat' (first | (apply T.mv; apply rfl; apply rfl) | (apply T.asn; apply rfl; apply rfl) | (apply T.lss; (iterate 3 apply rfl)) | (apply T.eql; (iterate 3 apply rfl)) | with_reducible refine Sr.nil ?_ | with_reducible refine S.seq ?_ | with_reducible refine S.reg ?_ | (apply T.ungV; apply rfl; (first | with_reducible rfl | decide)) | (apply S.condTV; apply rfl; (first | with_reducible rfl | decide)) | (apply T.gcase; apply rfl; apply rfl; all_goals (intro _; try (exfalso; first | omega | with_reducible contradiction))) | (with_reducible apply T.ofRet) | fail)
    refine T.call rfl rfl (sameNodes_spec (a := v) (b := v) Rd.row (Rd.tl (h := Rd.row)) (by omega) (by omega)) ?_
    rintro _ _ ⟨rfl, rfl⟩
    rw [ndsEq_self]
    repeat' (first | (apply T.asn; apply rfl; apply rfl) | (apply T.pickT; (iterate 3 apply rfl)) | with_reducible refine Sr.nil ?_ | (apply T.retW; apply rfl) | (with_reducible apply T.ofRet) | fail)
    exact ⟨_, PSub.refl _, rfl⟩
   ·rw [e1]
    by_cases k5 : (v.getD q default).kind = 5
    ·by_cases kt : (v.getD q default).text = [115, 104, 97, 45, 50, 53, 54]
     ·rw [if_pos ⟨k5, kt⟩] at e4
      subst e4
      have hcl : (v.take q).length = q := by rw [List.length_take]; omega
      have hdl : (v.drop (q + 1)).length = v.length - (q + 1) := List.length_drop ..
      refine Sr.capR (ad := va) inferInstance (fun hcap => ?_)
      repeat' (first | (apply T.sneq; (iterate 3 apply rfl)) | (apply T.mv; apply rfl; apply rfl) | (apply T.asn; apply rfl; apply rfl) | (apply T.lss; (iterate 3 apply rfl)) | (apply T.neq; (iterate 3 apply rfl)) | (apply T.ixF; apply rfl; apply rfl; infer_instance; exact (fun _ => rfl); apply rfl; omega; omega; apply rfl) | (apply T.fieldAddrF; apply rfl; infer_instance; exact (fun _ => rfl); apply rfl; omega; apply rfl) | (apply T.loadF; apply rfl; apply rfl; infer_instance; exact (fun _ => rfl); apply rfl; exact getD_some (by omega); apply rfl; apply rfl) | (apply T.pickF; (iterate 3 apply rfl)) | (apply T.sliceHK; apply rfl; apply rfl; omega; apply rfl) | with_reducible refine Sr.nil ?_ | with_reducible refine S.seq ?_ | with_reducible refine S.reg ?_ | with_reducible refine S.skip ?_ | (apply T.ungV; apply rfl; (first | with_reducible rfl | decide)) | (apply S.condQ; apply rfl; all_goals (intro _; try (exfalso; first | omega | with_reducible contradiction))) | (apply T.gcase; apply rfl; apply rfl; all_goals (intro _; try (exfalso; first | omega | with_reducible contradiction))) | fail)
      have i1 : ∀ {X : List Res}, Rd F M (noR oa oc (dropAt v q) :: ouR va vc v :: X) va ((v.take q).flatMap ndV) := fun {X} => Rd.takeF (g := ndV) (sz := 6) (Rd.tl (h := Rd.row)) (fun _ => rfl) q
      have i2 := fun {X : List Res} => copied_spec (v := v.take q) (vc := vc) (i1 (X := X)) (by omega)
      rw [hcl] at i2
      refine T.call rfl rfl i2 ?_
      rintro _ _ ⟨wa, wc, rfl, rfl⟩
      unfold noR
      rw [hcl]
      repeat' (first | (apply Sr.same; refine T.appendAllF (g := ndV) (xs := v.take q) (us := v.drop (q + 1)) rfl rfl inferInstance (Rd.tl (h := Rd.tl (h := Rd.subF (g := ndV) (sz := 6) Rd.row (fun _ => rfl) hcap))) hdl (fun _ => rfl) (fun _ => rfl) rfl rfl (by constructor <;> omega) rfl ?_; intro wa' wc') | (apply T.mv; apply rfl; apply rfl) | (apply T.asn; apply rfl; apply rfl) | (apply T.addI; apply rfl; apply rfl; omega; apply rfl) | (apply T.sliceL; apply rfl; apply rfl; omega; apply rfl) | with_reducible refine Sr.nil ?_ | with_reducible refine S.seq ?_ | with_reducible refine S.reg ?_ | (with_reducible apply T.ofRet) | fail)
      obtain ⟨n0, r, hr⟩ : ∃ n0 r, v.take q ++ v.drop (q + 1) = n0 :: r := by
       cases hh : v.take q ++ v.drop (q + 1) with
       | nil =>
        have := congrArg List.length hh
        rw [List.length_append, hcl, List.length_nil] at this
        omega
       | cons n0 r => exact ⟨n0, r, rfl⟩
      have hn0 : n0 ∈ v := by
       have h0 : n0 ∈ v.take q ++ v.drop (q + 1) := by rw [hr]; exact List.mem_cons_self ..
       rcases List.mem_append.1 h0 with h0 | h0
       ·exact List.mem_of_mem_take h0
       ·exact List.mem_of_mem_drop h0
      have hk0 := (parse_fo hp).kids0 n0 hn0
      have hk1 := b3 n0 hn0
      have hlr : q + (v.length - ((q : Int) + 1).toNat) = (n0 :: r).length := by
       rw [← hr, List.length_append, hcl, hdl]
       omega
      have hd : dropAt v q = ⟨n0.kind, n0.key, n0.text, n0.whole, n0.int, n0.kids - 1⟩ :: r := by unfold dropAt; rw [hr]
      have hrl : r.length ≤ v.length := by
       have := congrArg List.length hr
       rw [List.length_append, hcl, hdl, List.length_cons] at this
       omega
      rw [hr, hlr, hd]
      have hlc : (n0 :: r).length = r.length + 1 := List.length_cons ..
      repeat' (first | (apply Sr.same; refine T.ixF (g := ndV) (sz := 6) (i := 0) (xs := n0 :: r) rfl rfl inferInstance (fun _ => rfl) rfl (by omega) (by omega) rfl ?_) | (apply Sr.same; refine T.loadF (g := ndV) (sz := 6) (i := 0) (f := 5) (xs := n0 :: r) (a := n0) rfl rfl inferInstance (fun _ => rfl) rfl rfl rfl rfl ?_) | (apply Sr.same; refine T.storeF (g := ndV) (xs := n0 :: r) ⟨n0.kind, n0.key, n0.text, n0.whole, n0.int, n0.kids - 1⟩ rfl rfl inferInstance (fun _ => rfl) rfl rfl rfl rfl ?_) | (apply T.mv; apply rfl; apply rfl) | (apply T.eql; (iterate 3 apply rfl)) | (apply T.subI; apply rfl; apply rfl; omega; apply rfl) | (apply T.fieldAddrF; apply rfl; infer_instance; exact (fun _ => rfl); apply rfl; omega; apply rfl) | with_reducible refine Sr.nil ?_ | with_reducible refine S.seq ?_ | with_reducible refine S.reg ?_ | (apply T.ungV; apply rfl; (first | with_reducible rfl | decide)) | (apply T.gcase; apply rfl; apply rfl; all_goals (intro _; try (exfalso; first | omega | with_reducible contradiction))) | fail)
      generalize hn1 : (⟨n0.kind, n0.key, n0.text, n0.whole, n0.int, n0.kids - 1⟩ : Nd) = n1
      rw [show (n0 :: r).set 0 n1 = n1 :: r from rfl, show (n0 :: r).length = (n1 :: r).length from rfl]
      have hl1 : (n1 :: r).length = r.length + 1 := List.length_cons ..
      refine T.call rfl rfl (sameNodes_spec (a := n1 :: r) (b := n1 :: r) (Rd.tl (h := Rd.row)) Rd.row (by omega) (by omega)) ?_
      rintro _ _ ⟨rfl, rfl⟩
      rw [ndsEq_self]
      repeat' (first | (apply T.asn; apply rfl; apply rfl) | (apply T.pickT; (iterate 3 apply rfl)) | with_reducible refine Sr.nil ?_ | (apply T.retW; apply rfl) | (with_reducible apply T.ofRet) | fail)
      exact ⟨_, PSub.refl _, rfl⟩
     ·rw [if_neg (fun h => kt h.2)] at e4
      subst e4
      repeat' (first | (apply T.sneq; (iterate 3 apply rfl)) | (apply T.mv; apply rfl; apply rfl) | (apply T.asn; apply rfl; apply rfl) | (apply T.len; apply rfl; apply rfl) | (apply T.lss; (iterate 3 apply rfl)) | (apply T.eql; (iterate 3 apply rfl)) | (apply T.neq; (iterate 3 apply rfl)) | (apply T.ixF; apply rfl; apply rfl; infer_instance; exact (fun _ => rfl); apply rfl; omega; omega; apply rfl) | (apply T.fieldAddrF; apply rfl; infer_instance; exact (fun _ => rfl); apply rfl; omega; apply rfl) | (apply T.loadF; apply rfl; apply rfl; infer_instance; exact (fun _ => rfl); apply rfl; exact getD_some (by omega); apply rfl; apply rfl) | (apply T.pickT; (iterate 3 apply rfl)) | (apply T.pickF; (iterate 3 apply rfl)) | with_reducible refine Sr.nil ?_ | with_reducible refine S.seq ?_ | with_reducible refine S.reg ?_ | with_reducible refine S.skip ?_ | (apply T.ungV; apply rfl; (first | with_reducible rfl | decide)) | (apply S.condQ; apply rfl; all_goals (intro _; try (exfalso; first | omega | with_reducible contradiction))) | (apply T.gcase; apply rfl; apply rfl; all_goals (intro _; try (exfalso; first | omega | with_reducible contradiction))) | (apply T.retW; apply rfl) | (with_reducible apply T.ofRet) | fail)
      exact ⟨_, PSub.refl _, rfl⟩
    ·rw [if_neg (fun h => k5 h.1)] at e4
     subst e4
     repeat' (first | (apply T.mv; apply rfl; apply rfl) | (apply T.asn; apply rfl; apply rfl) | (apply T.len; apply rfl; apply rfl) | (apply T.lss; (iterate 3 apply rfl)) | (apply T.eql; (iterate 3 apply rfl)) | (apply T.neq; (iterate 3 apply rfl)) | (apply T.ixF; apply rfl; apply rfl; infer_instance; exact (fun _ => rfl); apply rfl; omega; omega; apply rfl) | (apply T.fieldAddrF; apply rfl; infer_instance; exact (fun _ => rfl); apply rfl; omega; apply rfl) | (apply T.loadF; apply rfl; apply rfl; infer_instance; exact (fun _ => rfl); apply rfl; exact getD_some (by omega); apply rfl; apply rfl) | (apply T.pickT; (iterate 3 apply rfl)) | with_reducible refine Sr.nil ?_ | with_reducible refine S.seq ?_ | with_reducible refine S.reg ?_ | with_reducible refine S.skip ?_ | (apply T.ungV; apply rfl; (first | with_reducible rfl | decide)) | (apply T.skip; apply rfl; (first | with_reducible rfl | decide); apply rfl) | (apply S.condTV; apply rfl; (first | with_reducible rfl | decide)) | (apply S.condQ; apply rfl; all_goals (intro _; try (exfalso; first | omega | with_reducible contradiction))) | (apply T.gcase; apply rfl; apply rfl; all_goals (intro _; try (exfalso; first | omega | with_reducible contradiction))) | (apply T.retW; apply rfl) | (with_reducible apply T.ofRet) | fail)
     exact ⟨_, PSub.refl _, rfl⟩
end
end Go.Proofs.YtjajcmedipjfhaaGreatDoor
/- From a walk of a law to its row: the arguments opened, and read again behind the call; for every program. -/
namespace Sg
open Go Go.ChangeShapes Go.WideShapes Go.RowKit

theorem trodAll_below {H : Type} {enc : TypeId × Value → H} {P : Program} (hl : laidOutB P = true) {W W' : World} (hb : Below W.heap.size W W') : ∀ {ts : List TypeId} {vs : List Value} {ds : List (DataW H)} {ps : List MemPlace},
  ts.all (fun t => P.readableRec t && decide (t < P.types.size)) = true → DataW.TrodAll enc P W 0 (fun _ => true) true ts vs ds ps → (∀ x ∈ ps, x.block < W.heap.size) → DataW.TrodAll enc P W' 0 (fun b => decide (b < W.heap.size)) true ts vs ds ps
 | [], [], [], _, _, h, _ => h
 | t :: ts, v :: vs, d :: ds, ps, ht, h, hlt => by
  obtain ⟨p, q, h1, h2, rfl⟩ := h
  simp only [List.all_cons, Bool.and_eq_true, decide_eq_true_eq] at ht
  exact ⟨p, q, Below.trod hl ht.1.1 ht.1.2 h1 hb (fun x hx => hlt x (List.mem_append_left _ hx)), trodAll_below hl hb (by simpa using ht.2) h2 (fun x hx => hlt x (List.mem_append_right _ hx)), rfl⟩
 | [], _ :: _, _, _, _, h, _ => h.elim
 | [], [], _ :: _, _, _, h, _ => h.elim
 | _ :: _, [], _, _, _, h, _ => h.elim
 | _ :: _, _ :: _, [], _, _, h, _ => h.elim
theorem trodAll_len {H : Type} {enc : TypeId × Value → H} {P : Program} {W : World} {base : Nat} {sp : Nat → Bool} {held : Bool} : ∀ {ts : List TypeId} {vs : List Value} {ds : List (DataW H)} {ps : List MemPlace}, DataW.TrodAll enc P W base sp held ts vs ds ps → ds.length = ts.length
 | [], [], [], _, _ => rfl
 | t :: ts, v :: vs, d :: ds, ps, h => by
  obtain ⟨p, q, h1, h2, rfl⟩ := h
  rw [List.length_cons, List.length_cons, trodAll_len h2]
 | [], _ :: _, _, _, h => h.elim
 | [], [], _ :: _, _, h => h.elim
 | _ :: _, [], _, _, h => h.elim
 | _ :: _, _ :: _, [], _, h => h.elim
/- Arguments, opened. -/
theorem cell_lt {w : World} {a : Addr} {v : Value} (h : w.cell? a = some v) : a.block < w.heap.size := by
 rcases Nat.lt_or_ge a.block w.heap.size with h1 | h1
 ·exact h1
 ·simp [World.cell?, Array.getElem?_eq_none h1] at h
/-- Cells of the world at the beginning stay as long as nothing old may be written. -/
theorem Rd.ofF {F : World} {H : List Res} {ad : Option Addr} {vs : List Value} (h : ∀ j u, vs[j]? = some u → ∃ a, ad = some a ∧ F.cell? (a.add j) = some u) : Rd F [] H ad vs := ⟨fun w hw j u hu => by
 obtain ⟨a, ha, hc⟩ := h j u hu
 refine ⟨a, ha, ?_⟩
 have hlt := cell_lt hc
 have := hw.keep _ hlt (by simp)
 simp only [World.cell?] at hc ⊢
 rw [this]
 exact hc⟩
/- Listed arrays of numbers. -/
theorem laid_ints {P : Program} {W : World} {nm : String} {g T E n : Nat} {k : IntKind} {ns : List Int} {cs : Array Value} {fuel : Nat} {p : List MemPlace} {sp : Nat → Bool} (hg : P.globalNamed nm = some g) (hT : P.underlying T = some (.array n E)) (hE : P.underlying E = some (.int k)) (hc : P.cellsOf E = 1)
  (hv : W.var? P nm = some cs) (hd : DataW.trod (fun _ => ()) P W 0 sp false fuel T cs.toList = some (.agg (ns.map fun z => .lit (.int k z)), p)) : ∀ j z, ns[j]? = some z → W.cell? ⟨g, j, none⟩ = some (.int k z) := by
 intro j z hz
 obtain ⟨xs, m, rfl, hx, hlen, hn, hel⟩ := DataW.trod_array hT hd
 simp only [Prod.mk.injEq, DataW.agg.injEq] at hx
 have hj : j < ns.length := (List.getElem?_eq_some_iff.1 hz).1
 have hxl : xs.length = ns.length := by
  have := congrArg List.length hx.1
  simpa using this.symm
 have h1 := hel j (by omega)
 rw [hc, Nat.mul_one, List.getElem?_eq_getElem (by omega)] at h1
 obtain ⟨z', e1, e2, -⟩ := DataW.trod_int hE h1
 have h2 : (xs.map (·.1))[j]? = (ns.map fun z => (DataW.lit (.int k z) : DataW Unit))[j]? := by rw [hx.1]
 rw [List.getElem?_map, List.getElem?_map, hz, List.getElem?_eq_getElem (by omega), e2] at h2
 simp only [Option.map_some, Option.some.injEq, DataW.lit.injEq, Lit.int.injEq, true_and] at h2
 subst h2
 have h3 : cs[j]? = some (.int k z') := by
  have : (cs.toList.drop j).take 1 = [.int k z'] := e1
  have h4 : ((cs.toList.drop j).take 1)[0]? = some (.int k z') := by rw [this]; rfl
  rw [List.getElem?_take_of_lt (by omega), List.getElem?_drop] at h4
  simpa using h4
 rw [World.var?_cell hg hv j]
 exact h3
end Sg
/- From a walk of a law to its row, the world's shape handed on. -/
namespace Sg
open Go Go.ChangeShapes Go.WideShapes Go.RowKit
section
variable {H : Type} {enc : TypeId × Value → H}
theorem returns_shaped {a : Assume} {C : Checked} {os : Os} {f : FuncId} {fn : Func} {s : ChangeSpec} {conds : List PathCond} {apart fresh handsOn again : Bool} {X : World → Array Value → Prop}
  (hX : ∀ (w w' : World) (args : Array Value), w.heap = w'.heap → X w args → X w' args)
  (own : ownKnob C.prog.godebug = none) (started : os.Started) (noInit : C.prog.inits.idxOf? f = none) (hfn : C.prog.funcs[f]? = some fn)
  (witness : ∃ (w : World) (tape : Tape) (i : Input), w.os = os ∧ (w.forCall tape i).Shaped C.prog ∧ i.vars = [] ∧ Input.okWide C.prog (w.forCall tape i) .any w.heap.size f i ∧
   ((s.pre enc C.prog fn conds apart (w.forCall tape i).memory i.args ∧ X (w.forCall tape i).memory i.args) ∧ sizedMet enc C.prog fn (OpenSpec.ofChange s) apart (w.forCall tape i).memory i.args) ∧ a.holds C.prog (lone (Frame.enter C.prog f i.args .normal) [] (w.forCall tape i)))
  (contract : ∀ (W : World) (base : Nat) (args : Array Value) (ds gs : List (DataW H)) (before : List MemPlace),
   (∀ (j : Nat) t v, fn.params[j]? = some t → args[j]? = some v → Value.okWide C.prog W .any base t v) →
   DataW.Whole enc C.prog fn.params.toList s.vars apart W args.toList ds gs before →
   conds.all (PathCond.test C.prog ⟨fn.params.toList, ds, s.plain.varTypes C.prog, gs⟩) = true →
   (DataW.weightsEach C.prog (fn.params.toList ++ s.plain.varTypes C.prog) (ds ++ gs)).all (· ≤ reachBytes) = true → X W args → W.ShapedOpen C.prog →
   a.holds C.prog (lone (Frame.enter C.prog f args .normal) [] W) →
   Calls C.prog f args W fun e W' => ∃ v, e = .returned v ∧ s.post enc C.prog fn apart fresh handsOn again W args v W') :
  ReturnsInHanded a C os f .any (fun w args => (s.pre enc C.prog fn conds apart w args ∧ X w args) ∧ sizedMet enc C.prog fn (OpenSpec.ofChange s) apart w args) (s.post enc C.prog fn apart fresh handsOn again) := by
 refine returnsInHanded_of_calls own started noInit witness ?_
 intro w tape i _ hsh _ hok hpre hholds
 obtain ⟨_, _, _, fn', hfn', _, _, _, _, hval⟩ := hok
 have e : fn' = fn := Option.some.inj (hfn'.symm.trans hfn)
 subst e
 obtain ⟨⟨⟨ds, gs, before, hw, hc⟩, hx⟩, hz⟩ := hpre
 have hw' := DataW.Whole.of_heap (w' := w.forCall tape i) (by rfl) hw
 refine (contract (w.forCall tape i) w.heap.size i.args ds gs before hval hw' hc (hz.weights hw) (hX _ _ _ (by rfl) hx) hsh hholds).mono fun e W' ⟨v, he, hp⟩ => ?_
 subst he
 exact ChangeSpec.post_blind hp
end
/-- What a law's walk must show, where it asks for the world's shape. -/
def LawWalkS (P : Program) (f : FuncId) (fn : Func) (X : World → Prop) : Prop :=
 ∀ {H : Type} {enc : TypeId × Value → H} (W : World) (base : Nat) (args : Array Value) (ds : List (DataW H)) (p : List MemPlace), (∀ (j : Nat) t v, fn.params[j]? = some t → args[j]? = some v → Value.okWide P W .any base t v) →
  DataW.TrodAll enc P W 0 (fun _ => true) true fn.params.toList args.toList ds p → (DataW.weightsEach P fn.params.toList ds).all (· ≤ reachBytes) = true → X W → W.ShapedOpen P →
  Meets P f args.toList W [] [] (fun e _ => e = .returned (.bool true))
theorem law_lifted_shaped {C : Checked} {os : Os} {f : FuncId} {fn : Func} {s : ChangeSpec} {rt : TypeId} {X : World → Prop} {fresh handsOn : Bool} (H : Type) (enc : TypeId × Value → H) (hX : ∀ (w w' : World), w.heap = w'.heap → X w → X w') (own : ownKnob C.prog.godebug = none) (started : os.Started) (noInit : C.prog.inits.idxOf? f = none) (hfn : C.prog.funcs[f]? = some fn)
  (witness : ∃ (w : World) (tape : Tape) (i : Input), w.os = os ∧ (w.forCall tape i).Shaped C.prog ∧ i.vars = [] ∧ Input.okWide C.prog (w.forCall tape i) .any w.heap.size f i ∧
   ((s.pre enc C.prog fn [] false (w.forCall tape i).memory i.args ∧ X (w.forCall tape i).memory) ∧ sizedMet enc C.prog fn (OpenSpec.ofChange s) false (w.forCall tape i).memory i.args) ∧ ({} : Assume).holds C.prog (lone (Frame.enter C.prog f i.args .normal) [] (w.forCall tape i)))
  (hres : fn.resultTypes = #[rt]) (hrt : C.prog.underlying rt = some .bool) (hvars : s.vars = []) (hs : ∀ (H : Type) (ds : List (DataW H)), ds.length = fn.params.toList.length → s.fn H ds = { results := [.lit (.bool true)], args := ds })
  (hl : laidOutB C.prog = true) (hts : fn.params.toList.all (fun t => C.prog.readableRec t && decide (t < C.prog.types.size)) = true) (law : LawWalkS C.prog f fn X) :
  ReturnsInHanded {} C os f .any (fun w args => (s.pre enc C.prog fn [] false w args ∧ X w) ∧ sizedMet enc C.prog fn (OpenSpec.ofChange s) false w args) (s.post enc C.prog fn false fresh handsOn false) := by
 refine returns_shaped (X := fun w _ => X w) (fun w w' _ hh h => hX w w' hh h) own started noInit hfn witness ?_
 intro W base args ds gs before hval hW _ hz hx hsh _
 have hW' := hW
 obtain ⟨p, q, hA, hV, rfl, hfz, hnd⟩ := hW
 rw [hvars] at hV
 obtain ⟨rfl, rfl⟩ := trodVars_none hV
 have hvt : s.plain.varTypes C.prog = [] := by simp [DataSpec.varTypes, ChangeSpec.plain, hvars]
 rw [hvt, List.append_nil, List.append_nil] at hz
 have hlt : ∀ x ∈ p, x.block < W.heap.size := fun x hx => hW'.lt x (List.mem_append_left _ hx)
 have hlen := trodAll_len hA
 refine (law W base args ds p hval hA hz hx hsh W (St.refl W)).mono fun e W' ⟨H', he, hst⟩ => ?_
 subst he
 have hb : Below W.heap.size W W' := ⟨hst.os, hst.tape, hst.output, hst.size, fun k hk => hst.keep k hk (by simp)⟩
 refine ⟨_, rfl, ds, [], _, [], p, [], hW', ?_, ?_, ?_, Below.frame hb _, fun h => by cases h⟩
 ·rw [List.append_nil, hs H ds hlen, hres]
  exact trodAll_mk1 (shut_bool hrt true)
 ·rw [List.append_nil, hs H ds hlen]
  exact trodAll_below hl hb hts hA hlt
 ·rw [hvars, List.append_nil, hs H ds hlen]
  rfl
/-- A listed row of words, where it lies. -/
theorem laid_words {P : Program} {W : World} {nm : String} {g T E n : Nat} {ns : List UInt32} {cs : Array Value} {fuel : Nat} {p : List MemPlace} {sp : Nat → Bool} (hg : P.globalNamed nm = some g) (hT : P.underlying T = some (.array n E)) (hE : P.underlying E = some (.int .u32)) (hc : P.cellsOf E = 1)
  (hv : W.var? P nm = some cs) (hd : DataW.trod (fun _ => ()) P W 0 sp false fuel T cs.toList = some (.agg (ns.map fun z => .lit (.int .u32 (z.toNat : Int))), p)) (H : List Res) : Rd W [] H (some ⟨g, 0, none⟩) (ns.map fun z => .int .u32 ((z.toNat : Nat) : Int)) := by
 have hm : (ns.map fun z => (DataW.lit (.int .u32 (z.toNat : Int)) : DataW Unit)) = (ns.map fun z => (z.toNat : Int)).map fun z => .lit (.int .u32 z) := by rw [List.map_map]; rfl
 rw [hm] at hd
 have h1 := laid_ints (k := .u32) (ns := ns.map fun z => (z.toNat : Int)) hg hT hE hc hv hd
 refine .ofF fun j u hu => ⟨_, rfl, ?_⟩
 rw [addr_add, Nat.zero_add]
 rw [List.getElem?_map] at hu
 cases hn : ns[j]? with
 | none => rw [hn] at hu; cases hu
 | some z =>
  rw [hn] at hu
  simp only [Option.map_some, Option.some.injEq] at hu
  subst hu
  exact h1 j _ (by rw [List.getElem?_map, hn]; rfl)
theorem laid_find {P : Program} {W : World} {nm : String} {d : DataW Unit} : ∀ {l : List (String × DataW Unit)} {ps : List MemPlace}, DataW.LaidVars P W l ps → (nm, d) ∈ l →
  ∃ g t cs fuel p, P.globalNamed nm = some g ∧ (P.globals[g]?).map (·.type) = some t ∧ W.var? P nm = some cs ∧ DataW.trod (fun _ => ()) P W 0 (fun _ => true) false fuel t cs.toList = some (d, p)
 | [], _, _, hm => by cases hm
 | (n, e) :: r, ps, h, hm => by
  obtain ⟨g, t, cs, fuel, p, q, h1, h2, h3, h4, h5, -⟩ := h
  rcases List.mem_cons.1 hm with hm | hm
  ·simp only [Prod.mk.injEq] at hm
   obtain ⟨rfl, rfl⟩ := hm
   exact ⟨g, t, cs, fuel, p, h1, h2, h3, h4⟩
  ·exact laid_find h5 hm
/-- A listed row of words can be read. -/
theorem laid_rd {P : Program} {W : World} {nm : String} {d : DataW Unit} {l : List (String × DataW Unit)} {g T E n : Nat} {ns : List UInt32} (h : laidMet P l W) (hm : (nm, d) ∈ l) (hg : P.globalNamed nm = some g) (ht : (P.globals[g]?).map (·.type) = some T) (hT : P.underlying T = some (.array n E)) (hE : P.underlying E = some (.int .u32)) (hc : P.cellsOf E = 1)
  (hd : d = .agg (ns.map fun z => .lit (.int .u32 (z.toNat : Int)))) (H : List Res) : Rd W [] H (some ⟨g, 0, none⟩) (ns.map fun z => .int .u32 ((z.toNat : Nat) : Int)) := by
 obtain ⟨ps, hl, -, -⟩ := h
 obtain ⟨g', t', cs, fuel, p, h1, h2, h3, h4⟩ := laid_find hl hm
 obtain rfl := Option.some.inj (hg.symm.trans h1)
 obtain rfl := Option.some.inj (ht.symm.trans h2)
 subst hd
 exact laid_words hg hT hE hc h3 h4 H
end Sg
/- The tables that the laws' worlds hold, from what the cards list. -/
namespace Go.Proofs.YtjajcmedipjfhaaGreatDoor
open Sg Go Go.ChangeShapes Go.WideShapes Go.RowKit Go.Lib
set_option maxRecDepth 100000
theorem own : ownKnob Tryz.prog.godebug = none := by kernel_rfl
theorem laidOut : laidOutB Tryz.prog = true := by kernel_rfl
theorem n_first : Tryz.prog.globalNamed "unicode/utf8.first" = some 0 := by kernel_rfl
theorem n_acc : Tryz.prog.globalNamed "unicode/utf8.acceptRanges" = some 1 := by kernel_rfl
theorem c_u8 : Tryz.prog.cellsOf 5 = 1 := by kernel_rfl
theorem t_first : (Tryz.prog.globals[0]?).map (·.type) = some 120 := by kernel_rfl
theorem t_acc : (Tryz.prog.globals[1]?).map (·.type) = some 123 := by kernel_rfl
theorem first_nums : Rows.laid_unicode_utf8_first = .agg (((List.range 256).map fun c => ((firstT c : Nat) : Int)).map fun z => .lit (.int .u8 z)) := by kernel_rfl
theorem acc_pairs : (Rows.laid_unicode_utf8_acceptRanges : DataW Unit) = .agg ((List.range 16).map fun i => .agg [.lit (.int .u8 (accLo i : Nat)), .lit (.int .u8 (accHi i : Nat))]) := by kernel_rfl
/-- A listed row of pairs of bytes can be read. -/
theorem laid_pairs {P : Program} {W : World} {nm : String} {g T E f0 n : Nat} {ps : List (Int × Int)} {cs : Array Value} {fuel : Nat} {p : List MemPlace} {sp : Nat → Bool} {fa fb : Field} (hg : P.globalNamed nm = some g) (hT : P.underlying T = some (.array n E)) (hE : P.underlying E = some (.struct #[fa, fb])) (hc : P.cellsOf E = 2)
  (ha : fa.type = f0 ∧ fa.offset = 0) (hb : fb.type = f0 ∧ fb.offset = 1) (h0 : P.underlying f0 = some (.int .u8)) (hc0 : P.cellsOf f0 = 1)
  (hv : W.var? P nm = some cs) (hd : DataW.trod (fun _ => ()) P W 0 sp false fuel T cs.toList = some (.agg (ps.map fun z => .agg [.lit (.int .u8 z.1), .lit (.int .u8 z.2)]), p)) :
  ∀ j z, ps[j]? = some z → W.cell? ⟨g, 2 * j, none⟩ = some (.int .u8 z.1) ∧ W.cell? ⟨g, 2 * j + 1, none⟩ = some (.int .u8 z.2) := by
 intro j z hz
 obtain ⟨xs, m, rfl, hx, hlen, hn, hel⟩ := DataW.trod_array hT hd
 simp only [Prod.mk.injEq, DataW.agg.injEq] at hx
 have hj : j < ps.length := (List.getElem?_eq_some_iff.1 hz).1
 have hxl : xs.length = ps.length := by
  have := congrArg List.length hx.1
  simpa using this.symm
 have h1 := hel j (by omega)
 rw [hc, List.getElem?_eq_getElem (by omega)] at h1
 obtain ⟨y0, y1, m', e1, e2, e3, e4⟩ := Go.ChangeShapes.trod_struct2 hE h1
 rw [ha.1, ha.2, hc0, List.drop_zero] at e3
 rw [hb.1, hb.2, hc0] at e4
 obtain ⟨z0, k1, k2, -⟩ := DataW.trod_int h0 e3
 obtain ⟨z1, k3, k4, -⟩ := DataW.trod_int h0 e4
 have h2 : (xs.map (·.1))[j]? = (ps.map fun z => (DataW.agg [.lit (.int .u8 z.1), .lit (.int .u8 z.2)] : DataW Unit))[j]? := by rw [hx.1]
 rw [List.getElem?_map, List.getElem?_map, hz, List.getElem?_eq_getElem (by omega), e1] at h2
 simp only [Option.map_some, Option.some.injEq, DataW.agg.injEq, List.cons.injEq, and_true, k2, k4, DataW.lit.injEq, Lit.int.injEq, true_and] at h2
 obtain ⟨rfl, rfl⟩ := h2
 have q0 : cs[2 * j]? = some (.int .u8 z.1) := by
  have h4 : (((cs.toList.drop (j * 2)).take 2).take 1)[0]? = some (.int .u8 z.1) := by rw [k1]; rfl
  rw [List.getElem?_take_of_lt (by omega), List.getElem?_take_of_lt (by omega), List.getElem?_drop] at h4
  simpa [Nat.mul_comm] using h4
 have q1 : cs[2 * j + 1]? = some (.int .u8 z.2) := by
  have h4 : ((((cs.toList.drop (j * 2)).take 2).drop 1).take 1)[0]? = some (.int .u8 z.2) := by rw [k3]; rfl
  rw [List.getElem?_take_of_lt (by omega), List.getElem?_drop, List.getElem?_take_of_lt (by omega), List.getElem?_drop] at h4
  simpa [Nat.mul_comm, Nat.add_comm] using h4
 exact ⟨by rw [World.var?_cell hg hv]; exact q0, by rw [World.var?_cell hg hv]; exact q1⟩
theorem tabs_of {W : World} {ls : List (String × DataW Unit)} (h : laidMet Tryz.prog ls W) (m1 : ("unicode/utf8.first", Rows.laid_unicode_utf8_first) ∈ ls) (m2 : ("unicode/utf8.acceptRanges", Rows.laid_unicode_utf8_acceptRanges) ∈ ls) : Tabs W [] := by
 obtain ⟨ps, hl, -, -⟩ := h
 constructor
 ·intro H
  obtain ⟨g', t', cs, fuel, p, h1, h2, h3, h4⟩ := laid_find hl m1
  obtain rfl := Option.some.inj (n_first.symm.trans h1)
  obtain rfl := Option.some.inj (t_first.symm.trans h2)
  rw [first_nums] at h4
  have h5 := laid_ints (k := .u8) n_first Tryz.underlying120 Tryz.underlying5 c_u8 h3 h4
  refine .ofF fun j u hu => ⟨_, rfl, ?_⟩
  rw [addr_add, Nat.zero_add]
  unfold firstL at hu
  rw [List.getElem?_map] at hu
  cases hn : (List.range 256)[j]? with
  | none => rw [hn] at hu; cases hu
  | some c =>
   rw [hn] at hu
   simp only [Option.map_some, Option.some.injEq] at hu
   subst hu
   exact h5 j _ (by rw [List.getElem?_map, hn]; rfl)
 ·intro H
  obtain ⟨g', t', cs, fuel, p, h1, h2, h3, h4⟩ := laid_find hl m2
  obtain rfl := Option.some.inj (n_acc.symm.trans h1)
  obtain rfl := Option.some.inj (t_acc.symm.trans h2)
  rw [acc_pairs] at h4
  have hmm : ((List.range 16).map fun i => (DataW.agg [.lit (.int .u8 (accLo i : Nat)), .lit (.int .u8 (accHi i : Nat))] : DataW Unit)) = ((List.range 16).map fun i => (((accLo i : Nat) : Int), ((accHi i : Nat) : Int))).map fun z => .agg [.lit (.int .u8 z.1), .lit (.int .u8 z.2)] := by rw [List.map_map]; rfl
  rw [hmm] at h4
  have h5 := laid_pairs n_acc Tryz.underlying123 Tryz.underlying122 (by kernel_rfl) ⟨rfl, rfl⟩ ⟨rfl, rfl⟩ Tryz.underlying5 c_u8 h3 h4
  refine .ofF fun j u hu => ⟨_, rfl, ?_⟩
  rw [addr_add, Nat.zero_add]
  have hj : j < 32 := by
   have := (List.getElem?_eq_some_iff.1 hu).1
   have hlen : accL.length = 32 := by decide
   omega
  have h6 := acc_two ⟨j / 2, by omega⟩
  simp only at h6
  have h7 := h5 (j / 2) (((accLo (j / 2) : Nat) : Int), ((accHi (j / 2) : Nat) : Int)) (by rw [List.getElem?_map, List.getElem?_range (by omega)]; rfl)
  rcases Nat.mod_two_eq_zero_or_one j with hm | hm
  ·have h8 : accL[j]? = some (.int .u8 (accLo (j / 2) : Nat)) := by
    have := congrArg (fun l => l[0]?) h6
    rw [show j = j / 2 * 2 by omega]
    simpa [List.getElem?_take, List.getElem?_drop] using this
   rw [h8] at hu
   cases hu
   have := h7.1
   rwa [show 2 * (j / 2) = j by omega] at this
  ·have h8 : accL[j]? = some (.int .u8 (accHi (j / 2) : Nat)) := by
    have := congrArg (fun l => l[1]?) h6
    rw [show j = j / 2 * 2 + 1 by omega]
    simpa [List.getElem?_take, List.getElem?_drop, show (j / 2 * 2 + 1) / 2 = j / 2 by omega] using this
   rw [h8] at hu
   cases hu
   have := h7.2
   rwa [show 2 * (j / 2) + 1 = j by omega] at this
theorem n_k : Tryz.prog.globalNamed "signet/sha.k256" = some 11 := by kernel_rfl
theorem n_g : Tryz.prog.globalNamed "signet/sha.start256" = some 2 := by kernel_rfl
theorem c52 : Tryz.prog.cellsOf 155 = 1 := by kernel_rfl
theorem t_k : (Tryz.prog.globals[11]?).map (·.type) = some 197 := by kernel_rfl
theorem t_g : (Tryz.prog.globals[2]?).map (·.type) = some 156 := by kernel_rfl
theorem shp_of {W : World} {ls : List (String × DataW Unit)} (h : laidMet Tryz.prog ls W) (m1 : ("signet/sha.k256", Rows.laid_signet_sha_k256) ∈ ls) (m2 : ("signet/sha.start256", Rows.laid_signet_sha_start256) ∈ ls) : ShP W [] :=
 ⟨fun H => laid_rd h (nm := "signet/sha.k256") (d := Rows.laid_signet_sha_k256) m1 n_k t_k Tryz.underlying197 Tryz.underlying155 c52 (by kernel_rfl) H,
  fun H => laid_rd h (nm := "signet/sha.start256") (d := Rows.laid_signet_sha_start256) m2 n_g t_g Tryz.underlying156 Tryz.underlying155 c52 (by kernel_rfl) H⟩
end Go.Proofs.YtjajcmedipjfhaaGreatDoor
