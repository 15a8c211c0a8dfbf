/- Texts put together by a program: RefS GenB GenC GenD Law LawR LawU LawT Bulk LawS. -/
import Derived.Test.YtnimcchalinihaaDoorMg
import Derived.Test.YtnimcchalinihaaDoorMd
import Derived.Test.YtnimcchalinihaaDoorMc
import Derived.Test.YtnimcchalinihaaDoorMa
import Derived.Test.YtnimcchalinihaaDoorMe
import Derived.Test.YtnimcchalinihaaDoorRecs
import Derived.ProofKit
import Derived.Carry
import Derived.LaidMore
import Derived.OpenShut
import Derived.Stop.Joined
import Derived.SizedLaws
import Derived.DataReads
import Derived.Deep.DeepHandedRow
import Derived.LaidLaws
import Derived.Test.YtnimcchalinihaaDoorRows
import Derived.Handed
import Derived.Shelf.Vars
/- The walks of the document's printing of values. -/
namespace Go.Proofs.YtnimcchalinihaaDoor
open Sg Go.IntWalk
set_option maxRecDepth 100000
set_option maxHeartbeats 4000000
section
variable {F : World} {M : List Nat} {H : List Res} {v : List Nd} {oa : Option Addr} {oc n : Nat}
theorem refSpell_spec : ∀ (L : Nat) {x r : List Nd} {p : Nat} {H : List Res} [Rd F M H oa (v.flatMap ndV)], x.length ≤ L → v.length = n → n ≤ 1000000 → Fo 1 x → (∀ m ∈ x, NdSh m) → v.drop p = x ++ r → wL x ≤ 50000010 + 6 * (headN x).key.length →
    Meets Tryd.prog 40 [.slice oa n oc, .int .i64 p] F M H (fun e H' => e = .returned (sV (spellX L x)) ∧ H' = H) := by
  intro L
  induction L with
  | zero =>
    intro x r p H _ hL hn hl hx hok hd hw
    have := hx.pos
    omega
  | succ L IH =>
    intro x r p H _ hL hn hl hx hok hd hw
    subst hn
    refine Meets.enter Tryd.func40 rfl rfl ?_
    obtain ⟨nn, xs, rfl, ha⟩ := At.of_fo hd hx
    obtain ⟨g1, g2⟩ := drop_head ha.drop
    subst g1
    have g3 : (v.getD p default).kids = (xs.length : Int) := ha.kids
    have hxl : ((v.getD p default) :: xs.flatten).length = xs.flatten.length + 1 := rfl
    have hxs := (Fo.of ha.fo).le
    have hvl := drop_le hd hx.pos
    have hwx : wL ((v.getD p default) :: xs.flatten) = 6 * ((v.getD p default).text.length + (v.getD p default).key.length) + 20 + wL xs.flatten := rfl
    have hhk : headN ((v.getD p default) :: xs.flatten) = (v.getD p default) := rfl
    rw [hhk, hwx] at hw
    rw [hxl] at hL hvl
    have h0 : ¬ isRow (v.getD p default) → xs = [] := fun h => by
      have h9 := (hok _ (List.mem_cons_self ..)).2.2 h
      rw [g3] at h9
      exact List.eq_nil_of_length_eq_zero (by omega)
    obtain ⟨hkl, hku, -⟩ := hok _ (List.mem_cons_self ..)
    by_cases k1 : (v.getD p default).kind = 1
    · have hxs : xs = [] := h0 (by unfold isRow; omega)
      subst hxs
      have hsp : spellX (L + 1) ((v.getD p default) :: ([] : List (List Nd)).flatten) = [110, 117, 108, 108] := by rw [spellX, if_pos k1]
      repeat' (first | (apply T.mv; apply rfl; apply rfl) | (apply T.asn; apply rfl; apply rfl) | (apply T.fieldAddrZ; apply rfl; apply rfl) | (apply T.load; apply rfl; apply rfl; infer_instance; apply rfl; apply rfl) | (apply T.eql; apply rfl; apply rfl; apply rfl) | (apply T.ixF; apply rfl; apply rfl; infer_instance; exact (fun _ => rfl); apply rfl; omega; omega; apply rfl) | (apply T.loadFN; apply rfl; apply rfl; infer_instance; exact (fun _ => rfl); apply rfl; exact getD_some (by omega); apply rfl) | (apply T.storeW; apply rfl; apply rfl; infer_instance; (first | rfl | (simp only [List.length_append, List.length_map, List.length_set, List.length_replicate, List.length_cons, List.length_nil]; first | done | omega)); (first | rfl | (simp only [List.length_append, List.length_map, List.length_set, List.length_replicate, List.length_cons, List.length_nil]; first | done | omega)); (first | rfl | (repeat' first | apply all_nV | apply all_bV | apply all_iV | rfl | apply all_app))) | (apply T.alloc; apply rfl; intro nb) | with_reducible refine Sr.nil ?_ | with_reducible refine S.seq ?_ | with_reducible refine S.block ?_ | with_reducible refine S.reg ?_ | (apply S.condQ; apply rfl; all_goals (intro _; try (exfalso; first | omega | with_reducible contradiction))) | (apply T.retW; apply rfl) | fail)
      exact ⟨_, PSub.drop (PSub.refl _), by rw [hsp], rfl⟩
    by_cases k2 : (v.getD p default).kind = 2
    · have hxs : xs = [] := h0 (by unfold isRow; omega)
      subst hxs
      have hsp : spellX (L + 1) ((v.getD p default) :: ([] : List (List Nd)).flatten) = [102, 97, 108, 115, 101] := by rw [spellX, if_neg k1, if_pos k2]
      repeat' (first | (apply T.mv; apply rfl; apply rfl) | (apply T.asn; apply rfl; apply rfl) | (apply T.fieldAddrZ; apply rfl; apply rfl) | (apply T.load; apply rfl; apply rfl; infer_instance; apply rfl; apply rfl) | (apply T.eql; apply rfl; apply rfl; apply rfl) | (apply T.ixF; apply rfl; apply rfl; infer_instance; exact (fun _ => rfl); apply rfl; omega; omega; apply rfl) | (apply T.loadFN; apply rfl; apply rfl; infer_instance; exact (fun _ => rfl); apply rfl; exact getD_some (by omega); apply rfl) | (apply T.storeW; apply rfl; apply rfl; infer_instance; (first | rfl | (simp only [List.length_append, List.length_map, List.length_set, List.length_replicate, List.length_cons, List.length_nil]; first | done | omega)); (first | rfl | (simp only [List.length_append, List.length_map, List.length_set, List.length_replicate, List.length_cons, List.length_nil]; first | done | omega)); (first | rfl | (repeat' first | apply all_nV | apply all_bV | apply all_iV | rfl | apply all_app))) | (apply T.alloc; apply rfl; intro nb) | with_reducible refine Sr.nil ?_ | with_reducible refine S.seq ?_ | with_reducible refine S.block ?_ | with_reducible refine S.reg ?_ | (apply S.condQ; apply rfl; all_goals (intro _; try (exfalso; first | omega | with_reducible contradiction))) | (apply T.retW; apply rfl) | fail)
      exact ⟨_, PSub.drop (PSub.refl _), by rw [hsp], rfl⟩
    by_cases k3 : (v.getD p default).kind = 3
    · have hxs : xs = [] := h0 (by unfold isRow; omega)
      subst hxs
      have hsp : spellX (L + 1) ((v.getD p default) :: ([] : List (List Nd)).flatten) = [116, 114, 117, 101] := by rw [spellX, if_neg k1, if_neg k2, if_pos k3]
      repeat' (first | (apply T.mv; apply rfl; apply rfl) | (apply T.asn; apply rfl; apply rfl) | (apply T.fieldAddrZ; apply rfl; apply rfl) | (apply T.load; apply rfl; apply rfl; infer_instance; apply rfl; apply rfl) | (apply T.eql; apply rfl; apply rfl; apply rfl) | (apply T.ixF; apply rfl; apply rfl; infer_instance; exact (fun _ => rfl); apply rfl; omega; omega; apply rfl) | (apply T.loadFN; apply rfl; apply rfl; infer_instance; exact (fun _ => rfl); apply rfl; exact getD_some (by omega); apply rfl) | (apply T.storeW; apply rfl; apply rfl; infer_instance; (first | rfl | (simp only [List.length_append, List.length_map, List.length_set, List.length_replicate, List.length_cons, List.length_nil]; first | done | omega)); (first | rfl | (simp only [List.length_append, List.length_map, List.length_set, List.length_replicate, List.length_cons, List.length_nil]; first | done | omega)); (first | rfl | (repeat' first | apply all_nV | apply all_bV | apply all_iV | rfl | apply all_app))) | (apply T.alloc; apply rfl; intro nb) | with_reducible refine Sr.nil ?_ | with_reducible refine S.seq ?_ | with_reducible refine S.block ?_ | with_reducible refine S.reg ?_ | (apply S.condQ; apply rfl; all_goals (intro _; try (exfalso; first | omega | with_reducible contradiction))) | (apply T.retW; apply rfl) | fail)
      exact ⟨_, PSub.drop (PSub.refl _), by rw [hsp], rfl⟩
    by_cases k4 : (v.getD p default).kind = 4
    · have hxs : xs = [] := h0 (by unfold isRow; omega)
      subst hxs
      have hsp : spellX (L + 1) ((v.getD p default) :: ([] : List (List Nd)).flatten) = (v.getD p default).text := by rw [spellX, if_neg k1, if_neg k2, if_neg k3, if_pos k4]
      repeat' (first | (apply T.mv; apply rfl; apply rfl) | (apply T.asn; apply rfl; apply rfl) | (apply T.fieldAddrZ; apply rfl; apply rfl) | (apply T.load; apply rfl; apply rfl; infer_instance; apply rfl; apply rfl) | (apply T.eql; apply rfl; apply rfl; apply rfl) | (apply T.ixF; apply rfl; apply rfl; infer_instance; exact (fun _ => rfl); apply rfl; omega; omega; apply rfl) | (apply T.loadFN; apply rfl; apply rfl; infer_instance; exact (fun _ => rfl); apply rfl; exact getD_some (by omega); apply rfl) | (apply T.storeW; apply rfl; apply rfl; infer_instance; (first | rfl | (simp only [List.length_append, List.length_map, List.length_set, List.length_replicate, List.length_cons, List.length_nil]; first | done | omega)); (first | rfl | (simp only [List.length_append, List.length_map, List.length_set, List.length_replicate, List.length_cons, List.length_nil]; first | done | omega)); (first | rfl | (repeat' first | apply all_nV | apply all_bV | apply all_iV | rfl | apply all_app))) | (apply T.alloc; apply rfl; intro nb) | with_reducible refine Sr.nil ?_ | with_reducible refine S.seq ?_ | with_reducible refine S.block ?_ | with_reducible refine S.reg ?_ | (apply S.condQ; apply rfl; all_goals (intro _; try (exfalso; first | omega | with_reducible contradiction))) | (apply T.retW; apply rfl) | fail)
      exact ⟨_, PSub.drop (PSub.refl _), by rw [hsp], rfl⟩
    by_cases k5 : (v.getD p default).kind = 5
    · have hxs : xs = [] := h0 (by unfold isRow; omega)
      subst hxs
      have hsp : spellX (L + 1) ((v.getD p default) :: ([] : List (List Nd)).flatten) = quoS (v.getD p default).text := by rw [spellX, if_neg k1, if_neg k2, if_neg k3, if_neg k4, if_pos k5]
      repeat' (first | (apply T.mv; apply rfl; apply rfl) | (apply T.asn; apply rfl; apply rfl) | (apply T.fieldAddrZ; apply rfl; apply rfl) | (apply T.load; apply rfl; apply rfl; infer_instance; apply rfl; apply rfl) | (apply T.eql; apply rfl; apply rfl; apply rfl) | (apply T.ixF; apply rfl; apply rfl; infer_instance; exact (fun _ => rfl); apply rfl; omega; omega; apply rfl) | (apply T.loadFN; apply rfl; apply rfl; infer_instance; exact (fun _ => rfl); apply rfl; exact getD_some (by omega); apply rfl) | (apply T.storeW; apply rfl; apply rfl; infer_instance; (first | rfl | (simp only [List.length_append, List.length_map, List.length_set, List.length_replicate, List.length_cons, List.length_nil]; first | done | omega)); (first | rfl | (simp only [List.length_append, List.length_map, List.length_set, List.length_replicate, List.length_cons, List.length_nil]; first | done | omega)); (first | rfl | (repeat' first | apply all_nV | apply all_bV | apply all_iV | rfl | apply all_app))) | (apply T.alloc; apply rfl; intro nb) | with_reducible refine Sr.nil ?_ | with_reducible refine S.seq ?_ | with_reducible refine S.block ?_ | with_reducible refine S.reg ?_ | (apply S.condQ; apply rfl; all_goals (intro _; try (exfalso; first | omega | with_reducible contradiction))) | fail)
      refine T.call rfl rfl (refQuoted_spec (by omega)) ?_
      rintro _ _ ⟨rfl, hH⟩
      have hH2 := hH.symm
      subst hH2
      repeat' (first | (apply T.asn; apply rfl; apply rfl) | with_reducible refine Sr.nil ?_ | (apply T.retW; apply rfl) | (with_reducible apply T.ofRet) | fail)
      exact ⟨_, PSub.drop (PSub.refl _), by rw [hsp], rfl⟩
    by_cases k7 : (v.getD p default).kind = 7
    · skip
      repeat' (first | (apply T.mv; apply rfl; apply rfl) | (apply T.asn; apply rfl; apply rfl) | (apply T.fieldAddrZ; apply rfl; apply rfl) | (apply T.load; apply rfl; apply rfl; infer_instance; apply rfl; apply rfl) | (apply T.eql; apply rfl; apply rfl; apply rfl) | (apply T.ixF; apply rfl; apply rfl; infer_instance; exact (fun _ => rfl); apply rfl; omega; omega; apply rfl) | (apply T.loadFN; apply rfl; apply rfl; infer_instance; exact (fun _ => rfl); apply rfl; exact getD_some (by omega); apply rfl) | (apply T.storeW; apply rfl; apply rfl; infer_instance; (first | rfl | (simp only [List.length_append, List.length_map, List.length_set, List.length_replicate, List.length_cons, List.length_nil]; first | done | omega)); (first | rfl | (simp only [List.length_append, List.length_map, List.length_set, List.length_replicate, List.length_cons, List.length_nil]; first | done | omega)); (first | rfl | (repeat' first | apply all_nV | apply all_bV | apply all_iV | rfl | apply all_app))) | (apply T.alloc; apply rfl; intro nb) | with_reducible refine Sr.nil ?_ | with_reducible refine S.seq ?_ | with_reducible refine S.block ?_ | with_reducible refine S.reg ?_ | with_reducible refine S.skip ?_ | with_reducible refine S.inBlock ?_ | (apply S.condQ; apply rfl; all_goals (intro _; try (exfalso; first | omega | with_reducible contradiction))) | fail)
      refine T.call rfl rfl (refKids_spec rfl hl ha) ?_
      rintro _ _ ⟨ka, kc, rfl, rfl⟩
      have hlen := offs_len (p + 1) xs
      repeat' (first | (apply T.asn; apply rfl; apply rfl) | with_reducible refine Sr.nil ?_ | with_reducible refine S.seq ?_ | with_reducible refine S.block ?_ | with_reducible refine S.reg ?_ | (with_reducible apply T.ofRet) | fail)
      refine S.loopE 0 [0, 5, 7] (fun R b' μ H' e => ∃ (i : Nat) (j : List UInt8), H' = R ∧ e = (6, sV j) :: (8, .int .i64 i) :: b' ∧ (i ≤ xs.length ∧ joinC ((xs.take i).map (itemS L ((v.getD p default).kind = 7))) = j) ∧ μ = xs.length - i) rfl rfl ?_ _ _ ⟨0, [], rfl, rfl, ⟨Nat.zero_le _, rfl⟩, rfl⟩ (by repeat' first | exact trivial | refine And.intro rfl ?_)
      rintro _ _ _ ⟨i, j, hR1, rfl, ⟨h1, h5⟩, rfl⟩ ih
      have hR2 := hR1.symm
      subst hR2
      have hjl := joinC_len (g := itemS L ((v.getD p default).kind = 7)) (xs := xs.take i) fun y hy => itemS_len (ha.fo _ (List.mem_of_mem_take hy)) (by have := flat_mem_len (List.mem_of_mem_take hy); omega)
      have hwt := wL_take xs i
      rw [h5] at hjl
      by_cases h4 : i < xs.length
      · have hk := ha.kid h4
        have hx2 := ha.fo _ (List.getElem_mem h4)
        have hq := drop_le hk hx2.pos
        have hxp := hx2.pos
        have ht := take_flat_succ h4
        have ho := offs_get (p := p + 1) h4
        have hjn := join_next (g := itemS L ((v.getD p default).kind = 7)) h4
        have hws := wL_split h4
        have hfl := flat_mem_len (List.getElem_mem h4)
        have hok2 : ∀ m ∈ xs[i], NdSh m := fun m hm => hok m (List.mem_cons_of_mem _ (List.mem_flatten.2 ⟨_, List.getElem_mem h4, hm⟩))
        generalize hqq : p + 1 + (xs.take i).flatten.length = q at *
        have hhd : v.getD q default = headN xs[i] := by
          obtain ⟨n2, xs2, e2, -⟩ := At.of_fo hk hx2
          rw [e2] at hk ⊢
          exact (drop_head hk).1
        have hsl := spell_len L xs[i] hx2 (by omega)
        have hql := quoS_len (headN xs[i]).key
        have hit : itemS L ((v.getD p default).kind = 7) xs[i] = quoS (headN xs[i]).key ++ [58] ++ spellX L xs[i] := by unfold itemS; rw [if_pos k7]
        rw [hit] at hjn
        by_cases hi0 : i = 0
        · rw [if_pos hi0] at hjn
          repeat' (first | (apply T.loadNat; apply rfl; infer_instance; omega; apply rfl; rw [ho]) | (apply T.mv; apply rfl; apply rfl) | (apply T.len; apply rfl; apply rfl) | (apply T.fieldAddrZ; apply rfl; apply rfl) | (apply T.load; apply rfl; apply rfl; infer_instance; apply rfl; apply rfl) | (apply T.lss; apply rfl; apply rfl; apply rfl) | (apply T.gtr; apply rfl; apply rfl; apply rfl) | (apply T.eql; apply rfl; apply rfl; apply rfl) | (apply T.ixN; apply rfl; apply rfl; infer_instance; omega; (first | omega | (simp only [List.length_map]; omega) | (simp; omega)); apply rfl) | (apply T.ixF; apply rfl; apply rfl; infer_instance; exact (fun _ => rfl); apply rfl; omega; omega; apply rfl) | (apply T.fieldAddrF; apply rfl; infer_instance; exact (fun _ => rfl); apply rfl; omega; apply rfl) | (apply T.loadF; apply rfl; apply rfl; infer_instance; exact (fun _ => rfl); apply rfl; exact getD_some (by omega); apply rfl; apply rfl) | with_reducible refine Sr.nil ?_ | with_reducible refine S.seq ?_ | with_reducible refine S.block ?_ | with_reducible refine S.reg ?_ | with_reducible refine S.skip ?_ | (apply S.condQ; apply rfl; all_goals (intro _; try (exfalso; first | omega | with_reducible contradiction))) | fail)
          rw [hhd]
          refine T.call rfl rfl (refQuoted_spec (by omega)) ?_
          rintro _ _ ⟨rfl, hH⟩
          have hH2 := hH.symm
          subst hH2
          repeat' (first | (apply T.loadNat; apply rfl; infer_instance; omega; apply rfl; rw [ho]) | (apply Sr.same; refine T.sadd (b := [58]) rfl rfl (by first | omega | (show 1 + _ ≤ _; omega) | (show _ + 1 ≤ _; omega) | (simp only [List.length_append, List.length_cons, List.length_nil]; omega)) rfl ?_) | (apply Sr.same; refine T.sadd rfl rfl (by first | omega | (show 1 + _ ≤ _; omega) | (show _ + 1 ≤ _; omega) | (simp only [List.length_append, List.length_cons, List.length_nil]; omega)) rfl ?_) | (apply T.mv; apply rfl; apply rfl) | (apply T.asn; apply rfl; apply rfl) | (apply T.ixN; apply rfl; apply rfl; infer_instance; omega; (first | omega | (simp only [List.length_map]; omega) | (simp; omega)); apply rfl) | with_reducible refine Sr.nil ?_ | with_reducible refine S.seq ?_ | with_reducible refine S.reg ?_ | (with_reducible apply T.ofRet) | fail)
          refine T.call rfl rfl (IH (x := xs[i]) (by omega) rfl hl hx2 hok2 hk (by omega)) ?_
          rintro _ _ ⟨rfl, hH⟩
          have hH2 := hH.symm
          subst hH2
          repeat' (first | (apply Sr.same; refine T.sadd rfl rfl (by first | omega | (show 1 + _ ≤ _; omega) | (show _ + 1 ≤ _; omega) | (simp only [List.length_append, List.length_cons, List.length_nil]; omega)) rfl ?_) | (apply T.mv; apply rfl; apply rfl) | (apply T.asn; apply rfl; apply rfl) | (apply T.addI; apply rfl; apply rfl; omega; apply rfl) | with_reducible refine Sr.nil ?_ | with_reducible refine S.reg ?_ | with_reducible refine S.inBlock ?_ | (with_reducible apply T.ofRet) | fail)
          exact ih _ _ _ _ ⟨i + 1, (j ++ quoS (headN xs[i]).key ++ [58]) ++ spellX L xs[i], rfl, rfl, ⟨h4, by rw [hjn, h5] <;> simp⟩, rfl⟩ (by omega) (by repeat' first | exact trivial | refine And.intro rfl ?_)
        · rw [if_neg hi0] at hjn
          repeat' (first | (apply T.loadNat; apply rfl; infer_instance; omega; apply rfl; rw [ho]) | (apply Sr.same; refine T.sadd (b := [44]) rfl rfl (by first | omega | (simp only [List.length_cons, List.length_nil]; omega)) rfl ?_) | (apply T.mv; apply rfl; apply rfl) | (apply T.asn; apply rfl; apply rfl) | (apply T.len; apply rfl; apply rfl) | (apply T.fieldAddrZ; apply rfl; apply rfl) | (apply T.load; apply rfl; apply rfl; infer_instance; apply rfl; apply rfl) | (apply T.lss; apply rfl; apply rfl; apply rfl) | (apply T.gtr; apply rfl; apply rfl; apply rfl) | (apply T.eql; apply rfl; apply rfl; apply rfl) | (apply T.ixN; apply rfl; apply rfl; infer_instance; omega; (first | omega | (simp only [List.length_map]; omega) | (simp; omega)); apply rfl) | (apply T.ixF; apply rfl; apply rfl; infer_instance; exact (fun _ => rfl); apply rfl; omega; omega; apply rfl) | (apply T.fieldAddrF; apply rfl; infer_instance; exact (fun _ => rfl); apply rfl; omega; apply rfl) | (apply T.loadF; apply rfl; apply rfl; infer_instance; exact (fun _ => rfl); apply rfl; exact getD_some (by omega); apply rfl; apply rfl) | with_reducible refine Sr.nil ?_ | with_reducible refine S.seq ?_ | with_reducible refine S.block ?_ | with_reducible refine S.reg ?_ | with_reducible refine S.skip ?_ | (apply S.condQ; apply rfl; all_goals (intro _; try (exfalso; first | omega | with_reducible contradiction))) | fail)
          rw [hhd]
          refine T.call rfl rfl (refQuoted_spec (by omega)) ?_
          rintro _ _ ⟨rfl, hH⟩
          have hH2 := hH.symm
          subst hH2
          repeat' (first | (apply T.loadNat; apply rfl; infer_instance; omega; apply rfl; rw [ho]) | (apply Sr.same; refine T.sadd (b := [58]) rfl rfl (by first | omega | (show 1 + _ ≤ _; omega) | (show _ + 1 ≤ _; omega) | (simp only [List.length_append, List.length_cons, List.length_nil]; omega)) rfl ?_) | (apply Sr.same; refine T.sadd rfl rfl (by first | omega | (show 1 + _ ≤ _; omega) | (show _ + 1 ≤ _; omega) | (simp only [List.length_append, List.length_cons, List.length_nil]; omega)) rfl ?_) | (apply T.mv; apply rfl; apply rfl) | (apply T.asn; apply rfl; apply rfl) | (apply T.ixN; apply rfl; apply rfl; infer_instance; omega; (first | omega | (simp only [List.length_map]; omega) | (simp; omega)); apply rfl) | with_reducible refine Sr.nil ?_ | with_reducible refine S.seq ?_ | with_reducible refine S.reg ?_ | (with_reducible apply T.ofRet) | fail)
          refine T.call rfl rfl (IH (x := xs[i]) (by omega) rfl hl hx2 hok2 hk (by omega)) ?_
          rintro _ _ ⟨rfl, hH⟩
          have hH2 := hH.symm
          subst hH2
          repeat' (first | (apply Sr.same; refine T.sadd rfl rfl (by first | omega | (show 1 + _ ≤ _; omega) | (show _ + 1 ≤ _; omega) | (simp only [List.length_append, List.length_cons, List.length_nil]; omega)) rfl ?_) | (apply T.mv; apply rfl; apply rfl) | (apply T.asn; apply rfl; apply rfl) | (apply T.addI; apply rfl; apply rfl; omega; apply rfl) | with_reducible refine Sr.nil ?_ | with_reducible refine S.reg ?_ | with_reducible refine S.inBlock ?_ | (with_reducible apply T.ofRet) | fail)
          exact ih _ _ _ _ ⟨i + 1, (j ++ [44] ++ quoS (headN xs[i]).key ++ [58]) ++ spellX L xs[i], rfl, rfl, ⟨h4, by rw [hjn, h5] <;> simp⟩, rfl⟩ (by omega) (by repeat' first | exact trivial | refine And.intro rfl ?_)
      · obtain rfl : i = xs.length := by omega
        rw [List.take_length] at h5
        have h12 : [123] ++ j ++ [125] = spellX (L + 1) ((v.getD p default) :: xs.flatten) := by rw [spellX_row ha.kids ha.fo k1 k2 k3 k4 k5, h5, if_pos k7, if_pos k7]; simp
        repeat' (first | (apply Sr.same; refine T.sadd (a := [123]) rfl rfl (by first | omega | (simp only [List.length_cons, List.length_nil]; omega)) rfl ?_) | (apply Sr.same; refine T.sadd (b := [125]) rfl rfl (by first | omega | (show 1 + _ ≤ _; omega) | (show _ + 1 ≤ _; omega) | (simp only [List.length_append, List.length_cons, List.length_nil]; omega)) rfl ?_) | (apply T.mv; apply rfl; apply rfl) | (apply T.asn; apply rfl; apply rfl) | (apply T.len; apply rfl; apply rfl) | (apply T.fieldAddrZ; apply rfl; apply rfl) | (apply T.load; apply rfl; apply rfl; infer_instance; apply rfl; apply rfl) | (apply T.lss; apply rfl; apply rfl; apply rfl) | (apply T.eql; apply rfl; apply rfl; apply rfl) | with_reducible refine Sr.nil ?_ | with_reducible refine S.seq ?_ | with_reducible refine S.reg ?_ | (apply S.exit; apply rfl) | (apply S.condQ; apply rfl; all_goals (intro _; try (exfalso; first | omega | with_reducible contradiction))) | (apply T.retW; apply rfl) | fail)
        exact ⟨_, PSub.drop (PSub.drop (PSub.refl _)), by rw [← h12], rfl⟩
    · skip
      repeat' (first | (apply T.mv; apply rfl; apply rfl) | (apply T.asn; apply rfl; apply rfl) | (apply T.fieldAddrZ; apply rfl; apply rfl) | (apply T.load; apply rfl; apply rfl; infer_instance; apply rfl; apply rfl) | (apply T.eql; apply rfl; apply rfl; apply rfl) | (apply T.ixF; apply rfl; apply rfl; infer_instance; exact (fun _ => rfl); apply rfl; omega; omega; apply rfl) | (apply T.loadFN; apply rfl; apply rfl; infer_instance; exact (fun _ => rfl); apply rfl; exact getD_some (by omega); apply rfl) | (apply T.storeW; apply rfl; apply rfl; infer_instance; (first | rfl | (simp only [List.length_append, List.length_map, List.length_set, List.length_replicate, List.length_cons, List.length_nil]; first | done | omega)); (first | rfl | (simp only [List.length_append, List.length_map, List.length_set, List.length_replicate, List.length_cons, List.length_nil]; first | done | omega)); (first | rfl | (repeat' first | apply all_nV | apply all_bV | apply all_iV | rfl | apply all_app))) | (apply T.alloc; apply rfl; intro nb) | with_reducible refine Sr.nil ?_ | with_reducible refine S.seq ?_ | with_reducible refine S.block ?_ | with_reducible refine S.reg ?_ | with_reducible refine S.skip ?_ | with_reducible refine S.inBlock ?_ | (apply S.condQ; apply rfl; all_goals (intro _; try (exfalso; first | omega | with_reducible contradiction))) | fail)
      refine T.call rfl rfl (refKids_spec rfl hl ha) ?_
      rintro _ _ ⟨ka, kc, rfl, rfl⟩
      have hlen := offs_len (p + 1) xs
      repeat' (first | (apply T.asn; apply rfl; apply rfl) | with_reducible refine Sr.nil ?_ | with_reducible refine S.seq ?_ | with_reducible refine S.block ?_ | with_reducible refine S.reg ?_ | (with_reducible apply T.ofRet) | fail)
      refine S.loopE 0 [0, 5, 7] (fun R b' μ H' e => ∃ (i : Nat) (j : List UInt8), H' = R ∧ e = (6, sV j) :: (8, .int .i64 i) :: b' ∧ (i ≤ xs.length ∧ joinC ((xs.take i).map (itemS L ((v.getD p default).kind = 7))) = j) ∧ μ = xs.length - i) rfl rfl ?_ _ _ ⟨0, [], rfl, rfl, ⟨Nat.zero_le _, rfl⟩, rfl⟩ (by repeat' first | exact trivial | refine And.intro rfl ?_)
      rintro _ _ _ ⟨i, j, hR1, rfl, ⟨h1, h5⟩, rfl⟩ ih
      have hR2 := hR1.symm
      subst hR2
      have hjl := joinC_len (g := itemS L ((v.getD p default).kind = 7)) (xs := xs.take i) fun y hy => itemS_len (ha.fo _ (List.mem_of_mem_take hy)) (by have := flat_mem_len (List.mem_of_mem_take hy); omega)
      have hwt := wL_take xs i
      rw [h5] at hjl
      by_cases h4 : i < xs.length
      · have hk := ha.kid h4
        have hx2 := ha.fo _ (List.getElem_mem h4)
        have hq := drop_le hk hx2.pos
        have hxp := hx2.pos
        have ht := take_flat_succ h4
        have ho := offs_get (p := p + 1) h4
        have hjn := join_next (g := itemS L ((v.getD p default).kind = 7)) h4
        have hws := wL_split h4
        have hfl := flat_mem_len (List.getElem_mem h4)
        have hok2 : ∀ m ∈ xs[i], NdSh m := fun m hm => hok m (List.mem_cons_of_mem _ (List.mem_flatten.2 ⟨_, List.getElem_mem h4, hm⟩))
        generalize hqq : p + 1 + (xs.take i).flatten.length = q at *
        have hhd : v.getD q default = headN xs[i] := by
          obtain ⟨n2, xs2, e2, -⟩ := At.of_fo hk hx2
          rw [e2] at hk ⊢
          exact (drop_head hk).1
        have hsl := spell_len L xs[i] hx2 (by omega)
        have hql := quoS_len (headN xs[i]).key
        have hit : itemS L ((v.getD p default).kind = 7) xs[i] = spellX L xs[i] := by unfold itemS; rw [if_neg k7]; rfl
        rw [hit] at hjn
        by_cases hi0 : i = 0
        · rw [if_pos hi0] at hjn
          repeat' (first | (apply T.loadNat; apply rfl; infer_instance; omega; apply rfl; rw [ho]) | (apply T.mv; apply rfl; apply rfl) | (apply T.len; apply rfl; apply rfl) | (apply T.fieldAddrZ; apply rfl; apply rfl) | (apply T.load; apply rfl; apply rfl; infer_instance; apply rfl; apply rfl) | (apply T.lss; apply rfl; apply rfl; apply rfl) | (apply T.gtr; apply rfl; apply rfl; apply rfl) | (apply T.eql; apply rfl; apply rfl; apply rfl) | (apply T.ixN; apply rfl; apply rfl; infer_instance; omega; (first | omega | (simp only [List.length_map]; omega) | (simp; omega)); apply rfl) | with_reducible refine Sr.nil ?_ | with_reducible refine S.seq ?_ | with_reducible refine S.block ?_ | with_reducible refine S.reg ?_ | with_reducible refine S.skip ?_ | (apply S.condQ; apply rfl; all_goals (intro _; try (exfalso; first | omega | with_reducible contradiction))) | fail)
          refine T.call rfl rfl (IH (x := xs[i]) (by omega) rfl hl hx2 hok2 hk (by omega)) ?_
          rintro _ _ ⟨rfl, hH⟩
          have hH2 := hH.symm
          subst hH2
          repeat' (first | (apply Sr.same; refine T.sadd rfl rfl (by first | omega | (show 1 + _ ≤ _; omega) | (show _ + 1 ≤ _; omega) | (simp only [List.length_append, List.length_cons, List.length_nil]; omega)) rfl ?_) | (apply T.mv; apply rfl; apply rfl) | (apply T.asn; apply rfl; apply rfl) | (apply T.addI; apply rfl; apply rfl; omega; apply rfl) | with_reducible refine Sr.nil ?_ | with_reducible refine S.reg ?_ | with_reducible refine S.inBlock ?_ | (with_reducible apply T.ofRet) | fail)
          exact ih _ _ _ _ ⟨i + 1, j ++ spellX L xs[i], rfl, rfl, ⟨h4, by rw [hjn, h5] <;> simp⟩, rfl⟩ (by omega) (by repeat' first | exact trivial | refine And.intro rfl ?_)
        · rw [if_neg hi0] at hjn
          repeat' (first | (apply T.loadNat; apply rfl; infer_instance; omega; apply rfl; rw [ho]) | (apply Sr.same; refine T.sadd (b := [44]) rfl rfl (by first | omega | (simp only [List.length_cons, List.length_nil]; omega)) rfl ?_) | (apply T.mv; apply rfl; apply rfl) | (apply T.asn; apply rfl; apply rfl) | (apply T.len; apply rfl; apply rfl) | (apply T.fieldAddrZ; apply rfl; apply rfl) | (apply T.load; apply rfl; apply rfl; infer_instance; apply rfl; apply rfl) | (apply T.lss; apply rfl; apply rfl; apply rfl) | (apply T.gtr; apply rfl; apply rfl; apply rfl) | (apply T.eql; apply rfl; apply rfl; apply rfl) | (apply T.ixN; apply rfl; apply rfl; infer_instance; omega; (first | omega | (simp only [List.length_map]; omega) | (simp; omega)); apply rfl) | with_reducible refine Sr.nil ?_ | with_reducible refine S.seq ?_ | with_reducible refine S.block ?_ | with_reducible refine S.reg ?_ | with_reducible refine S.skip ?_ | (apply S.condQ; apply rfl; all_goals (intro _; try (exfalso; first | omega | with_reducible contradiction))) | fail)
          refine T.call rfl rfl (IH (x := xs[i]) (by omega) rfl hl hx2 hok2 hk (by omega)) ?_
          rintro _ _ ⟨rfl, hH⟩
          have hH2 := hH.symm
          subst hH2
          repeat' (first | (apply Sr.same; refine T.sadd rfl rfl (by first | omega | (show 1 + _ ≤ _; omega) | (show _ + 1 ≤ _; omega) | (simp only [List.length_append, List.length_cons, List.length_nil]; omega)) rfl ?_) | (apply T.mv; apply rfl; apply rfl) | (apply T.asn; apply rfl; apply rfl) | (apply T.addI; apply rfl; apply rfl; omega; apply rfl) | with_reducible refine Sr.nil ?_ | with_reducible refine S.reg ?_ | with_reducible refine S.inBlock ?_ | (with_reducible apply T.ofRet) | fail)
          exact ih _ _ _ _ ⟨i + 1, (j ++ [44]) ++ spellX L xs[i], rfl, rfl, ⟨h4, by rw [hjn, h5] <;> simp⟩, rfl⟩ (by omega) (by repeat' first | exact trivial | refine And.intro rfl ?_)
      · obtain rfl : i = xs.length := by omega
        rw [List.take_length] at h5
        have h12 : [91] ++ j ++ [93] = spellX (L + 1) ((v.getD p default) :: xs.flatten) := by rw [spellX_row ha.kids ha.fo k1 k2 k3 k4 k5, h5, if_neg k7, if_neg k7]; simp
        repeat' (first | (apply Sr.same; refine T.sadd (a := [91]) rfl rfl (by first | omega | (simp only [List.length_cons, List.length_nil]; omega)) rfl ?_) | (apply Sr.same; refine T.sadd (b := [93]) rfl rfl (by first | omega | (show 1 + _ ≤ _; omega) | (show _ + 1 ≤ _; omega) | (simp only [List.length_append, List.length_cons, List.length_nil]; omega)) rfl ?_) | (apply T.mv; apply rfl; apply rfl) | (apply T.asn; apply rfl; apply rfl) | (apply T.len; apply rfl; apply rfl) | (apply T.fieldAddrZ; apply rfl; apply rfl) | (apply T.load; apply rfl; apply rfl; infer_instance; apply rfl; apply rfl) | (apply T.lss; apply rfl; apply rfl; apply rfl) | (apply T.eql; apply rfl; apply rfl; apply rfl) | with_reducible refine Sr.nil ?_ | with_reducible refine S.seq ?_ | with_reducible refine S.reg ?_ | with_reducible refine S.skip ?_ | (apply S.exit; apply rfl) | (apply S.condQ; apply rfl; all_goals (intro _; try (exfalso; first | omega | with_reducible contradiction))) | (apply T.retW; apply rfl) | fail)
        exact ⟨_, PSub.drop (PSub.drop (PSub.refl _)), by rw [← h12], rfl⟩
theorem refPrint_spec [Rd F M H oa (v.flatMap ndV)] (hn : v.length = n) (hl : n ≤ 1000000) (htx : ∀ x ∈ v, x.text.length ≤ 1100000 ∧ x.key.length ≤ 1100000) (hw : wL v ≤ 50000000) :
    Meets Tryd.prog 23 [.slice oa n oc] F M H (fun e H' => e = .returned (.tuple ⟨[sV (printX Lib.validD v).1, .int .i64 (printX Lib.validD v).2]⟩) ∧ H' = H) := by
  subst hn
  refine Meets.enter Tryd.func23 rfl rfl ?_
  cases hs : shapedX Lib.validD v with
  | false =>
    have hp : printX Lib.validD v = ([], 31) := by unfold printX; rw [hs, if_neg (by simp)]
    rw [hp]
    repeat' (first | (apply T.mv; apply rfl; apply rfl) | (apply T.asn; apply rfl; apply rfl) | with_reducible refine Sr.nil ?_ | with_reducible refine S.seq ?_ | with_reducible refine S.reg ?_ | fail)
    refine T.call rfl rfl (refShaped_spec (oa := oa) rfl hl htx) ?_
    rintro _ _ ⟨rfl, rfl⟩
    rw [hs]
    repeat' (first | (apply T.mv; apply rfl; apply rfl) | (apply T.asn; apply rfl; apply rfl) | (apply T.notB; apply rfl; apply rfl) | with_reducible refine Sr.nil ?_ | with_reducible refine S.seq ?_ | with_reducible refine S.reg ?_ | (apply S.condTV; apply rfl; (first | with_reducible rfl | decide)) | (apply T.retW; apply rfl) | (with_reducible apply T.ofRet) | fail)
    exact ⟨_, PSub.refl _, rfl, rfl⟩
  | true =>
    have hp : printX Lib.validD v = if 262144 < (spellX v.length v).length then ([], 10) else (spellX v.length v, 0) := by unfold printX; rw [hs, if_pos rfl]
    rw [hp]
    obtain ⟨hf, hok⟩ := shaped_fo hs
    have hsl := spell_len v.length v hf (Nat.le_refl _)
    repeat' (first | (apply T.mv; apply rfl; apply rfl) | (apply T.asn; apply rfl; apply rfl) | with_reducible refine Sr.nil ?_ | with_reducible refine S.seq ?_ | with_reducible refine S.reg ?_ | fail)
    refine T.call rfl rfl (refShaped_spec (oa := oa) rfl hl htx) ?_
    rintro _ _ ⟨rfl, rfl⟩
    rw [hs]
    repeat' (first | (apply T.mv; apply rfl; apply rfl) | (apply T.asn; apply rfl; apply rfl) | (apply T.notB; apply rfl; apply rfl) | with_reducible refine Sr.nil ?_ | with_reducible refine S.seq ?_ | with_reducible refine S.reg ?_ | with_reducible refine S.skip ?_ | (apply S.condFV; apply rfl; (first | with_reducible rfl | decide)) | (with_reducible apply T.ofRet) | fail)
    refine T.call rfl rfl (refSpell_spec (oa := oa) v.length (x := v) (r := []) (p := 0) (Nat.le_refl _) rfl hl hf hok (by simp) (by omega)) ?_
    rintro _ _ ⟨rfl, rfl⟩
    generalize spellX v.length v = tx at *
    by_cases hL : 262144 < tx.length
    · rw [if_pos hL]
      repeat' (first | (apply T.slen; apply rfl; apply rfl) | (apply T.mv; apply rfl; apply rfl) | (apply T.asn; apply rfl; apply rfl) | (apply T.gtr; apply rfl; apply rfl; apply rfl) | with_reducible refine Sr.nil ?_ | with_reducible refine S.seq ?_ | with_reducible refine S.reg ?_ | (apply S.condQ; apply rfl; all_goals (intro _; try (exfalso; first | omega | with_reducible contradiction))) | (apply T.retW; apply rfl) | (with_reducible apply T.ofRet) | fail)
      exact ⟨_, PSub.refl _, rfl, rfl⟩
    · rw [if_neg hL]
      repeat' (first | (apply T.slen; apply rfl; apply rfl) | (apply T.mv; apply rfl; apply rfl) | (apply T.asn; apply rfl; apply rfl) | (apply T.gtr; apply rfl; apply rfl; apply rfl) | with_reducible refine Sr.nil ?_ | with_reducible refine S.seq ?_ | with_reducible refine S.reg ?_ | with_reducible refine S.skip ?_ | (apply S.condQ; apply rfl; all_goals (intro _; try (exfalso; first | omega | with_reducible contradiction))) | (apply T.retW; apply rfl) | (with_reducible apply T.ofRet) | fail)
      exact ⟨_, PSub.refl _, rfl, rfl⟩
end
end Go.Proofs.YtnimcchalinihaaDoor
/- The walks of the document's General: dots, parts. -/
namespace Go.Proofs.YtnimcchalinihaaDoor
open Sg Go.IntWalk
set_option maxRecDepth 100000
set_option maxHeartbeats 4000000
section
variable {F : World} {M : List Nat} {H : List Res} {ta : Option Addr} {tc n : Nat} {ts : List (List UInt8)} {s : List UInt8}
theorem eq46 {a : UInt8} (h : (a.toNat : Int) = 46) : a = 46 := by
  have h2 : a.toNat = (46 : UInt8).toNat := by
    have : (46 : UInt8).toNat = 46 := rfl
    omega
  exact UInt8.toNat_inj.1 h2
theorem node_spec {k t : List UInt8} : Meets Tryd.prog 21 [sV k, sV t] F M H (fun e H' => e = .returned (.agg ⟨ndV (strNd k t)⟩) ∧ H' = H) := by
  refine Meets.enter Tryd.func21 rfl rfl ?_
  repeat' (first | (apply T.mv; apply rfl; apply rfl) | (apply T.buildL; apply rfl; apply rfl; apply rfl) | (apply T.storeW; apply rfl; apply rfl; infer_instance; (first | rfl | (simp only [List.length_append, List.length_map, List.length_set, List.length_replicate, List.length_cons, List.length_nil]; first | done | omega)); (first | rfl | (simp only [List.length_append, List.length_map, List.length_set, List.length_replicate, List.length_cons, List.length_nil]; first | done | omega)); (first | rfl | (repeat' first | apply all_nV | apply all_bV | apply all_iV | rfl | apply all_app))) | (apply T.alloc; apply rfl; intro nb) | with_reducible refine Sr.nil ?_ | with_reducible refine S.seq ?_ | with_reducible refine S.reg ?_ | (apply T.retC; apply rfl; ((repeat' first | apply RV.nil | (apply RV.tmp; apply rfl) | (apply RV.cellW; apply rfl; apply rfl; infer_instance; (first | rfl | (simp only [List.length_append, List.length_map, List.length_set, List.length_replicate, List.length_cons, List.length_nil]; first | done | omega))) | (apply RV.cellP; apply rfl; apply rfl; infer_instance; apply rfl))); apply rfl) | fail)
  exact ⟨_, PSub.drop (PSub.refl _), rfl, rfl⟩
theorem count_next {i : Nat} (h : i < s.length) : (s.take (i + 1)).count 46 = (s.take i).count 46 + (if s.getD i 0 = 46 then 1 else 0) := by
  have hg : s[i] = s.getD i 0 := by simp [List.getD, h]
  rw [List.take_succ_eq_append_getElem h, List.count_append, hg]
  by_cases h2 : s.getD i 0 = 46
  · rw [if_pos h2, h2]; simp
  · rw [if_neg h2, List.count_singleton, if_neg (by simpa using h2)]
theorem dots_spec (hl : s.length ≤ 1000000000) : Meets Tryd.prog 19 [sV s] F M H (fun e H' => e = .returned (.int .i64 (s.count 46 : Nat)) ∧ H' = H) := by
  refine Meets.enter Tryd.func19 rfl rfl ?_
  repeat' (first | (apply T.asn; apply rfl; apply rfl) | with_reducible refine Sr.nil ?_ | with_reducible refine S.seq ?_ | with_reducible refine S.block ?_ | with_reducible refine S.reg ?_ | fail)
  refine S.loopE 0 [0] (fun R b' μ H' e => ∃ i : Nat, H' = R ∧ e = (3, .int .i64 ((s.take i).count 46 : Nat)) :: (4, .int .i64 i) :: b' ∧ i ≤ s.length ∧ μ = s.length - i) rfl rfl ?_ _ _ ⟨0, rfl, rfl, Nat.zero_le _, rfl⟩ (by repeat' first | exact trivial | refine And.intro rfl ?_)
  rintro _ _ _ ⟨i, hR1, rfl, h1, rfl⟩ ih
  subst hR1
  by_cases h3 : i < s.length
  · have hc := count_next h3
    have hle : (s.take i).count 46 ≤ s.length := Nat.le_trans List.count_le_length (List.length_take_le' ..)
    by_cases h4 : ((s.getD i 0).toNat : Int) = 46
    · rw [if_pos (eq46 h4)] at hc
      repeat' (first | (apply T.slen; apply rfl; apply rfl) | (apply T.sidx; apply rfl; apply rfl; omega; apply rfl) | (apply T.mv; apply rfl; apply rfl) | (apply T.asn; apply rfl; apply rfl) | (apply T.lss; apply rfl; apply rfl; apply rfl) | (apply T.eql; apply rfl; apply rfl; apply rfl) | (apply T.addI; apply rfl; apply rfl; omega; apply rfl) | with_reducible refine Sr.nil ?_ | with_reducible refine S.seq ?_ | with_reducible refine S.block ?_ | with_reducible refine S.reg ?_ | with_reducible refine S.skip ?_ | with_reducible refine S.inBlock ?_ | (apply S.condQ; apply rfl; all_goals (intro _; try (exfalso; first | omega | with_reducible contradiction))) | fail)
      exact ih _ _ _ _ ⟨i + 1, rfl, by rw [hc] <;> rfl, h3, rfl⟩ (by omega) (by repeat' first | exact trivial | refine And.intro rfl ?_)
    · rw [if_neg (fun h => h4 (by rw [h]; rfl)), Nat.add_zero] at hc
      repeat' (first | (apply T.slen; apply rfl; apply rfl) | (apply T.sidx; apply rfl; apply rfl; omega; apply rfl) | (apply T.mv; apply rfl; apply rfl) | (apply T.asn; apply rfl; apply rfl) | (apply T.lss; apply rfl; apply rfl; apply rfl) | (apply T.eql; apply rfl; apply rfl; apply rfl) | (apply T.addI; apply rfl; apply rfl; omega; apply rfl) | with_reducible refine Sr.nil ?_ | with_reducible refine S.seq ?_ | with_reducible refine S.block ?_ | with_reducible refine S.reg ?_ | with_reducible refine S.skip ?_ | with_reducible refine S.inBlock ?_ | (apply S.condQ; apply rfl; all_goals (intro _; try (exfalso; first | omega | with_reducible contradiction))) | fail)
      exact ih _ _ _ _ ⟨i + 1, rfl, by rw [hc] <;> rfl, h3, rfl⟩ (by omega) (by repeat' first | exact trivial | refine And.intro rfl ?_)
  · obtain rfl : i = s.length := by omega
    rw [List.take_length]
    repeat' (first | (apply T.slen; apply rfl; apply rfl) | (apply T.mv; apply rfl; apply rfl) | (apply T.asn; apply rfl; apply rfl) | (apply T.lss; apply rfl; apply rfl; apply rfl) | with_reducible refine Sr.nil ?_ | with_reducible refine S.seq ?_ | with_reducible refine S.reg ?_ | (apply S.exit; apply rfl) | (apply S.condQ; apply rfl; all_goals (intro _; try (exfalso; first | omega | with_reducible contradiction))) | (apply T.retW; apply rfl) | fail)
    exact ⟨_, PSub.refl _, rfl, rfl⟩
/-- What Cut answers. -/
def fillV (ps : List (List UInt8)) : List Value := [sV (ps.getD 0 []), sV (ps.getD 1 []), sV (ps.getD 2 [])]
theorem fill_set {ps : List (List UInt8)} {l : List UInt8} (h : ps.length ≤ 2) : (fillV ps).set ps.length (sV l) = fillV (ps ++ [l]) := by
  match ps, h with
  | [], _ => rfl
  | [_], _ => rfl
  | [_, _], _ => rfl
theorem cut_spec (hl : s.length ≤ 1000000000) (h3 : (pieces 46 s).length = 3) : Meets Tryd.prog 22 [sV s] F M H (fun e H' => e = .returned (.agg ⟨fillV (pieces 46 s)⟩) ∧ H' = H) := by
  refine Meets.enter Tryd.func22 rfl rfl ?_
  repeat' (first | (apply T.asn; apply rfl; apply rfl) | (apply T.alloc; apply rfl; intro nb) | with_reducible refine Sr.nil ?_ | with_reducible refine S.seq ?_ | with_reducible refine S.block ?_ | with_reducible refine S.reg ?_ | fail)
  refine S.loopE 1 [0, 2, 3] (fun R b' μ H' e => ∃ (i k f : Nat) (cells : List Value), H' = .blk nb cells 47 :: R ∧ e = (4, .int .i64 k) :: (5, .int .i64 f) :: (6, .int .i64 i) :: b' ∧
    ((i ≤ s.length ∧ ∃ ps, pieces 46 (s.take i) = ps ++ [(s.drop f).take (i - f)] ∧ k = ps.length ∧ f ≤ i ∧ cells = fillV ps) ∨ (i = s.length + 1 ∧ cells = fillV (pieces 46 s))) ∧ μ = s.length + 1 - i) rfl rfl ?_ _ _ ⟨0, 0, 0, _, rfl, rfl, .inl ⟨Nat.zero_le _, [], rfl, rfl, Nat.le_refl _, rfl⟩, rfl⟩ (by repeat' first | exact trivial | refine And.intro rfl ?_)
  rintro _ _ _ ⟨i, k, f, cells, rfl, rfl, hor, rfl⟩ ih
  rcases hor with ⟨h1, ps, c1, rfl, c2, rfl⟩ | ⟨rfl, rfl⟩
  · have hcnt := pieces_count 46 (s.take i)
    have hcs := pieces_count 46 s
    rw [c1, List.length_append, List.length_singleton] at hcnt
    have hle : (s.take i).count 46 ≤ s.count 46 := (List.take_sublist i s).count_le 46
    have hk : ps.length ≤ 2 := by omega
    have hfl : (fillV ps).length = 3 := rfl
    have hfs := fun l => fill_set (l := l) hk
    by_cases h4 : i = s.length
    · subst h4
      rw [List.take_length] at c1
      repeat' (first | (apply T.sslice; apply rfl; apply rfl; apply rfl; omega; apply rfl) | (apply T.store; apply rfl; apply rfl; infer_instance; (show ps.length < 3; omega); apply rfl; rw [hfs]) | (apply T.slen; apply rfl; apply rfl) | (apply T.mv; apply rfl; apply rfl) | (apply T.asn; apply rfl; apply rfl) | (apply T.leq; apply rfl; apply rfl; apply rfl) | (apply T.eql; apply rfl; apply rfl; apply rfl) | (apply T.addI; apply rfl; apply rfl; omega; apply rfl) | (apply T.ixAZ; apply rfl; apply rfl; omega; apply rfl) | (apply T.pickT; apply rfl; apply rfl; apply rfl) | with_reducible refine Sr.nil ?_ | with_reducible refine S.seq ?_ | with_reducible refine S.block ?_ | with_reducible refine S.reg ?_ | with_reducible refine S.skip ?_ | with_reducible refine S.inBlock ?_ | (apply T.skip; apply rfl; (first | with_reducible rfl | decide); apply rfl) | (apply S.condTV; apply rfl; (first | with_reducible rfl | decide)) | (apply S.condQ; apply rfl; all_goals (intro _; try (exfalso; first | omega | with_reducible contradiction))) | (apply T.gcase; apply rfl; apply rfl; all_goals (intro _; try (exfalso; first | omega | with_reducible contradiction))) | fail)
      rw [← c1]
      exact ih _ _ _ _ ⟨s.length + 1, ps.length + 1, s.length + 1, _, rfl, rfl, .inr ⟨rfl, rfl⟩, rfl⟩ (by omega) (by repeat' first | exact trivial | refine And.intro rfl ?_)
    · have h5 : i < s.length := by omega
      have hg : s.take (i + 1) = s.take i ++ [s.getD i 0] := by
        rw [List.take_succ_eq_append_getElem h5]
        simp [List.getD, h5]
      have hsn := pieces_snoc 46 (s.take i) (s.getD i 0) ps _ c1
      rw [← hg] at hsn
      have htn := take_next1 (s := s) h5 c2
      by_cases h6 : ((s.getD i 0).toNat : Int) = 46
      · rw [if_pos (eq46 h6)] at hsn
        repeat' (first | (apply T.sslice; apply rfl; apply rfl; apply rfl; omega; apply rfl) | (apply T.store; apply rfl; apply rfl; infer_instance; (show ps.length < 3; omega); apply rfl; rw [hfs]) | (apply T.slen; apply rfl; apply rfl) | (apply T.sidx; apply rfl; apply rfl; omega; apply rfl) | (apply T.mv; apply rfl; apply rfl) | (apply T.asn; apply rfl; apply rfl) | (apply T.leq; apply rfl; apply rfl; apply rfl) | (apply T.eql; apply rfl; apply rfl; apply rfl) | (apply T.addI; apply rfl; apply rfl; omega; apply rfl) | (apply T.ixAZ; apply rfl; apply rfl; omega; apply rfl) | (apply T.pickF; apply rfl; apply rfl; apply rfl) | with_reducible refine Sr.nil ?_ | with_reducible refine S.seq ?_ | with_reducible refine S.block ?_ | with_reducible refine S.reg ?_ | with_reducible refine S.skip ?_ | with_reducible refine S.inBlock ?_ | (apply T.ungV; apply rfl; (first | with_reducible rfl | decide)) | (apply S.condQ; apply rfl; all_goals (intro _; try (exfalso; first | omega | with_reducible contradiction))) | (apply T.gcase; apply rfl; apply rfl; all_goals (intro _; try (exfalso; first | omega | with_reducible contradiction))) | fail)
        exact ih _ _ _ _ ⟨i + 1, ps.length + 1, i + 1, _, rfl, rfl, .inl ⟨h5, ps ++ [(s.drop f).take (i - f)], by rw [hsn, Nat.sub_self, List.take_zero], by rw [List.length_append]; rfl, Nat.le_refl _, rfl⟩, rfl⟩ (by omega) (by repeat' first | exact trivial | refine And.intro rfl ?_)
      · rw [if_neg (fun h => h6 (by rw [h]; rfl)), ← htn] at hsn
        repeat' (first | (apply T.slen; apply rfl; apply rfl) | (apply T.sidx; apply rfl; apply rfl; omega; apply rfl) | (apply T.mv; apply rfl; apply rfl) | (apply T.asn; apply rfl; apply rfl) | (apply T.leq; apply rfl; apply rfl; apply rfl) | (apply T.eql; apply rfl; apply rfl; apply rfl) | (apply T.addI; apply rfl; apply rfl; omega; apply rfl) | (apply T.pickF; apply rfl; apply rfl; apply rfl) | with_reducible refine Sr.nil ?_ | with_reducible refine S.seq ?_ | with_reducible refine S.block ?_ | with_reducible refine S.reg ?_ | with_reducible refine S.skip ?_ | with_reducible refine S.inBlock ?_ | (apply T.ungV; apply rfl; (first | with_reducible rfl | decide)) | (apply S.condQ; apply rfl; all_goals (intro _; try (exfalso; first | omega | with_reducible contradiction))) | (apply T.gcase; apply rfl; apply rfl; all_goals (intro _; try (exfalso; first | omega | with_reducible contradiction))) | fail)
        exact ih _ _ _ _ ⟨i + 1, ps.length, f, _, rfl, rfl, .inl ⟨h5, ps, hsn, rfl, by omega, rfl⟩, rfl⟩ (by omega) (by repeat' first | exact trivial | refine And.intro rfl ?_)
  · repeat' (first | (apply T.slen; apply rfl; apply rfl) | (apply T.mv; apply rfl; apply rfl) | (apply T.leq; apply rfl; apply rfl; apply rfl) | (apply T.loadW; apply rfl; apply rfl; infer_instance; (first | rfl | (simp only [List.length_append, List.length_map, List.length_set, List.length_replicate, List.length_cons, List.length_nil]; first | done | omega)); apply rfl) | (apply T.storeW; apply rfl; apply rfl; infer_instance; (first | rfl | (simp only [List.length_append, List.length_map, List.length_set, List.length_replicate, List.length_cons, List.length_nil]; first | done | omega)); (first | rfl | (simp only [List.length_append, List.length_map, List.length_set, List.length_replicate, List.length_cons, List.length_nil]; first | done | omega)); (first | rfl | (repeat' first | apply all_nV | apply all_bV | apply all_iV | rfl | apply all_app))) | with_reducible refine Sr.nil ?_ | with_reducible refine S.seq ?_ | with_reducible refine S.reg ?_ | (apply S.exit; apply rfl) | (apply S.condQ; apply rfl; all_goals (intro _; try (exfalso; first | omega | with_reducible contradiction))) | (apply T.retC; apply rfl; ((repeat' first | apply RV.nil | (apply RV.tmp; apply rfl) | (apply RV.cellW; apply rfl; apply rfl; infer_instance; (first | rfl | (simp only [List.length_append, List.length_map, List.length_set, List.length_replicate, List.length_cons, List.length_nil]; first | done | omega))) | (apply RV.cellP; apply rfl; apply rfl; infer_instance; apply rfl))); apply rfl) | fail)
    exact ⟨_, PSub.drop (PSub.drop (PSub.refl _)), rfl, rfl⟩
end
end Go.Proofs.YtnimcchalinihaaDoor
/- The walk of the document's General. -/
namespace Sg
open Go Go.RowKit
section
variable {c : Ctx} {ds : List Deferred} {H : List Res} {ops : Array Oper} {l : List Oper} {κ : List Res → Env → Prop} {q : Mode} {e : Env} {ty : TypeId} {pos : String} {aft : Array Edge}
/-- An array of simple things: one of them. -/
theorem T.aidxP {x y : Operand} {d : Tmp} {t E : TypeId} {n i : Nat} {kd : IntKind} {z : Value} {by_ : Nat} {dd : TypeDesc} [HU c.P t (.array n E)] [HU c.P E dd] [HI c.P E z 1 by_] {vs : List Value} {v : Value} (hx : ev e x = some (.agg ⟨vs⟩)) (hy : ev e y = some (.int kd (Int.ofNat i))) (hd : plain dd = true) (hi : i < n) (hv : vs[i]? = some v) (hlt : Nat.blt d c.fn.ntmps = true)
    (hk : Sr q c ds H ops l κ ((d, v) :: e)) : Sr q c ds H ops (⟨some d, .index t x y, ty, pos, aft, none⟩ :: l) κ e :=
  Sr.p (fun w a _ ha => by
    have hy' : ev e y = some (.int kd (i : Int)) := hy
    simp [execOp, ha.ev hx, ha.ev hy', Instr.index, asIntOf, run_under (d := .array n E), run_size (z := z) (sz := 1) (b := by_), part, run_isAgg (d := dd), hd, hi, hv]) rfl hlt rfl hk
end
end Sg
namespace Go.Proofs.YtnimcchalinihaaDoor
open Sg Go.IntWalk
set_option maxRecDepth 100000
set_option maxHeartbeats 4000000
section
variable {F : World} {M : List Nat} {H : List Res} {ta : Option Addr} {tc n : Nat} {ts : List (List UInt8)} {s : List UInt8}
theorem refGeneral_spec [Rd F M H ta (ts.map sV)] (hn : ts.length = n) (hl : tot ts ≤ 1048576) (hl2 : n ≤ 1048576) :
    Meets Tryd.prog 7 [.slice ta n tc] F M H (fun e H' => e = .returned (.tuple ⟨[sV (gnX ts).1, .int .i64 (gnX ts).2]⟩) ∧ H' = H) := by
  subst hn
  refine Meets.enter Tryd.func7 rfl rfl ?_
  unfold gnX
  by_cases h0 : ts.length < 1
  · rw [if_pos (.inl h0)]
    have h00 : (ts.length : Int) = 0 := by omega
    repeat' (first | (apply T.mv; apply rfl; apply rfl) | (apply T.asn; apply rfl; apply rfl) | (apply T.len; apply rfl; apply rfl) | (apply T.eql; apply rfl; apply rfl; apply rfl) | (apply T.pickT; apply rfl; apply rfl; apply rfl) | with_reducible refine Sr.nil ?_ | with_reducible refine S.seq ?_ | with_reducible refine S.reg ?_ | (apply T.skip; apply rfl; (first | with_reducible rfl | decide); apply rfl) | (apply S.condTV; apply rfl; (first | with_reducible rfl | decide)) | (apply T.gcase; apply rfl; apply rfl; all_goals (intro _; try (exfalso; first | omega | with_reducible contradiction))) | (apply T.retW; apply rfl) | fail)
    exact ⟨_, PSub.refl _, rfl, rfl⟩
  have h00 : ¬ (ts.length : Int) = 0 := by omega
  by_cases h16 : 16 < ts.length
  · rw [if_pos (.inr h16)]
    repeat' (first | (apply T.mv; apply rfl; apply rfl) | (apply T.asn; apply rfl; apply rfl) | (apply T.len; apply rfl; apply rfl) | (apply T.gtr; apply rfl; apply rfl; apply rfl) | (apply T.eql; apply rfl; apply rfl; apply rfl) | (apply T.pickF; apply rfl; apply rfl; apply rfl) | with_reducible refine Sr.nil ?_ | with_reducible refine S.seq ?_ | with_reducible refine S.reg ?_ | (apply T.ungV; apply rfl; (first | with_reducible rfl | decide)) | (apply S.condQ; apply rfl; all_goals (intro _; try (exfalso; first | omega | with_reducible contradiction))) | (apply T.gcase; apply rfl; apply rfl; all_goals (intro _; try (exfalso; first | omega | with_reducible contradiction))) | (apply T.retW; apply rfl) | fail)
    exact ⟨_, PSub.refl _, rfl, rfl⟩
  rw [if_neg (fun h => h.elim h0 h16)]
  generalize hQ : (if ∀ s ∈ ts, okT (payOf ts) s then printX Lib.validD (genV ts (payOf ts)) else (([], 140) : List UInt8 × Int)) = Q
  have hget : ∀ i, i < ts.length → ts.getD i [] ∈ ts ∧ ts.take (i + 1) = ts.take i ++ [ts.getD i []] := fun i h => by
    have e : ts.getD i [] = ts[i] := by rw [List.getD_eq_getElem?_getD, List.getElem?_eq_getElem h, Option.getD_some]
    rw [e]
    exact ⟨List.getElem_mem h, List.take_succ_eq_append_getElem h⟩
  have hbad : ∀ s, s ∈ ts → ¬ okT (payOf ts) s → Q = ([], 140) := fun s hm h => by rw [← hQ, if_neg (fun h2 => h (h2 s hm))]
  repeat' (first | (apply T.mv; apply rfl; apply rfl) | (apply T.asn; apply rfl; apply rfl) | (apply T.len; apply rfl; apply rfl) | (apply T.gtr; apply rfl; apply rfl; apply rfl) | (apply T.eql; apply rfl; apply rfl; apply rfl) | (apply T.pickF; apply rfl; apply rfl; apply rfl) | with_reducible refine Sr.nil ?_ | with_reducible refine S.seq ?_ | with_reducible refine S.block ?_ | with_reducible refine S.reg ?_ | with_reducible refine S.skip ?_ | (apply T.ungV; apply rfl; (first | with_reducible rfl | decide)) | (apply S.condQ; apply rfl; all_goals (intro _; try (exfalso; first | omega | with_reducible contradiction))) | (apply T.gcase; apply rfl; apply rfl; all_goals (intro _; try (exfalso; first | omega | with_reducible contradiction))) | fail)
  refine S.loopE 0 [0] (fun R b' μ H' e => ∃ i : Nat, H' = H ∧ e = (4, .int .i64 i) :: b' ∧ (i ≤ ts.length ∧ ∀ s ∈ ts.take i, (pieces 46 s).length = 3 ∧ Lib.validD s = true) ∧ μ = ts.length - i) rfl rfl ?_ _ _ ⟨0, rfl, rfl, ⟨Nat.zero_le _, by simp⟩, rfl⟩ (by repeat' first | exact trivial | refine And.intro rfl ?_)
  rintro _ _ _ ⟨i, rfl, rfl, ⟨c1, c2⟩, rfl⟩ ih
  by_cases c5 : i < ts.length
  · obtain ⟨hmem, htk⟩ := hget i c5
    generalize hs : ts.getD i [] = s at *
    have hsl := tot_mem hmem
    have hpc := pieces_count 46 s
    repeat' (first | (apply T.loadS; apply rfl; infer_instance; (first | omega | (simp only [List.length_map]; omega)); apply rfl) | (apply T.mv; apply rfl; apply rfl) | (apply T.len; apply rfl; apply rfl) | (apply T.lss; apply rfl; apply rfl; apply rfl) | (apply T.ixN; apply rfl; apply rfl; infer_instance; omega; (first | omega | (simp only [List.length_map]; omega) | (simp; omega)); apply rfl) | with_reducible refine Sr.nil ?_ | with_reducible refine S.seq ?_ | with_reducible refine S.block ?_ | with_reducible refine S.reg ?_ | with_reducible refine S.skip ?_ | (apply S.condQ; apply rfl; all_goals (intro _; try (exfalso; first | omega | with_reducible contradiction))) | fail)
    rw [hs]
    refine T.call rfl rfl (dots_spec (by omega)) ?_
    rintro _ _ ⟨rfl, hH⟩
    have hH2 := hH.symm
    subst hH2
    by_cases h3 : (pieces 46 s).length = 3
    · rw [show s.count 46 = 2 by omega]
      repeat' (first | (apply T.loadS; apply rfl; infer_instance; (first | omega | (simp only [List.length_map]; omega)); apply rfl) | (apply T.mv; apply rfl; apply rfl) | (apply T.neq; apply rfl; apply rfl; apply rfl) | (apply T.ixN; apply rfl; apply rfl; infer_instance; omega; (first | omega | (simp only [List.length_map]; omega) | (simp; omega)); apply rfl) | (apply T.ungV; apply rfl; (first | with_reducible rfl | decide)) | (with_reducible apply T.ofRet) | fail)
      rw [hs]
      refine T.call rfl rfl node_spec ?_
      rintro _ _ ⟨rfl, hH⟩
      have hH2 := hH.symm
      subst hH2
      repeat' (first | (apply T.bsL; apply rfl; apply rfl; apply rfl; apply rfl; apply rfl; intro nb) | (apply T.ungV; apply rfl; (first | with_reducible rfl | decide)) | (with_reducible apply T.ofRet) | fail)
      refine T.call rfl rfl (refShaped_spec (v := [strNd [] s]) rfl (by show 1 ≤ _; omega) (fun x hx => by rw [List.mem_singleton.1 hx]; exact ⟨by show s.length ≤ _; omega, Nat.zero_le _⟩)) ?_
      rintro _ _ ⟨rfl, hH⟩
      have hH2 := hH.symm
      subst hH2
      rw [shaped_one]
      cases hv : Lib.validD s with
      | false =>
        have hq := hbad s hmem (fun h => by rw [okT, hv] at h; cases h.2.1)
        subst hq
        repeat' (first | (apply T.asn; apply rfl; apply rfl) | (apply T.notB; apply rfl; apply rfl) | (apply T.pickF; apply rfl; apply rfl; apply rfl) | with_reducible refine Sr.nil ?_ | with_reducible refine S.seq ?_ | with_reducible refine S.reg ?_ | (apply T.ungV; apply rfl; (first | with_reducible rfl | decide)) | (apply S.condTV; apply rfl; (first | with_reducible rfl | decide)) | (apply T.retW; apply rfl) | (with_reducible apply T.ofRet) | fail)
        exact ⟨_, PSub.drop (PSub.refl _), rfl, rfl⟩
      | true =>
        repeat' (first | (apply T.mv; apply rfl; apply rfl) | (apply T.asn; apply rfl; apply rfl) | (apply T.addI; apply rfl; apply rfl; omega; apply rfl) | (apply T.notB; apply rfl; apply rfl) | (apply T.pickF; apply rfl; apply rfl; apply rfl) | with_reducible refine Sr.nil ?_ | with_reducible refine S.reg ?_ | with_reducible refine S.skip ?_ | with_reducible refine S.inBlock ?_ | (apply T.ungV; apply rfl; (first | with_reducible rfl | decide)) | (apply S.condFV; apply rfl; (first | with_reducible rfl | decide)) | (with_reducible apply T.ofRet) | fail)
        refine S.sublist ?_ (PSub.drop (PSub.refl _))
        exact ih _ _ _ _ ⟨i + 1, rfl, rfl, ⟨c5, fun s' h => by
          rw [htk] at h
          rcases List.mem_append.1 h with h | h
          · exact c2 s' h
          · rw [List.mem_singleton.1 h]; exact ⟨h3, hv⟩⟩, rfl⟩ (by omega) (by repeat' first | exact trivial | refine And.intro rfl ?_)
    · have hq := hbad s hmem (fun h => h3 h.1)
      subst hq
      have hne : ¬ ((s.count 46 : Nat) : Int) = 2 := by omega
      repeat' (first | (apply T.mv; apply rfl; apply rfl) | (apply T.asn; apply rfl; apply rfl) | (apply T.neq; apply rfl; apply rfl; apply rfl) | (apply T.pickT; apply rfl; apply rfl; apply rfl) | with_reducible refine Sr.nil ?_ | with_reducible refine S.seq ?_ | with_reducible refine S.reg ?_ | (apply T.skip; apply rfl; (first | with_reducible rfl | decide); apply rfl) | (apply S.condTV; apply rfl; (first | with_reducible rfl | decide)) | (apply T.gcase; apply rfl; apply rfl; all_goals (intro _; try (exfalso; first | omega | with_reducible contradiction))) | (apply T.retW; apply rfl) | (with_reducible apply T.ofRet) | fail)
      exact ⟨_, PSub.refl _, rfl, rfl⟩
  · obtain rfl : i = ts.length := by omega
    rw [List.take_length] at c2
    clear ih
    obtain ⟨hm0, -⟩ := hget 0 (by omega)
    have hp0 := pieces3_len (c2 _ hm0).1
    have hsl0 := tot_mem hm0
    repeat' (first | (apply T.loadS; apply rfl; infer_instance; (first | omega | (simp only [List.length_map]; omega)); apply rfl) | (apply T.mv; apply rfl; apply rfl) | (apply T.len; apply rfl; apply rfl) | (apply T.lss; apply rfl; apply rfl; apply rfl) | (apply T.ixC; apply rfl; infer_instance; omega; (first | omega | (simp only [List.length_map]; omega) | (simp; omega)); apply rfl) | with_reducible refine Sr.nil ?_ | with_reducible refine S.seq ?_ | with_reducible refine S.reg ?_ | (apply S.exit; apply rfl) | (apply S.condQ; apply rfl; all_goals (intro _; try (exfalso; first | omega | with_reducible contradiction))) | fail)
    refine T.call rfl rfl (cut_spec (by omega) (c2 _ hm0).1) ?_
    rintro _ _ ⟨rfl, rfl⟩
    have hpay : payOf ts = pc (ts.getD 0 []) 1 := rfl
    repeat' (first | (apply Sr.same; refine T.aidxP (i := 1) (v := sV (payOf ts)) rfl rfl rfl (by decide) rfl rfl ?_) | (apply T.mv; apply rfl; apply rfl) | (apply T.asn; apply rfl; apply rfl) | (apply T.buildL; apply rfl; apply rfl; apply rfl) | with_reducible refine Sr.nil ?_ | with_reducible refine S.seq ?_ | with_reducible refine S.reg ?_ | (with_reducible apply T.ofRet) | fail)
    refine T.call rfl rfl node_spec ?_
    rintro _ _ ⟨rfl, hH⟩
    have hH2 := hH.symm
    subst hH2
    repeat' (first | (apply T.mv; apply rfl; apply rfl) | (apply T.asn; apply rfl; apply rfl) | (apply T.len; apply rfl; apply rfl) | (apply T.buildL; apply rfl; apply rfl; apply rfl) | (apply T.bsL; apply rfl; apply rfl; apply rfl; apply rfl; apply rfl; intro nb) | with_reducible refine Sr.nil ?_ | with_reducible refine S.seq ?_ | with_reducible refine S.block ?_ | with_reducible refine S.reg ?_ | (with_reducible apply T.ofRet) | fail)
    refine S.rowOfN (n := 3) (sz := 6) rfl (by decide) ?_
    refine S.loopE 1 [0, 5] (fun R b' μ H' e => ∃ (i k : Nat) (va : Option Addr) (vc : Nat), H' = .row va vc 39 6 k ((genH ts.length (strNd nPay (payOf ts)) ++ (ts.take i).flatMap tri).flatMap ndV) :: R ∧ e = (6, .slice va k vc) :: (7, .int .i64 i) :: b' ∧
      (i ≤ ts.length ∧ k = 3 + 3 * i ∧ ∀ s ∈ ts.take i, pc s 1 = payOf ts) ∧ μ = ts.length - i) rfl rfl ?_ _ _ ⟨0, 3, some ⟨nb, 0, none⟩, 3, rfl, rfl, ⟨Nat.zero_le _, rfl, by simp⟩, rfl⟩ (by repeat' first | exact trivial | refine And.intro rfl ?_)
    rintro _ _ _ ⟨i, k, va, vc, rfl, rfl, ⟨d1, d2, d3⟩, rfl⟩ ih
    by_cases d5 : i < ts.length
    · obtain ⟨hmem, htk⟩ := hget i d5
      generalize hs : ts.getD i [] = s at *
      have hsl := tot_mem hmem
      obtain ⟨h3, hv⟩ := c2 s hmem
      have hp := pieces3 h3
      have happ : (genH ts.length (strNd nPay (payOf ts)) ++ (ts.take i).flatMap tri).flatMap ndV ++ (tri s).flatMap ndV = (genH ts.length (strNd nPay (payOf ts)) ++ (ts.take (i + 1)).flatMap tri).flatMap ndV := by
        rw [htk, List.flatMap_append, List.flatMap_append, List.flatMap_append, List.flatMap_append]
        simp
      repeat' (first | (apply T.loadS; apply rfl; infer_instance; (first | omega | (simp only [List.length_map]; omega)); apply rfl) | (apply T.mv; apply rfl; apply rfl) | (apply T.len; apply rfl; apply rfl) | (apply T.lss; apply rfl; apply rfl; apply rfl) | (apply T.ixN; apply rfl; apply rfl; infer_instance; omega; (first | omega | (simp only [List.length_map]; omega) | (simp; omega)); apply rfl) | with_reducible refine Sr.nil ?_ | with_reducible refine S.seq ?_ | with_reducible refine S.block ?_ | with_reducible refine S.reg ?_ | with_reducible refine S.skip ?_ | (apply S.condQ; apply rfl; all_goals (intro _; try (exfalso; first | omega | with_reducible contradiction))) | fail)
      rw [hs]
      refine T.call rfl rfl (cut_spec (by omega) h3) ?_
      rintro _ _ ⟨rfl, hH⟩
      have hH2 := hH.symm
      subst hH2
      by_cases hpy : pc s 1 = payOf ts
      · have hnq : decide (¬ pc s 1 = payOf ts) = false := decide_eq_false (fun h => h hpy)
        repeat' (first | (apply T.sneq; apply rfl; apply rfl; apply rfl; rw [hnq]) | (apply T.mv; apply rfl; apply rfl) | (apply T.load; apply rfl; apply rfl; infer_instance; apply rfl; apply rfl) | (apply T.ixA; apply rfl; apply rfl; omega; apply rfl) | (apply T.storeW; apply rfl; apply rfl; infer_instance; (first | rfl | (simp only [List.length_append, List.length_map, List.length_set, List.length_replicate, List.length_cons, List.length_nil]; first | done | omega)); (first | rfl | (simp only [List.length_append, List.length_map, List.length_set, List.length_replicate, List.length_cons, List.length_nil]; first | done | omega)); (first | rfl | (repeat' first | apply all_nV | apply all_bV | apply all_iV | rfl | apply all_app))) | (apply T.alloc; apply rfl; intro nb) | with_reducible refine Sr.nil ?_ | with_reducible refine S.seq ?_ | with_reducible refine S.reg ?_ | with_reducible refine S.skip ?_ | (apply S.condFV; apply rfl; (first | with_reducible rfl | decide)) | (with_reducible apply T.ofRet) | fail)
        (apply S.draw; (case Hs => exact [.blk nb (fillV (pieces 46 s)) 47]); (case es => exact  [4, 7, 8, 9]); (case n => exact  11); (case hn => rfl))
        repeat' (first | (apply Sr.same; refine T.call rfl rfl node_spec ?_; rintro _ _ ⟨rfl, hH⟩; have hH2 := hH.symm; subst hH2) | (apply T.mv; apply rfl; apply rfl) | (apply T.asn; apply rfl; apply rfl) | (apply T.load; apply rfl; apply rfl; infer_instance; apply rfl; apply rfl) | (apply T.addI; apply rfl; apply rfl; omega; apply rfl) | (apply T.ixA; apply rfl; apply rfl; omega; apply rfl) | (apply T.buildL; apply rfl; apply rfl; apply rfl) | (apply T.bsL; apply rfl; apply rfl; apply rfl; apply rfl; apply rfl; intro nb) | (apply T.append; apply rfl; apply rfl; infer_instance; (first | rfl | (simp; done)); (first | rfl | (simp; done)); apply rfl; apply rfl; (constructor <;> omega); apply rfl; intro na nc) | with_reducible refine Sr.nil ?_ | with_reducible refine S.reg ?_ | with_reducible refine S.inBlock ?_ | (with_reducible apply T.ofRet) | (apply SA.qn; apply rfl; apply rfl; apply rfl; apply rfl; kernel_rfl) | (apply SA.qz; apply rfl; apply rfl; apply rfl; apply rfl; kernel_rfl) | (apply SA.qsn; apply rfl; apply rfl; apply rfl; kernel_rfl; (first | exact fun _ h => h | exact fun _ h => St.psub h (by ((repeat (first | dsimp only [List.set_cons_zero] | dsimp only [List.set_cons_succ])); repeat' first | exact PSub.refl _ | exact PSub.nil | (apply PSub.take; (repeat' first | (with_reducible exact pick_hd) | (with_reducible apply pick_tl))) | (with_reducible apply PSub.drop) | ((apply PSub.take); (repeat' first | exact pick_hd | (apply pick_tl))))))) | (apply SA.en; apply rfl; apply rfl; kernel_rfl) | (apply SA.done; apply rfl; kernel_rfl) | (apply SK.intro; (first | exact fun _ h => h | exact fun _ h => St.psub h (by ((repeat (first | dsimp only [List.set_cons_zero] | dsimp only [List.set_cons_succ])); repeat' first | exact PSub.refl _ | exact PSub.nil | (apply PSub.take; (repeat' first | (with_reducible exact pick_hd) | (with_reducible apply pick_tl))) | (with_reducible apply PSub.drop) | ((apply PSub.take); (repeat' first | exact pick_hd | (apply pick_tl))))))) | fail)
        skip
        refine S.sublist (H' := .row na nc 39 6 (k + 3) ((genH ts.length (strNd nPay (payOf ts)) ++ (ts.take (i + 1)).flatMap tri).flatMap ndV) :: _) ?_ (by rw [← happ]; exact PSub.drop (PSub.refl _))
        exact ih _ _ _ _ ⟨i + 1, k + 3, na, nc, rfl, rfl, ⟨d5, by omega, fun s' h => by
          rw [htk] at h
          rcases List.mem_append.1 h with h | h
          · exact d3 s' h
          · rw [List.mem_singleton.1 h]; exact hpy⟩, rfl⟩ (by omega) (by repeat' first | exact trivial | refine And.intro rfl ?_)
      · have hq := hbad s hmem (fun h => hpy h.2.2)
        subst hq
        repeat' (first | (apply T.sneq; apply rfl; apply rfl; apply rfl) | (apply T.mv; apply rfl; apply rfl) | (apply T.asn; apply rfl; apply rfl) | (apply T.load; apply rfl; apply rfl; infer_instance; apply rfl; apply rfl) | (apply T.ixA; apply rfl; apply rfl; omega; apply rfl) | (apply T.storeW; apply rfl; apply rfl; infer_instance; (first | rfl | (simp only [List.length_append, List.length_map, List.length_set, List.length_replicate, List.length_cons, List.length_nil]; first | done | omega)); (first | rfl | (simp only [List.length_append, List.length_map, List.length_set, List.length_replicate, List.length_cons, List.length_nil]; first | done | omega)); (first | rfl | (repeat' first | apply all_nV | apply all_bV | apply all_iV | rfl | apply all_app))) | (apply T.alloc; apply rfl; intro nb) | with_reducible refine Sr.nil ?_ | with_reducible refine S.seq ?_ | with_reducible refine S.reg ?_ | (apply S.condQ; apply rfl; all_goals (intro _; try (exfalso; first | omega | with_reducible contradiction))) | (apply T.retW; apply rfl) | (with_reducible apply T.ofRet) | fail)
        exact ⟨_, PSub.drop (PSub.drop (PSub.refl _)), rfl, rfl⟩
    · obtain rfl : i = ts.length := by omega
      rw [List.take_length] at d3 ⊢
      rw [if_pos (fun s h => ⟨(c2 s h).1, (c2 s h).2, d3 s h⟩)] at hQ
      rw [show genH ts.length (strNd nPay (payOf ts)) ++ ts.flatMap tri = genV ts (payOf ts) from rfl]
      have hlen := genV_len ts (payOf ts)
      have h3 : ∀ s ∈ ts, (pieces 46 s).length = 3 := fun s h => (c2 s h).1
      have hpl : (payOf ts).length ≤ 1048576 := by rw [hpay]; omega
      have htx := genV_tx (B := 1048576) h3 (fun s h => Nat.le_trans (tot_mem h) hl) hpl (by omega)
      have hw := wL_gen (pay := payOf ts) h3
      repeat' (first | (apply T.mv; apply rfl; apply rfl) | (apply T.len; apply rfl; apply rfl) | (apply T.lss; apply rfl; apply rfl; apply rfl) | with_reducible refine Sr.nil ?_ | with_reducible refine S.seq ?_ | with_reducible refine S.reg ?_ | (apply S.exit; apply rfl) | (apply S.condQ; apply rfl; all_goals (intro _; try (exfalso; first | omega | with_reducible contradiction))) | fail)
      refine T.call rfl rfl (refPrint_spec (v := genV ts (payOf ts)) (by omega) (by omega) (fun x hx => by
        obtain ⟨y1, y2, y3, y4⟩ := htx x hx
        exact ⟨by omega, by omega⟩) (by omega)) ?_
      rintro _ _ ⟨rfl, rfl⟩
      rw [hQ]
      repeat' (first | (apply T.mv; apply rfl; apply rfl) | (apply T.asn; apply rfl; apply rfl) | (apply T.extract; apply rfl; apply rfl; apply rfl) | with_reducible refine Sr.nil ?_ | with_reducible refine S.seq ?_ | with_reducible refine S.reg ?_ | (apply T.retW; apply rfl) | (with_reducible apply T.ofRet) | fail)
      exact ⟨_, PSub.drop (PSub.refl _), rfl, rfl⟩
end
end Go.Proofs.YtnimcchalinihaaDoor
/- The law of SerialWrites: walked. -/
namespace Go.Proofs.YtnimcchalinihaaDoor
open Sg Go.IntWalk
set_option maxRecDepth 100000
set_option maxHeartbeats 4000000
def markT : List UInt8 := [109, 97, 114, 107]
section
variable {F : World} {M : List Nat} {H : List Res} {ta : Option Addr} {tc n : Nat} {ts : List (List UInt8)}
theorem take_ts {i : Nat} (h : i < ts.length) : ts.take (i + 1) = ts.take i ++ [ts.getD i []] := by
  rw [List.take_succ_eq_append_getElem h, List.getD_eq_getElem?_getD, List.getElem?_eq_getElem h, Option.getD_some]
theorem sameTs_spec {a b : Option Addr} {ca cb : Nat} {xs : List (List UInt8)} (ha : Rd F M H a (xs.map sV)) (hb : Rd F M H b (xs.map sV)) (hn : xs.length ≤ 140737488355328) :
    Meets Tryd.prog 24 [.slice a xs.length ca, .slice b xs.length cb] F M H (fun e H' => e = .returned (.bool true) ∧ H' = H) := by
  refine Meets.enter Tryd.func24 rfl rfl ?_
  repeat' (first | (apply T.mv; apply rfl; apply rfl) | (apply T.asn; apply rfl; apply rfl) | (apply T.len; apply rfl; apply rfl) | (apply T.neq; apply rfl; apply rfl; apply rfl) | with_reducible refine Sr.nil ?_ | with_reducible refine S.seq ?_ | with_reducible refine S.block ?_ | with_reducible refine S.reg ?_ | with_reducible refine S.skip ?_ | (apply S.condQ; apply rfl; all_goals (intro _; try (exfalso; first | omega | with_reducible contradiction))) | fail)
  refine S.loopE 0 [0, 1] (fun R b' μ H' e => ∃ i : Nat, H' = R ∧ e = (5, .int .i64 i) :: b' ∧ i ≤ xs.length ∧ μ = xs.length - i) rfl rfl ?_ _ _ ⟨0, rfl, rfl, by omega, rfl⟩ (by repeat' first | exact trivial | refine And.intro rfl ?_)
  rintro _ _ _ ⟨i, rfl, rfl, hi, rfl⟩ ih
  by_cases h1 : i < xs.length
  · repeat' (first | (apply T.sneqR; apply rfl; apply rfl; apply rfl) | (apply T.loadS; apply rfl; infer_instance; (first | omega | (simp only [List.length_map]; omega)); apply rfl) | (apply T.mv; apply rfl; apply rfl) | (apply T.asn; apply rfl; apply rfl) | (apply T.len; apply rfl; apply rfl) | (apply T.lss; apply rfl; apply rfl; apply rfl) | (apply T.addI; apply rfl; apply rfl; omega; apply rfl) | (apply T.ixN; apply rfl; apply rfl; infer_instance; omega; (first | omega | (simp only [List.length_map]; omega) | (simp; omega)); apply rfl) | with_reducible refine Sr.nil ?_ | with_reducible refine S.seq ?_ | with_reducible refine S.block ?_ | with_reducible refine S.reg ?_ | with_reducible refine S.skip ?_ | with_reducible refine S.inBlock ?_ | (apply S.quiet; apply rfl; kernel_rfl) | (apply S.condFV; apply rfl; (first | with_reducible rfl | decide)) | (apply S.condQ; apply rfl; all_goals (intro _; try (exfalso; first | omega | with_reducible contradiction))) | fail)
    exact ih _ _ _ _ ⟨i + 1, rfl, rfl, by omega, rfl⟩ (by omega) (by repeat' first | exact trivial | refine And.intro rfl ?_)
  · repeat' (first | (apply T.mv; apply rfl; apply rfl) | (apply T.asn; apply rfl; apply rfl) | (apply T.len; apply rfl; apply rfl) | (apply T.lss; apply rfl; apply rfl; apply rfl) | with_reducible refine Sr.nil ?_ | with_reducible refine S.seq ?_ | with_reducible refine S.reg ?_ | (apply S.exit; apply rfl) | (apply S.condQ; apply rfl; all_goals (intro _; try (exfalso; first | omega | with_reducible contradiction))) | (apply T.retW; apply rfl) | fail)
    exact ⟨_, PSub.refl _, rfl, rfl⟩
theorem twinT_spec (hR : Rd F M H ta (ts.map sV)) (hn : ts.length = n) (hl : n ≤ 2000000) :
    Meets Tryd.prog 8 [.slice ta n tc] F M H (fun e H' => ∃ a cp, e = .returned (.slice a n cp) ∧ H' = .row a cp 9 1 n (ts.map sV) :: H) := by
  subst hn
  refine Meets.enter Tryd.func8 rfl rfl ?_
  refine S.nilrow 9 1 ?_
  repeat' (first | (apply T.asn; apply rfl; apply rfl) | with_reducible refine Sr.nil ?_ | with_reducible refine S.seq ?_ | with_reducible refine S.block ?_ | with_reducible refine S.reg ?_ | fail)
  refine S.loopE 1 [0] (fun R b' μ H' e => ∃ (i : Nat) (a : Option Addr) (cp : Nat), H' = .row a cp 9 1 i ((ts.take i).map sV) :: R ∧ e = (3, .slice a i cp) :: (4, .int .i64 i) :: b' ∧ i ≤ ts.length ∧ μ = ts.length - i) rfl rfl ?_ _ _ ⟨0, none, 0, rfl, rfl, Nat.zero_le _, rfl⟩ (by repeat' first | exact trivial | refine And.intro rfl ?_)
  rintro _ _ _ ⟨i, a, cp, rfl, rfl, h1, rfl⟩ ih
  by_cases h2 : i < ts.length
  · have htk := take_ts h2
    repeat' (first | (apply Sr.same; refine T.appendL (g := sV) (us := [ts.getD i []]) rfl rfl inferInstance rfl (fun _ => rfl) rfl (by constructor <;> omega) rfl ?_; intro na nc) | (apply T.loadS; apply rfl; infer_instance; (first | omega | (simp only [List.length_map]; omega)); apply rfl) | (apply T.mv; apply rfl; apply rfl) | (apply T.asn; apply rfl; apply rfl) | (apply T.len; apply rfl; apply rfl) | (apply T.lss; apply rfl; apply rfl; apply rfl) | (apply T.addI; apply rfl; apply rfl; omega; apply rfl) | (apply T.ixN; apply rfl; apply rfl; infer_instance; omega; (first | omega | (simp only [List.length_map]; omega) | (simp; omega)); apply rfl) | (apply T.bs; apply rfl; apply rfl; apply rfl; apply rfl; apply rfl; apply rfl; intro nb) | with_reducible refine Sr.nil ?_ | with_reducible refine S.seq ?_ | with_reducible refine S.block ?_ | with_reducible refine S.reg ?_ | with_reducible refine S.skip ?_ | with_reducible refine S.inBlock ?_ | (apply S.condQ; apply rfl; all_goals (intro _; try (exfalso; first | omega | with_reducible contradiction))) | fail)
    rw [← htk]
    exact ih _ _ _ _ ⟨i + 1, na, nc, rfl, rfl, h2, rfl⟩ (by omega) (by repeat' first | exact trivial | refine And.intro rfl ?_)
  · obtain rfl : i = ts.length := by omega
    rw [List.take_length]
    repeat' (first | (apply T.mv; apply rfl; apply rfl) | (apply T.asn; apply rfl; apply rfl) | (apply T.len; apply rfl; apply rfl) | (apply T.lss; apply rfl; apply rfl; apply rfl) | with_reducible refine Sr.nil ?_ | with_reducible refine S.seq ?_ | with_reducible refine S.reg ?_ | (apply S.exit; apply rfl) | (apply S.condQ; apply rfl; all_goals (intro _; try (exfalso; first | omega | with_reducible contradiction))) | (apply T.retW; apply rfl) | fail)
    exact ⟨_, PSub.refl _, _, _, rfl, rfl⟩
theorem lent_spec (hR : Rd F M H ta (ts.map sV)) (hn : ts.length = n) (hl : n ≤ 2000000) :
    Meets Tryd.prog 5 [.slice ta n tc] F M H (fun e H' => ∃ a cp, e = .returned (.slice a n cp) ∧ H' = .row a cp 9 1 (n + 20) ((ts ++ List.replicate 20 markT).map sV) :: H) := by
  subst hn
  refine Meets.enter Tryd.func5 rfl rfl ?_
  repeat' (first | (apply T.mv; apply rfl; apply rfl) | (apply T.asn; apply rfl; apply rfl) | with_reducible refine Sr.nil ?_ | with_reducible refine S.seq ?_ | with_reducible refine S.reg ?_ | fail)
  refine T.call rfl rfl (twinT_spec hR rfl hl) ?_
  rintro _ _ ⟨a0, cp0, rfl, rfl⟩
  repeat' (first | (apply T.asn; apply rfl; apply rfl) | with_reducible refine Sr.nil ?_ | with_reducible refine S.seq ?_ | with_reducible refine S.block ?_ | with_reducible refine S.reg ?_ | (with_reducible apply T.ofRet) | fail)
  refine S.loopE 1 [0] (fun R b' μ H' e => ∃ (j : Nat) (a : Option Addr) (cp : Nat), H' = .row a cp 9 1 (ts.length + j) ((ts ++ List.replicate j markT).map sV) :: R ∧ e = (3, .slice a (ts.length + j) cp) :: (4, .int .i64 j) :: b' ∧ j ≤ 20 ∧ μ = 20 - j) rfl rfl ?_ _ _ ⟨0, a0, cp0, by rw [List.replicate_zero, List.append_nil]; rfl, rfl, Nat.zero_le _, rfl⟩ (by repeat' first | exact trivial | refine And.intro rfl ?_)
  rintro _ _ _ ⟨j, a, cp, rfl, rfl, h1, rfl⟩ ih
  by_cases h2 : j < 20
  · have hrep : ts ++ List.replicate j markT ++ [markT] = ts ++ List.replicate (j + 1) markT := by rw [List.append_assoc, List.replicate_succ']
    repeat' (first | (apply Sr.same; refine T.appendL (g := sV) (us := [markT]) rfl rfl inferInstance rfl (fun _ => rfl) rfl (by constructor <;> omega) rfl ?_; intro na nc) | (apply T.mv; apply rfl; apply rfl) | (apply T.asn; apply rfl; apply rfl) | (apply T.lss; apply rfl; apply rfl; apply rfl) | (apply T.addI; apply rfl; apply rfl; omega; apply rfl) | (apply T.bs; apply rfl; apply rfl; apply rfl; apply rfl; apply rfl; apply rfl; intro nb) | with_reducible refine Sr.nil ?_ | with_reducible refine S.seq ?_ | with_reducible refine S.block ?_ | with_reducible refine S.reg ?_ | with_reducible refine S.skip ?_ | with_reducible refine S.inBlock ?_ | (apply S.condQ; apply rfl; all_goals (intro _; try (exfalso; first | omega | with_reducible contradiction))) | fail)
    rw [hrep]
    exact ih _ _ _ _ ⟨j + 1, na, nc, rfl, rfl, h2, rfl⟩ (by omega) (by repeat' first | exact trivial | refine And.intro rfl ?_)
  · obtain rfl : j = 20 := by omega
    refine S.capR (ad := a) inferInstance fun hcap => ?_
    repeat' (first | (apply T.mv; apply rfl; apply rfl) | (apply T.asn; apply rfl; apply rfl) | (apply T.len; apply rfl; apply rfl) | (apply T.lss; apply rfl; apply rfl; apply rfl) | (apply T.sliceHK; apply rfl; apply rfl; omega; apply rfl) | with_reducible refine Sr.nil ?_ | with_reducible refine S.seq ?_ | with_reducible refine S.reg ?_ | (apply S.exit; apply rfl) | (apply S.condFV; apply rfl; (first | with_reducible rfl | decide)) | (apply T.retW; apply rfl) | fail)
    exact ⟨_, PSub.refl _, _, _, rfl, rfl⟩
theorem whole_spec' {a : Option Addr} {cp m : Nat} (hR : Rd F M H ta (ts.map sV)) (hn : ts.length = n) (hl : n ≤ 2000000) (hm : m = n + 20) :
    Meets Tryd.prog 9 [.slice a n cp, .slice ta n tc] F M (.row a cp 9 1 m ((ts ++ List.replicate 20 markT).map sV) :: H) (fun e H' => e = .returned (.bool true) ∧ H' = .row a cp 9 1 m ((ts ++ List.replicate 20 markT).map sV) :: H) := by
  subst hn
  refine Meets.enter Tryd.func9 rfl rfl ?_
  refine S.capR (ad := a) inferInstance fun hcap => ?_
  have hlen : ((ts ++ List.replicate 20 markT).map sV).length = m := by rw [hm]; simp
  have h20 : ((ts.length : Nat) : Int) + 20 = ((m : Nat) : Int) := by omega
  repeat' (first | (apply T.addI; apply rfl; apply rfl; omega; apply rfl; rw [h20]) | (apply T.mv; apply rfl; apply rfl) | (apply T.asn; apply rfl; apply rfl) | (apply T.len; apply rfl; apply rfl) | (apply T.sliceHK; apply rfl; apply rfl; omega; apply rfl) | with_reducible refine Sr.nil ?_ | with_reducible refine S.seq ?_ | with_reducible refine S.block ?_ | with_reducible refine S.reg ?_ | fail)
  refine S.loopE 0 [0, 1, 5] (fun R b' μ H' e => ∃ i : Nat, H' = R ∧ e = (6, .int .i64 i) :: b' ∧ i ≤ 20 ∧ μ = 20 - i) rfl rfl ?_ _ _ ⟨0, rfl, rfl, by omega, rfl⟩ (by repeat' first | exact trivial | refine And.intro rfl ?_)
  rintro _ _ _ ⟨i, hR1, rfl, hi, rfl⟩ ih
  have hR2 := hR1.symm
  subst hR2
  by_cases h1 : i < 20
  · have hv : ((ts ++ List.replicate 20 markT).map sV)[ts.length + i]? = some (sV markT) := by
      rw [List.getElem?_map, List.getElem?_append_right (by omega), List.getElem?_replicate, if_pos (by omega)]
      rfl
    have hadd : ((ts.length : Nat) : Int) + (i : Nat) = ((ts.length + i : Nat) : Int) := by omega
    repeat' (first | (apply T.addI; apply rfl; apply rfl; omega; apply rfl; rw [hadd]) | (apply T.loadE; apply rfl; apply rfl; infer_instance; exact hv; apply rfl) | (apply T.sneqR; apply rfl; apply rfl; apply rfl) | (apply T.mv; apply rfl; apply rfl) | (apply T.asn; apply rfl; apply rfl) | (apply T.len; apply rfl; apply rfl) | (apply T.lss; apply rfl; apply rfl; apply rfl) | (apply T.addI; apply rfl; apply rfl; omega; apply rfl) | (apply T.ixN; apply rfl; apply rfl; infer_instance; omega; (first | omega | (simp only [List.length_map]; omega) | (simp; omega)); apply rfl) | with_reducible refine Sr.nil ?_ | with_reducible refine S.seq ?_ | with_reducible refine S.block ?_ | with_reducible refine S.reg ?_ | with_reducible refine S.skip ?_ | with_reducible refine S.inBlock ?_ | (apply S.condFV; apply rfl; (first | with_reducible rfl | decide)) | (apply S.condQ; apply rfl; all_goals (intro _; try (exfalso; first | omega | with_reducible contradiction))) | fail)
    exact ih _ _ _ _ ⟨i + 1, rfl, rfl, by omega, rfl⟩ (by omega) (by repeat' first | exact trivial | refine And.intro rfl ?_)
  · have hI : Rd F M (.row a cp 9 1 m ((ts ++ List.replicate 20 markT).map sV) :: H) a (ts.map sV) := by
      have h1 : Rd F M (.row a cp 9 1 m ((ts ++ List.replicate 20 markT).map sV) :: H) a ((ts ++ List.replicate 20 markT).map sV) := Rd.row
      have h2 := h1.take ts.length
      rw [show ((ts ++ List.replicate 20 markT).map sV).take ts.length = ts.map sV by rw [List.map_append, List.take_append_of_le_length (by simp), List.take_of_length_le (by simp)]] at h2
      exact h2
    repeat' (first | (apply T.mv; apply rfl; apply rfl) | (apply T.lss; apply rfl; apply rfl; apply rfl) | with_reducible refine Sr.nil ?_ | with_reducible refine S.seq ?_ | with_reducible refine S.reg ?_ | (apply S.exit; apply rfl) | (apply S.condQ; apply rfl; all_goals (intro _; try (exfalso; first | omega | with_reducible contradiction))) | fail)
    refine T.call rfl rfl (sameTs_spec hI inferInstance (by omega)) ?_
    rintro _ _ ⟨rfl, rfl⟩
    repeat' (first | (apply T.asn; apply rfl; apply rfl) | with_reducible refine Sr.nil ?_ | (apply T.retW; apply rfl) | (with_reducible apply T.ofRet) | fail)
    exact ⟨_, PSub.refl _, rfl, rfl⟩
theorem tot_x : ∀ (ts : List (List UInt8)), tot (ts.map (· ++ [120])) = tot ts + ts.length
  | [] => rfl
  | s :: r => by
    rw [List.map_cons, tot, tot_x r, tot, List.length_cons, List.length_append, List.length_singleton]
    omega
theorem rd_pre {a : Option Addr} {cp m : Nat} {xs ys : List (List UInt8)} : Rd F M (.row a cp 9 1 m ((xs ++ ys).map sV) :: H) a (xs.map sV) := by
  have h1 : Rd F M (.row a cp 9 1 m ((xs ++ ys).map sV) :: H) a ((xs ++ ys).map sV) := Rd.row
  have h2 := h1.take xs.length
  rw [show ((xs ++ ys).map sV).take xs.length = xs.map sV by rw [List.map_append, List.take_append_of_le_length (by simp), List.take_of_length_le (by simp)]] at h2
  exact h2
end
theorem writes_walk {F : World} {ta : Option Addr} {tc n : Nat} {ts : List (List UInt8)} (hT : Tabs F []) (hm : MaxL F []) (hR : ∀ H, Rd F [] H ta (ts.map sV)) (hn : ts.length = n) (hl : tot ts + ts.length ≤ 1048576) :
    Meets Tryd.prog 3 [.slice ta n tc] F [] [] (fun e _ => e = .returned (.bool true)) := by
  subst hn
  refine Meets.enter Tryd.func3 rfl rfl ?_
  repeat' (first | (apply T.mv; apply rfl; apply rfl) | (apply T.asn; apply rfl; apply rfl) | with_reducible refine Sr.nil ?_ | with_reducible refine S.seq ?_ | with_reducible refine S.reg ?_ | fail)
  refine T.call rfl rfl (lent_spec (hR _) rfl (by omega)) ?_
  rintro _ _ ⟨a, cp, rfl, rfl⟩
  repeat' (first | (apply T.mv; apply rfl; apply rfl) | (apply T.asn; apply rfl; apply rfl) | with_reducible refine Sr.nil ?_ | with_reducible refine S.seq ?_ | with_reducible refine S.reg ?_ | (with_reducible apply T.ofRet) | fail)
  haveI hI := rd_pre (F := F) (M := []) (H := []) (a := a) (cp := cp) (m := ts.length + 20) (xs := ts) (ys := List.replicate 20 markT)
  refine T.call rfl rfl (general_spec (ts := ts) hT hm rfl (by omega) (by omega)) ?_
  rintro _ _ ⟨rfl, rfl⟩
  repeat' (first | (apply T.mv; apply rfl; apply rfl) | (apply T.asn; apply rfl; apply rfl) | (apply T.extract; apply rfl; apply rfl; apply rfl) | with_reducible refine Sr.nil ?_ | with_reducible refine S.seq ?_ | with_reducible refine S.reg ?_ | (with_reducible apply T.ofRet) | fail)
  refine T.call rfl rfl (twinT_spec (hR _) rfl (by omega)) ?_
  rintro _ _ ⟨a2, cp2, rfl, rfl⟩
  repeat' (first | (with_reducible apply T.ofRet) | fail)
  refine T.call rfl rfl (refGeneral_spec (ts := ts) rfl (by omega) (by omega)) ?_
  rintro _ _ ⟨rfl, rfl⟩
  generalize gnX ts = g1 at *
  repeat' (first | (apply T.sneqR; apply rfl; apply rfl; apply rfl) | (apply T.neqR; apply rfl; apply rfl; apply rfl) | (apply T.mv; apply rfl; apply rfl) | (apply T.asn; apply rfl; apply rfl) | (apply T.extract; apply rfl; apply rfl; apply rfl) | (apply T.pickF; apply rfl; apply rfl; apply rfl) | with_reducible refine Sr.nil ?_ | with_reducible refine S.seq ?_ | with_reducible refine S.reg ?_ | (apply T.ungV; apply rfl; (first | with_reducible rfl | decide)) | (with_reducible apply T.ofRet) | fail)
  refine Sr.frontR a ?_
  refine T.call rfl rfl (whole_spec' (hR _) rfl (by omega) rfl) ?_
  rintro _ _ ⟨rfl, rfl⟩
  repeat' (first | (apply T.asn; apply rfl; apply rfl) | (apply T.notB; apply rfl; apply rfl) | (apply T.pickF; apply rfl; apply rfl; apply rfl) | with_reducible refine Sr.nil ?_ | with_reducible refine S.seq ?_ | with_reducible refine S.block ?_ | with_reducible refine S.reg ?_ | with_reducible refine S.skip ?_ | (apply T.ungV; apply rfl; (first | with_reducible rfl | decide)) | (apply S.condFV; apply rfl; (first | with_reducible rfl | decide)) | (with_reducible apply T.ofRet) | fail)
  refine S.loopE 1 [3] (fun R b' μ H' e => ∃ (i : Nat) (xs : List (List UInt8)), H' = .row a cp 9 1 (ts.length + 20) ((xs ++ List.replicate 20 markT).map sV) :: R ∧ e = (8, .int .i64 i) :: b' ∧ (i ≤ ts.length ∧ xs = (ts.take i).map (· ++ [120]) ++ ts.drop i) ∧ μ = ts.length - i) rfl rfl ?_ _ _ ⟨0, ts, rfl, rfl, ⟨Nat.zero_le _, rfl⟩, rfl⟩ (by repeat' first | exact trivial | refine And.intro rfl ?_)
  rintro _ _ _ ⟨i, xs, rfl, rfl, ⟨c1, c2⟩, rfl⟩ ih
  have hxl : xs.length = ts.length := by rw [c2, List.length_append, List.length_map, List.length_take, List.length_drop]; omega
  have hln : ((xs ++ List.replicate 20 markT).map sV).length = ts.length + 20 := by simp [hxl]
  by_cases c3 : i < ts.length
  · have htk := take_ts c3
    have hdr : ts.drop i = ts.getD i [] :: ts.drop (i + 1) := by
      rw [List.drop_eq_getElem_cons c3]
      simp [List.getD, c3]
    have hml : ((ts.take i).map (· ++ [120])).length = i := by rw [List.length_map, List.length_take]; omega
    have hgi : ((xs ++ List.replicate 20 markT).map sV)[i]? = some (sV (ts.getD i [])) := by
      rw [List.getElem?_map, List.getElem?_append_left (by omega), c2, List.getElem?_append_right (by omega), hml, Nat.sub_self, hdr]
      rfl
    have hst : ((xs ++ List.replicate 20 markT).map sV).set i (sV (ts.getD i [] ++ [120])) = (((ts.take (i + 1)).map (· ++ [120]) ++ ts.drop (i + 1)) ++ List.replicate 20 markT).map sV := by
      have hx2 : xs.set i (ts.getD i [] ++ [120]) = (ts.take (i + 1)).map (· ++ [120]) ++ ts.drop (i + 1) := by
        rw [c2, List.set_append_right _ _ (by omega), hml, Nat.sub_self, hdr, List.set_cons_zero, htk, List.map_append, List.append_assoc]
        rfl
      rw [← List.map_set, List.set_append_left _ _ (by omega), hx2]
    have hmt : (ts.getD i []).length ≤ 1048576 := by
      have := tot_mem (ts := ts) (s := ts.getD i []) (by rw [List.getD_eq_getElem?_getD, List.getElem?_eq_getElem c3, Option.getD_some]; exact List.getElem_mem c3)
      omega
    repeat' (first | (apply T.loadE; apply rfl; apply rfl; infer_instance; exact hgi; apply rfl) | (apply Sr.same; refine T.sadd (b := [120]) rfl rfl (by show _ + 1 ≤ _; omega) rfl ?_) | (apply T.mv; apply rfl; apply rfl) | (apply T.asn; apply rfl; apply rfl) | (apply T.len; apply rfl; apply rfl) | (apply T.lss; apply rfl; apply rfl; apply rfl) | (apply T.addI; apply rfl; apply rfl; omega; apply rfl) | (apply T.ixN; apply rfl; apply rfl; infer_instance; omega; (first | omega | (simp only [List.length_map]; omega) | (simp; omega)); apply rfl) | (apply T.storeE; apply rfl; apply rfl; infer_instance; (first | omega | (simp only [List.length_map]; omega) | (simp; omega)); apply rfl) | with_reducible refine Sr.nil ?_ | with_reducible refine S.seq ?_ | with_reducible refine S.block ?_ | with_reducible refine S.reg ?_ | with_reducible refine S.skip ?_ | with_reducible refine S.inBlock ?_ | (apply S.condQ; apply rfl; all_goals (intro _; try (exfalso; first | omega | with_reducible contradiction))) | fail)
    rw [hst]
    exact ih _ _ _ _ ⟨i + 1, _, rfl, rfl, ⟨c3, rfl⟩, rfl⟩ (by omega) (by repeat' first | exact trivial | refine And.intro rfl ?_)
  · obtain rfl : i = ts.length := by omega
    rw [List.take_length, List.drop_length, List.append_nil] at c2
    have htx : tot xs ≤ 1048576 := by rw [c2, tot_x]; exact hl
    clear ih hI
    haveI hI := fun X => rd_pre (F := F) (M := []) (H := X) (a := a) (cp := cp) (m := ts.length + 20) (xs := xs) (ys := List.replicate 20 markT)
    repeat' (first | (apply T.mv; apply rfl; apply rfl) | (apply T.len; apply rfl; apply rfl) | (apply T.lss; apply rfl; apply rfl; apply rfl) | with_reducible refine Sr.nil ?_ | with_reducible refine S.seq ?_ | with_reducible refine S.reg ?_ | (apply S.exit; apply rfl) | (apply S.condQ; apply rfl; all_goals (intro _; try (exfalso; first | omega | with_reducible contradiction))) | fail)
    refine T.call rfl rfl (twinT_spec (hI _) hxl (by omega)) ?_
    rintro _ _ ⟨a3, cp3, rfl, rfl⟩
    repeat' (first | (with_reducible apply T.ofRet) | fail)
    refine T.call rfl rfl (refGeneral_spec (ts := xs) hxl (by omega) (by omega)) ?_
    rintro _ _ ⟨rfl, rfl⟩
    repeat' (first | (apply T.mv; apply rfl; apply rfl) | (apply T.asn; apply rfl; apply rfl) | (apply T.extract; apply rfl; apply rfl; apply rfl) | with_reducible refine Sr.nil ?_ | with_reducible refine S.seq ?_ | with_reducible refine S.reg ?_ | (with_reducible apply T.ofRet) | fail)
    refine Sr.frontR a ?_
    haveI hI2 := hI [.row a3 cp3 9 1 ts.length (xs.map sV), .row a2 cp2 9 1 ts.length (ts.map sV)]
    refine T.call rfl rfl (general_spec (ts := xs) hT hm hxl (by omega) (by omega)) ?_
    rintro _ _ ⟨rfl, rfl⟩
    generalize gnX xs = g2 at *
    repeat' (first | (apply T.seql; apply rfl; apply rfl; apply rfl) | (apply T.mv; apply rfl; apply rfl) | (apply T.asn; apply rfl; apply rfl) | (apply T.eql; apply rfl; apply rfl; apply rfl) | (apply T.extract; apply rfl; apply rfl; apply rfl) | (apply T.pickT; apply rfl; apply rfl; apply rfl) | (apply T.pickF; apply rfl; apply rfl; apply rfl) | with_reducible refine Sr.nil ?_ | with_reducible refine S.seq ?_ | with_reducible refine S.reg ?_ | (apply T.ungV; apply rfl; (first | with_reducible rfl | decide)) | (apply T.skip; apply rfl; (first | with_reducible rfl | decide); apply rfl) | (apply T.gcase; apply rfl; apply rfl; all_goals (intro _; try (exfalso; first | omega | with_reducible contradiction))) | (apply T.retW; apply rfl) | (with_reducible apply T.ofRet) | fail)
    all_goals first
      | (rename_i hq; exact absurd rfl hq)
      | exact ⟨_, PSub.refl _, by simp⟩
end Go.Proofs.YtnimcchalinihaaDoor
/- From a walk of a law to its row: the arguments opened, and read again behind the call; for every program. -/
namespace Sg
open Go Go.ChangeShapes Go.WideShapes Go.RowKit

theorem trodAll_below {H : Type} {enc : TypeId × Value → H} {P : Program} (hl : laidOutB P = true) {W W' : World} (hb : Below W.heap.size W W') : ∀ {ts : List TypeId} {vs : List Value} {ds : List (DataW H)} {ps : List MemPlace},
    ts.all (fun t => P.readableRec t && decide (t < P.types.size)) = true → DataW.TrodAll enc P W 0 (fun _ => true) true ts vs ds ps → (∀ x ∈ ps, x.block < W.heap.size) → DataW.TrodAll enc P W' 0 (fun b => decide (b < W.heap.size)) true ts vs ds ps
  | [], [], [], _, _, h, _ => h
  | t :: ts, v :: vs, d :: ds, ps, ht, h, hlt => by
    obtain ⟨p, q, h1, h2, rfl⟩ := h
    simp only [List.all_cons, Bool.and_eq_true, decide_eq_true_eq] at ht
    exact ⟨p, q, Below.trod hl ht.1.1 ht.1.2 h1 hb (fun x hx => hlt x (List.mem_append_left _ hx)), trodAll_below hl hb (by simpa using ht.2) h2 (fun x hx => hlt x (List.mem_append_right _ hx)), rfl⟩
  | [], _ :: _, _, _, _, h, _ => h.elim
  | [], [], _ :: _, _, _, h, _ => h.elim
  | _ :: _, [], _, _, _, h, _ => h.elim
  | _ :: _, _ :: _, [], _, _, h, _ => h.elim
theorem trodAll_len {H : Type} {enc : TypeId × Value → H} {P : Program} {W : World} {base : Nat} {sp : Nat → Bool} {held : Bool} : ∀ {ts : List TypeId} {vs : List Value} {ds : List (DataW H)} {ps : List MemPlace}, DataW.TrodAll enc P W base sp held ts vs ds ps → ds.length = ts.length
  | [], [], [], _, _ => rfl
  | t :: ts, v :: vs, d :: ds, ps, h => by
    obtain ⟨p, q, h1, h2, rfl⟩ := h
    rw [List.length_cons, List.length_cons, trodAll_len h2]
  | [], _ :: _, _, _, h => h.elim
  | [], [], _ :: _, _, h => h.elim
  | _ :: _, [], _, _, h => h.elim
  | _ :: _, _ :: _, [], _, h => h.elim
/- Arguments, opened. -/
theorem cell_lt {w : World} {a : Addr} {v : Value} (h : w.cell? a = some v) : a.block < w.heap.size := by
  rcases Nat.lt_or_ge a.block w.heap.size with h1 | h1
  · exact h1
  · simp [World.cell?, Array.getElem?_eq_none h1] at h
/-- Cells of the world at the beginning stay as long as nothing old may be written. -/
theorem Rd.ofF {F : World} {H : List Res} {ad : Option Addr} {vs : List Value} (h : ∀ j u, vs[j]? = some u → ∃ a, ad = some a ∧ F.cell? (a.add j) = some u) : Rd F [] H ad vs := ⟨fun w hw j u hu => by
  obtain ⟨a, ha, hc⟩ := h j u hu
  refine ⟨a, ha, ?_⟩
  have hlt := cell_lt hc
  have := hw.keep _ hlt (by simp)
  simp only [World.cell?] at hc ⊢
  rw [this]
  exact hc⟩
/- Listed arrays of numbers. -/
theorem laid_ints {P : Program} {W : World} {nm : String} {g T E n : Nat} {k : IntKind} {ns : List Int} {cs : Array Value} {fuel : Nat} {p : List MemPlace} {sp : Nat → Bool} (hg : P.globalNamed nm = some g) (hT : P.underlying T = some (.array n E)) (hE : P.underlying E = some (.int k)) (hc : P.cellsOf E = 1)
    (hv : W.var? P nm = some cs) (hd : DataW.trod (fun _ => ()) P W 0 sp false fuel T cs.toList = some (.agg (ns.map fun z => .lit (.int k z)), p)) : ∀ j z, ns[j]? = some z → W.cell? ⟨g, j, none⟩ = some (.int k z) := by
  intro j z hz
  obtain ⟨xs, m, rfl, hx, hlen, hn, hel⟩ := DataW.trod_array hT hd
  simp only [Prod.mk.injEq, DataW.agg.injEq] at hx
  have hj : j < ns.length := (List.getElem?_eq_some_iff.1 hz).1
  have hxl : xs.length = ns.length := by
    have := congrArg List.length hx.1
    simpa using this.symm
  have h1 := hel j (by omega)
  rw [hc, Nat.mul_one, List.getElem?_eq_getElem (by omega)] at h1
  obtain ⟨z', e1, e2, -⟩ := DataW.trod_int hE h1
  have h2 : (xs.map (·.1))[j]? = (ns.map fun z => (DataW.lit (.int k z) : DataW Unit))[j]? := by rw [hx.1]
  rw [List.getElem?_map, List.getElem?_map, hz, List.getElem?_eq_getElem (by omega), e2] at h2
  simp only [Option.map_some, Option.some.injEq, DataW.lit.injEq, Lit.int.injEq, true_and] at h2
  subst h2
  have h3 : cs[j]? = some (.int k z') := by
    have : (cs.toList.drop j).take 1 = [.int k z'] := e1
    have h4 : ((cs.toList.drop j).take 1)[0]? = some (.int k z') := by rw [this]; rfl
    rw [List.getElem?_take_of_lt (by omega), List.getElem?_drop] at h4
    simpa using h4
  rw [World.var?_cell hg hv j]
  exact h3
end Sg
/- Slices of records handed in, opened; for every program. -/
namespace Sg
open Go Go.ChangeShapes Go.WideShapes Go.RowKit
theorem list_of {α : Type} {Q : Nat → α → Prop} : ∀ (n : Nat), (∀ i, i < n → ∃ a, Q i a) → ∃ xs : List α, xs.length = n ∧ ∀ i a, xs[i]? = some a → Q i a
  | 0, _ => ⟨[], rfl, fun i a h => by simp at h⟩
  | n + 1, h => by
    obtain ⟨xs, h1, h2⟩ := list_of n (fun i hi => h i (by omega))
    obtain ⟨a, ha⟩ := h n (by omega)
    refine ⟨xs ++ [a], by simp [h1], fun i b hb => ?_⟩
    by_cases hi : i < xs.length
    · rw [List.getElem?_append_left hi] at hb
      exact h2 i b hb
    · have hl := (List.getElem?_eq_some_iff.1 hb).1
      simp only [List.length_append, List.length_cons, List.length_nil] at hl
      have hie : i = xs.length := by omega
      subst hie
      rw [List.getElem?_append_right (Nat.le_refl _), Nat.sub_self, List.getElem?_cons_zero, Option.some.injEq] at hb
      subst hb
      rw [h1]
      exact ha
theorem add_add (a : Addr) (x y : Nat) : a.add (x + y) = (a.add x).add y := by
  unfold Addr.add
  by_cases hx : x = 0
  · subst hx
    simp
  · by_cases hy : y = 0
    · subst hy
      simp
    · simp [hx, hy, Nat.add_assoc]
end Sg
/- From a walk of a law to its row in the second form (what it reads is of bounded bulk); for every program. -/
namespace Sg
open Go Go.ChangeShapes Go.WideShapes Go.RowKit
end Sg
/- Slices of texts handed in, opened; from a walk of a law to its row in the second form, the world's shape handed on; for every program. -/
namespace Sg
open Go Go.ChangeShapes Go.WideShapes Go.RowKit
theorem open_slice_texts {H : Type} {enc : TypeId × Value → H} {P : Program} {W : World} {b0 : Nat} {t e : TypeId} {v : Value} {d : DataW H} {ps : List MemPlace} (ht : P.underlying t = some (.slice e)) (he : P.underlying e = some .string) (hc : P.cellsOf e = 1) (hval : Value.okWide P W .any b0 t v) (hd : DataW.Trod enc P W 0 (fun _ => true) true t v d ps) :
    ∃ (ad : Option Addr) (cp : Nat) (ts : List (List UInt8)), v = .slice ad ts.length cp ∧ (ts = [] ∨ ∃ sp, d = .slice (ts.map fun s => .lit (.string s)) sp) ∧ ∀ H', Rd W [] H' ad (ts.map sV) := by
  obtain ⟨ad, len, cap, rfl⟩ := okWide_slice ht hval
  obtain ⟨fuel, hf⟩ := hd
  rcases DataW.trod_slice ht hf with ⟨hcs, hx⟩ | ⟨a, len', cap', elems, rest, n, _, hcs, hx, _, hl, _, hlen, hele, hsp, _⟩
  · simp only [Value.cells, List.cons.injEq, Value.slice.injEq, and_true] at hcs
    obtain ⟨rfl, rfl, rfl⟩ := hcs
    exact ⟨none, 0, [], rfl, .inl rfl, fun H' => .ofF fun j u hu => by simp at hu⟩
  · simp only [Value.cells, List.cons.injEq, Value.slice.injEq, and_true] at hcs
    obtain ⟨rfl, rfl, rfl⟩ := hcs
    simp only [Prod.mk.injEq] at hx
    obtain ⟨ts, htl, hts⟩ := list_of (Q := fun i s => W.cell? (a.add i) = some (sV s) ∧ (elems.map (·.1))[i]? = some (.lit (.string s))) len (fun i hi => by
      have h := hele i hi
      rw [List.getElem?_eq_getElem (by omega), Option.bind_eq_some_iff] at h
      obtain ⟨cs, h1, h2⟩ := h
      obtain ⟨s, rfl, h3, -⟩ := DataW.trod_string he h2
      refine ⟨s.data.toList, ?_, ?_⟩
      · rw [hc, Nat.mul_one] at h1
        unfold World.cells? at h1
        rw [if_pos (Nat.zero_le _)] at h1
        have h4 := mapM_some_get h1 0 0 (by simp)
        rw [show (a.add i).add 0 = a.add i by rw [← add_add]; rfl] at h4
        rw [h4, ← sV_of s]
        rfl
      · rw [List.getElem?_map, List.getElem?_eq_getElem (by omega), Option.map_some, h3])
    refine ⟨some a, cap, ts, by rw [htl], .inr ⟨rest.map (·.1), ?_⟩, fun H' => .ofF fun j u hu => ⟨a, rfl, ?_⟩⟩
    · rw [hx.1]
      congr 1
      apply List.ext_getElem?
      intro i
      rcases Nat.lt_or_ge i len with h | h
      · have h5 := (hts i _ (List.getElem?_eq_getElem (by omega))).2
        rw [h5, List.getElem?_map, List.getElem?_eq_getElem (by omega), Option.map_some]
      · rw [List.getElem?_eq_none (by rw [List.length_map]; omega), List.getElem?_eq_none (by rw [List.length_map]; omega)]
    · have hj : j < ts.length := by
        have := (List.getElem?_eq_some_iff.1 hu).1
        simpa using this
      have h5 := (hts j _ (List.getElem?_eq_getElem hj)).1
      rw [List.getElem?_map, List.getElem?_eq_getElem hj, Option.map_some, Option.some.injEq] at hu
      rw [h5, ← hu]
/-- What a law's walk must show, where its readings meet a condition and it asks for the world's shape. -/
def LawWalkT (P : Program) (f : FuncId) (fn : Func) (X : World → Prop) (k : (H : Type) → List (DataW H) → Bool) : Prop :=
  ∀ {H : Type} {enc : TypeId × Value → H} (W : World) (base : Nat) (args : Array Value) (ds : List (DataW H)) (p : List MemPlace), (∀ (j : Nat) t v, fn.params[j]? = some t → args[j]? = some v → Value.okWide P W .any base t v) →
    DataW.TrodAll enc P W 0 (fun _ => true) true fn.params.toList args.toList ds p → (DataW.weightsEach P fn.params.toList ds).all (· ≤ reachBytes) = true → k H ds = true → X W → W.ShapedOpen P →
    Meets P f args.toList W [] [] (fun e _ => e = .returned (.bool true))
theorem law_lifted_uptoT {C : Checked} {os : Os} {f : FuncId} {fn : Func} {s : ChangeSpec} {k : (H : Type) → List (DataW H) → Bool} {conds : List PathCond} {laid : List (String × DataW Unit)} {rt : TypeId} {fresh handsOn : Bool} (H : Type) (enc : TypeId × Value → H) (F : Stop.Interp) (own : ownKnob C.prog.godebug = none) (started : os.Started) (noInit : C.prog.inits.idxOf? f = none) (hfn : C.prog.funcs[f]? = some fn)
    (witness : ∃ (w : World) (tape : Tape) (i : Input), w.os = os ∧ (w.forCall tape i).Shaped C.prog ∧ i.vars = [] ∧ Input.okWide C.prog (w.forCall tape i) .any w.heap.size f i ∧
      ({ OpenSpec.ofChange s with cond := some k } : OpenSpec).preRow enc C.prog fn conds false laid (w.forCall tape i).memory i.args ∧ ({} : Assume).holds C.prog (lone (Frame.enter C.prog f i.args .normal) [] (w.forCall tape i)))
    (hres : fn.resultTypes = #[rt]) (hrt : C.prog.underlying rt = some .bool) (hvars : s.vars = []) (hs : ∀ (H : Type) (ds : List (DataW H)), ds.length = fn.params.toList.length → s.fn H ds = { results := [.lit (.bool true)], args := ds })
    (hl : laidOutB C.prog = true) (hts : fn.params.toList.all (fun t => C.prog.readableRec t && decide (t < C.prog.types.size)) = true) (law : LawWalkT C.prog f fn (laidMetH C.prog laid) k) :
    ReturnsInHanded {} C os f .any (({ OpenSpec.ofChange s with cond := some k } : OpenSpec).preRow enc C.prog fn conds false laid) (((({ OpenSpec.ofChange s with cond := some k } : OpenSpec)).at F).post enc C.prog fn false fresh handsOn false) := by
  refine returnsInHanded_of_row (s := { OpenSpec.ofChange s with cond := some k }) own started noInit hfn witness ?_
  intro W base args ds gs before hval hW _ hk hz hx hsh _
  have hW' := hW
  obtain ⟨p, q, hA, hV, rfl, hfz, hnd⟩ := hW
  have hV' : DataW.TrodVars enc C.prog W (fun _ => true) s.vars gs q := hV
  rw [hvars] at hV'
  obtain ⟨rfl, rfl⟩ := trodVars_none hV'
  have hvt : s.plain.varTypes C.prog = [] := by simp [DataSpec.varTypes, ChangeSpec.plain, hvars]
  have hz' : (DataW.weightsEach C.prog (fn.params.toList ++ s.plain.varTypes C.prog) (ds ++ [])).all (· ≤ reachBytes) = true := hz
  rw [hvt, List.append_nil, List.append_nil] at hz'
  have hk' := hk k rfl
  rw [List.append_nil] at hk'
  have hlt : ∀ x ∈ p, x.block < W.heap.size := fun x hx => hW'.lt x (List.mem_append_left _ hx)
  have hlen := trodAll_len hA
  refine (law W base args ds p hval hA hz' hk' hx hsh W (St.refl W)).mono fun e W' ⟨H', he, hst⟩ => ?_
  subst he
  have hb : Below W.heap.size W W' := ⟨hst.os, hst.tape, hst.output, hst.size, fun k hk => hst.keep k hk (by simp)⟩
  have hp : s.post enc C.prog fn false fresh handsOn false W args (.bool true) W' := by
    refine ⟨ds, [], _, [], p, [], hW', ?_, ?_, ?_, Below.frame hb _, fun h => by cases h⟩
    · rw [List.append_nil, hs H ds hlen, hres]
      exact trodAll_mk1 (shut_bool hrt true)
    · rw [List.append_nil, hs H ds hlen]
      exact trodAll_below hl hb hts hA hlt
    · rw [hvars, List.append_nil, hs H ds hlen]
      rfl
  exact ⟨_, rfl, hp⟩
/-- 'There is an input that fits', at a world whose shape is shown by hand. -/
theorem witness_row_shaped {H : Type} {enc : TypeId × Value → H} {C : Checked} {os : Os} {f : FuncId} {fn : Func} {s : OpenSpec} {conds : List PathCond} {apart : Bool} {laid : List (String × DataW Unit)} (modest : Bool) (w0 : World) (args : Array Value) (hos : w0.os = os)
    (hsh : (w0.forCall (fun _ _ => 0) ⟨#[], args, []⟩).Shaped C.prog)
    (hok : Input.okWideB C.prog (w0.forCall (fun _ _ => 0) ⟨#[], args, []⟩) f ⟨#[], args, []⟩ = true)
    (hrow : s.preRow enc C.prog fn conds apart laid (w0.forCall (fun _ _ => 0) ⟨#[], args, []⟩).memory args) :
    ∃ (w : World) (tape : Tape) (i : Input), w.os = os ∧ (w.forCall tape i).Shaped C.prog ∧ i.vars = [] ∧ Input.okWide C.prog (w.forCall tape i) .any w.heap.size f i ∧
      s.preRow enc C.prog fn conds apart laid (w.forCall tape i).memory i.args ∧ ({ modest := modest } : Assume).holds C.prog (lone (Frame.enter C.prog f i.args .normal) [] (w.forCall tape i)) :=
  ⟨w0, fun _ _ => 0, ⟨#[], args, []⟩, hos, hsh, (Input.okWide_of_okWideB (base := 0) hok).1, (Input.okWide_of_okWideB hok).2, hrow, by
    simp only [Assume.holds]
    exact ⟨by simp, by simp, fun _ => Modest.zero, by simp, by simp⟩⟩
end Sg
/- The second form's bound, on slices and texts. -/
namespace Go.Proofs.YtnimcchalinihaaDoor
open Go
theorem small_all {H : Type} {ds : List (DataW H)} (h : Rows.uptoSmall H ds = true) : Rows.uptoBulkAll ds ≤ 1048576 := of_decide_eq_true h
end Go.Proofs.YtnimcchalinihaaDoor
/- From a walk of a law to its row, the world's shape handed on. -/
namespace Sg
open Go Go.ChangeShapes Go.WideShapes Go.RowKit
section
variable {H : Type} {enc : TypeId × Value → H}
end
theorem laid_find {P : Program} {W : World} {nm : String} {d : DataW Unit} : ∀ {l : List (String × DataW Unit)} {ps : List MemPlace}, DataW.LaidVars P W l ps → (nm, d) ∈ l →
    ∃ g t cs fuel p, P.globalNamed nm = some g ∧ (P.globals[g]?).map (·.type) = some t ∧ W.var? P nm = some cs ∧ DataW.trod (fun _ => ()) P W 0 (fun _ => true) false fuel t cs.toList = some (d, p)
  | [], _, _, hm => by cases hm
  | (n, e) :: r, ps, h, hm => by
    obtain ⟨g, t, cs, fuel, p, q, h1, h2, h3, h4, h5, -⟩ := h
    rcases List.mem_cons.1 hm with hm | hm
    · simp only [Prod.mk.injEq] at hm
      obtain ⟨rfl, rfl⟩ := hm
      exact ⟨g, t, cs, fuel, p, h1, h2, h3, h4⟩
    · exact laid_find h5 hm
end Sg
