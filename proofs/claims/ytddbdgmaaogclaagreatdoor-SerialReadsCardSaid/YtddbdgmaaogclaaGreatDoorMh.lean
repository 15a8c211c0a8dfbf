/- Texts put together by a program: NodA NodB TreeE NodC SerP ShlA SerA SerB. -/
import Derived.Test.YtddbdgmaaogclaaGreatDoorMg
import Derived.Test.YtddbdgmaaogclaaGreatDoorMc
import Derived.Shelf.Strings.OnBuilder
import Derived.Shelf.Strings.Search3
import Derived.Shelf.Strings.Prefix
import Derived.Test.YtddbdgmaaogclaaGreatDoorProg
/- The walks of the program's looks at nodes: what stands behind a value, what stands in it, its members. -/
namespace Go.Proofs.YtddbdgmaaogclaaGreatDoor
open Sg Go.IntWalk
set_option maxRecDepth 100000
set_option maxHeartbeats 4000000
section
variable {F : World} {M : List Nat} {H : List Res} {v : List Nd} {p : Nat} {oa : Option Addr} {oc n : Nat}
theorem behindN_spec {x r : List Nd} [Rd F M H oa (v.flatMap ndV)] (hn : v.length = n) (hl : n ≤ 1000000) (hx : Fo 1 x) (hd : v.drop p = x ++ r) :
    Meets Tryz.prog 66 [.slice oa n oc, .int .i64 p] F M H (fun e H' => e = .returned (.int .i64 (p + x.length : Nat)) ∧ H' = H) := by
  subst hn
  refine Meets.enter Tryz.func66 rfl rfl ?_
  have h0 := drop_le hd hx.pos
  have h1 := hx.pos
  repeat' (first | (apply T.mv; apply rfl; apply rfl) | (apply T.asn; apply rfl; apply rfl) | (apply T.len; apply rfl; apply rfl) | (apply T.lss; apply rfl; apply rfl; apply rfl) | (apply T.geq; apply rfl; apply rfl; apply rfl) | (apply T.pickF; apply rfl; apply rfl; apply rfl) | with_reducible refine Sr.nil ?_ | with_reducible refine S.seq ?_ | with_reducible refine S.block ?_ | with_reducible refine S.reg ?_ | with_reducible refine S.skip ?_ | (apply T.ungV; apply rfl; (first | with_reducible rfl | decide)) | (apply S.condQ; apply rfl; all_goals (intro _; try (exfalso; first | omega | with_reducible contradiction))) | (apply T.gcase; apply rfl; apply rfl; all_goals (intro _; try (exfalso; first | omega | with_reducible contradiction))) | fail)
  refine S.loopE 0 [0] (fun R b' μ H' e => ∃ (q k : Nat) (y : List Nd) (z : Int), H' = R ∧ e = (1, .int .i64 q) :: (5, .int .i64 z) :: b' ∧ (Fo k y ∧ v.drop q = y ++ r ∧ q + y.length = p + x.length ∧ z = (k : Int)) ∧ μ = v.length - q) rfl rfl ?_ _ _ ⟨p, 1, x, 1, rfl, rfl, ⟨hx, hd, rfl, rfl⟩, rfl⟩ (by repeat' first | exact trivial | refine And.intro rfl ?_)
  rintro _ _ _ ⟨q, k, y, z, rfl, rfl, ⟨h2, h3, h4, h5⟩, rfl⟩ ih
  cases h2 with
  | nil =>
    subst h5
    have h6 : q = p + x.length := h4
    repeat' (first | (apply T.mv; apply rfl; apply rfl) | (apply T.asn; apply rfl; apply rfl) | (apply T.gtr; apply rfl; apply rfl; apply rfl) | (apply T.pickF; apply rfl; apply rfl; apply rfl) | with_reducible refine Sr.nil ?_ | with_reducible refine S.seq ?_ | with_reducible refine S.reg ?_ | (apply S.exit; apply rfl) | (apply T.skip; apply rfl; (first | with_reducible rfl | decide); apply rfl) | (apply S.condFV; apply rfl; (first | with_reducible rfl | decide)) | (apply T.retW; apply rfl) | fail)
    exact ⟨_, PSub.refl _, by rw [h6], rfl⟩
  | @node nn m k' a b hk ha hb =>
    obtain ⟨h6, h7⟩ := drop_head (b := a ++ b ++ r) (by simpa using h3)
    have h8 : (v.getD q default).kids = (m : Int) := by rw [h6, hk]
    have h9 := ha.le
    have h10 := hb.le
    have h11 : v.drop (q + 1) = (a ++ b) ++ r := by
      rw [← List.drop_drop, h3]
      rfl
    simp only [List.length_cons, List.length_append] at h4
    repeat' (first | (apply T.mv; apply rfl; apply rfl) | (apply T.asn; apply rfl; apply rfl) | (apply T.len; apply rfl; apply rfl) | (apply T.lss; apply rfl; apply rfl; apply rfl) | (apply T.gtr; apply rfl; apply rfl; apply rfl) | (apply T.addI; apply rfl; apply rfl; omega; apply rfl) | (apply T.subI; apply rfl; apply rfl; omega; apply rfl) | (apply T.ixF; apply rfl; apply rfl; infer_instance; exact (fun _ => rfl); apply rfl; omega; omega; apply rfl) | (apply T.fieldAddrF; apply rfl; infer_instance; exact (fun _ => rfl); apply rfl; omega; apply rfl) | (apply T.loadF; apply rfl; apply rfl; infer_instance; exact (fun _ => rfl); apply rfl; exact getD_some (by omega); apply rfl; apply rfl) | (apply T.pickT; apply rfl; apply rfl; apply rfl) | with_reducible refine Sr.nil ?_ | with_reducible refine S.seq ?_ | with_reducible refine S.block ?_ | with_reducible refine S.reg ?_ | with_reducible refine S.skip ?_ | with_reducible refine S.inBlock ?_ | (apply T.ungV; apply rfl; (first | with_reducible rfl | decide)) | (apply S.condQ; apply rfl; all_goals (intro _; try (exfalso; first | omega | with_reducible contradiction))) | (apply T.gcase; apply rfl; apply rfl; all_goals (intro _; try (exfalso; first | omega | with_reducible contradiction))) | fail)
    exact ih _ _ _ _ ⟨q + 1, m + k', a ++ b, z + ((v.getD q default).kids - 1), rfl, rfl, ⟨ha.app hb, h11, by rw [List.length_append]; omega, by omega⟩, rfl⟩ (by omega) (by repeat' first | exact trivial | refine And.intro rfl ?_)
theorem kids_spec {nn : Nd} {xs : List (List Nd)} {r : List Nd} [Rd F M H oa (v.flatMap ndV)] (hn : v.length = n) (hl : n ≤ 1000000) (ha : At v p nn xs r) :
    Meets Tryz.prog 67 [.slice oa n oc, .int .i64 p] F M H (fun e H' => ∃ ka kc, e = .returned (.slice ka xs.length kc) ∧ H' = .row ka kc 3 1 xs.length ((offs (p + 1) xs).map nV) :: H) := by
  subst hn
  refine Meets.enter Tryz.func67 rfl rfl ?_
  obtain ⟨g1, g2⟩ := drop_head ha.drop
  have g3 : (v.getD p default).kids = (xs.length : Int) := by rw [g1, ha.kids]
  have g4 : xs.length < v.length := by
    have h1 := (Fo.of ha.fo).le
    have h2 := congrArg List.length ha.drop
    simp only [List.length_drop, List.length_cons, List.length_append] at h2
    omega
  refine S.nilrow 3 1 ?_
  repeat' (first | (apply T.mv; apply rfl; apply rfl) | (apply T.asn; apply rfl; apply rfl) | (apply T.len; apply rfl; apply rfl) | (apply T.lss; apply rfl; apply rfl; apply rfl) | (apply T.geq; apply rfl; apply rfl; apply rfl) | (apply T.addI; apply rfl; apply rfl; omega; apply rfl) | (apply T.pickF; apply rfl; apply rfl; apply rfl) | with_reducible refine Sr.nil ?_ | with_reducible refine S.seq ?_ | with_reducible refine S.block ?_ | with_reducible refine S.reg ?_ | with_reducible refine S.skip ?_ | (apply T.ungV; apply rfl; (first | with_reducible rfl | decide)) | (apply S.condQ; apply rfl; all_goals (intro _; try (exfalso; first | omega | with_reducible contradiction))) | (apply T.gcase; apply rfl; apply rfl; all_goals (intro _; try (exfalso; first | omega | with_reducible contradiction))) | fail)
  refine S.frontR none ?_
  refine S.loopE 1 [0, 1] (fun R b' μ H' e => ∃ (i : Nat) (ka : Option Addr) (kc m : Nat) (q : Nat), H' = .row ka kc 3 1 m ((offs (p + 1) (xs.take i)).map nV) :: R ∧ e = (5, .slice ka m kc) :: (6, .int .i64 q) :: (7, .int .i64 i) :: b' ∧ (i ≤ xs.length ∧ m = i ∧ q = p + 1 + (xs.take i).flatten.length) ∧ μ = xs.length - i) rfl rfl ?_ _ _ ⟨0, none, 0, 0, p + 1, rfl, rfl, ⟨Nat.zero_le _, rfl, rfl⟩, rfl⟩ (by repeat' first | exact trivial | refine And.intro rfl ?_)
  rintro _ _ _ ⟨i, ka, kc, m, q, rfl, rfl, ⟨h1, h2, h3⟩, rfl⟩ ih
  by_cases h4 : i < xs.length
  · have hk := ha.kid h4
    rw [← h3] at hk
    have hx := ha.fo _ (List.getElem_mem h4)
    have hq := drop_le hk hx.pos
    have hxp := hx.pos
    have hs := offs_snoc (p + 1) (xs.take i) xs[i]
    rw [← List.take_succ_eq_append_getElem h4, ← h3] at hs
    have ht := take_flat_succ h4
    subst h2
    repeat' (first | (apply T.mv; apply rfl; apply rfl) | (apply T.asn; apply rfl; apply rfl) | (apply T.len; apply rfl; apply rfl) | (apply T.lss; apply rfl; apply rfl; apply rfl) | (apply T.geq; apply rfl; apply rfl; apply rfl) | (apply T.ixF; apply rfl; apply rfl; infer_instance; exact (fun _ => rfl); apply rfl; omega; omega; apply rfl) | (apply T.fieldAddrF; apply rfl; infer_instance; exact (fun _ => rfl); apply rfl; omega; apply rfl) | (apply T.loadF; apply rfl; apply rfl; infer_instance; exact (fun _ => rfl); apply rfl; exact getD_some (by omega); apply rfl; apply rfl) | (apply T.pickT; apply rfl; apply rfl; apply rfl) | (apply T.bs; apply rfl; apply rfl; apply rfl; apply rfl; apply rfl; apply rfl; intro nb) | (apply T.appendN; apply rfl; apply rfl; infer_instance; apply rfl; (constructor <;> omega); apply rfl; intro na nc) | with_reducible refine Sr.nil ?_ | with_reducible refine S.seq ?_ | with_reducible refine S.block ?_ | with_reducible refine S.reg ?_ | with_reducible refine S.skip ?_ | (apply T.ungV; apply rfl; (first | with_reducible rfl | decide)) | (apply S.condQ; apply rfl; all_goals (intro _; try (exfalso; first | omega | with_reducible contradiction))) | (apply T.gcase; apply rfl; apply rfl; all_goals (intro _; try (exfalso; first | omega | with_reducible contradiction))) | fail)
    refine T.call rfl rfl (behindN_spec rfl (by omega) hx hk) ?_
    rintro _ _ ⟨rfl, rfl⟩
    have hmap : (offs (p + 1) (xs.take m)).map nV ++ [nV q] = (offs (p + 1) (xs.take (m + 1))).map nV := by rw [hs]; simp
    repeat' (first | (apply T.mv; apply rfl; apply rfl) | (apply T.asn; apply rfl; apply rfl) | (apply T.addI; apply rfl; apply rfl; omega; apply rfl) | with_reducible refine Sr.nil ?_ | with_reducible refine S.reg ?_ | with_reducible refine S.inBlock ?_ | (with_reducible apply T.ofRet) | fail)
    exact ih _ _ _ _ ⟨m + 1, na, nc, m + 1, q + xs[m].length, by rw [hs], rfl, ⟨h4, rfl, by omega⟩, rfl⟩ (by omega) (by repeat' first | exact trivial | refine And.intro rfl ?_)
  · obtain rfl : i = xs.length := by omega
    rw [List.take_length]
    subst h2
    repeat' (first | (apply T.mv; apply rfl; apply rfl) | (apply T.asn; apply rfl; apply rfl) | (apply T.lss; apply rfl; apply rfl; apply rfl) | (apply T.ixF; apply rfl; apply rfl; infer_instance; exact (fun _ => rfl); apply rfl; omega; omega; apply rfl) | (apply T.fieldAddrF; apply rfl; infer_instance; exact (fun _ => rfl); apply rfl; omega; apply rfl) | (apply T.loadF; apply rfl; apply rfl; infer_instance; exact (fun _ => rfl); apply rfl; exact getD_some (by omega); apply rfl; apply rfl) | (apply T.pickF; apply rfl; apply rfl; apply rfl) | with_reducible refine Sr.nil ?_ | with_reducible refine S.seq ?_ | with_reducible refine S.reg ?_ | (apply S.exit; apply rfl) | (apply T.skip; apply rfl; (first | with_reducible rfl | decide); apply rfl) | (apply S.condFV; apply rfl; (first | with_reducible rfl | decide)) | (apply T.gcase; apply rfl; apply rfl; all_goals (intro _; try (exfalso; first | omega | with_reducible contradiction))) | (apply T.retW; apply rfl) | fail)
    all_goals exact ⟨_, PSub.refl _, _, _, rfl, rfl⟩
/-- What Member says. -/
def memP (p : Nat) (n : Nd) (xs : List (List Nd)) (key : List UInt8) : Int := if n.kind = 7 then membX (p + 1) xs key else -1
theorem member_spec {nn : Nd} {xs : List (List Nd)} {r : List Nd} {key : List UInt8} [Rd F M H oa (v.flatMap ndV)] (hn : v.length = n) (hl : n ≤ 1000000) (ha : At v p nn xs r) :
    Meets Tryz.prog 30 [.slice oa n oc, .int .i64 p, sV key] F M H (fun e H' => e = .returned (.int .i64 (memP p nn xs key)) ∧ H' = H) := by
  subst hn
  refine Meets.enter Tryz.func30 rfl rfl ?_
  obtain ⟨g1, g2⟩ := drop_head ha.drop
  have g3 : (v.getD p default).kids = (xs.length : Int) := by rw [g1, ha.kids]
  have g4 : xs.length < v.length := by
    have h1 := (Fo.of ha.fo).le
    have h2 := congrArg List.length ha.drop
    simp only [List.length_drop, List.length_cons, List.length_append] at h2
    omega
  unfold memP
  rw [← g1]
  by_cases hk7 : (v.getD p default).kind = 7
  · rw [if_pos hk7]
    repeat' (first | (apply T.mv; apply rfl; apply rfl) | (apply T.asn; apply rfl; apply rfl) | (apply T.len; apply rfl; apply rfl) | (apply T.lss; apply rfl; apply rfl; apply rfl) | (apply T.geq; apply rfl; apply rfl; apply rfl) | (apply T.neq; apply rfl; apply rfl; apply rfl) | (apply T.addI; apply rfl; apply rfl; omega; apply rfl) | (apply T.ixF; apply rfl; apply rfl; infer_instance; exact (fun _ => rfl); apply rfl; omega; omega; apply rfl) | (apply T.fieldAddrF; apply rfl; infer_instance; exact (fun _ => rfl); apply rfl; omega; apply rfl) | (apply T.loadF; apply rfl; apply rfl; infer_instance; exact (fun _ => rfl); apply rfl; exact getD_some (by omega); apply rfl; apply rfl) | (apply T.pickF; apply rfl; apply rfl; apply rfl) | with_reducible refine Sr.nil ?_ | with_reducible refine S.seq ?_ | with_reducible refine S.block ?_ | with_reducible refine S.reg ?_ | with_reducible refine S.skip ?_ | (apply T.ungV; apply rfl; (first | with_reducible rfl | decide)) | (apply S.condQ; apply rfl; all_goals (intro _; try (exfalso; first | omega | with_reducible contradiction))) | (apply T.gcase; apply rfl; apply rfl; all_goals (intro _; try (exfalso; first | omega | with_reducible contradiction))) | fail)
    generalize hQ : membX (p + 1) xs key = Q
    refine S.loopE 0 [0, 1, 2] (fun R b' μ H' e => ∃ (i q : Nat), H' = R ∧ e = (7, .int .i64 q) :: (8, .int .i64 i) :: b' ∧ (i ≤ xs.length ∧ q = p + 1 + (xs.take i).flatten.length ∧ membX q (xs.drop i) key = Q) ∧ μ = xs.length - i) rfl rfl ?_ _ _ ⟨0, p + 1, rfl, rfl, ⟨Nat.zero_le _, rfl, hQ⟩, rfl⟩ (by repeat' first | exact trivial | refine And.intro rfl ?_)
    rintro _ _ _ ⟨i, q, rfl, rfl, ⟨h1, h3, h5⟩, rfl⟩ ih
    by_cases h4 : i < xs.length
    · have hk := ha.kid h4
      rw [← h3] at hk
      have hx := ha.fo _ (List.getElem_mem h4)
      have hq := drop_le hk hx.pos
      have hxp := hx.pos
      have ht := take_flat_succ h4
      rw [List.drop_eq_getElem_cons h4, membX_cons] at h5
      have hhd : v.getD q default = headN xs[i] := by
        obtain ⟨n2, xs2, e2, -⟩ := At.of_fo hk hx
        rw [e2] at hk ⊢
        exact (drop_head hk).1
      rw [← hhd] at h5
      by_cases h6 : (v.getD q default).key = key
      · rw [if_pos h6] at h5
        repeat' (first | (apply T.seql; apply rfl; apply rfl; apply rfl) | (apply T.mv; apply rfl; apply rfl) | (apply T.asn; apply rfl; apply rfl) | (apply T.len; apply rfl; apply rfl) | (apply T.lss; apply rfl; apply rfl; apply rfl) | (apply T.geq; apply rfl; apply rfl; apply rfl) | (apply T.ixF; apply rfl; apply rfl; infer_instance; exact (fun _ => rfl); apply rfl; omega; omega; apply rfl) | (apply T.fieldAddrF; apply rfl; infer_instance; exact (fun _ => rfl); apply rfl; omega; apply rfl) | (apply T.loadF; apply rfl; apply rfl; infer_instance; exact (fun _ => rfl); apply rfl; exact getD_some (by omega); apply rfl; apply rfl) | (apply T.pickT; apply rfl; apply rfl; apply rfl) | with_reducible refine Sr.nil ?_ | with_reducible refine S.seq ?_ | with_reducible refine S.block ?_ | with_reducible refine S.reg ?_ | with_reducible refine S.skip ?_ | (apply T.ungV; apply rfl; (first | with_reducible rfl | decide)) | (apply S.condQ; apply rfl; all_goals (intro _; try (exfalso; first | omega | with_reducible contradiction))) | (apply T.gcase; apply rfl; apply rfl; all_goals (intro _; try (exfalso; first | omega | with_reducible contradiction))) | (apply T.retW; apply rfl) | fail)
        exact ⟨_, PSub.refl _, by rw [h5], rfl⟩
      · rw [if_neg h6] at h5
        repeat' (first | (apply T.seql; apply rfl; apply rfl; apply rfl) | (apply T.mv; apply rfl; apply rfl) | (apply T.len; apply rfl; apply rfl) | (apply T.lss; apply rfl; apply rfl; apply rfl) | (apply T.geq; apply rfl; apply rfl; apply rfl) | (apply T.ixF; apply rfl; apply rfl; infer_instance; exact (fun _ => rfl); apply rfl; omega; omega; apply rfl) | (apply T.fieldAddrF; apply rfl; infer_instance; exact (fun _ => rfl); apply rfl; omega; apply rfl) | (apply T.loadF; apply rfl; apply rfl; infer_instance; exact (fun _ => rfl); apply rfl; exact getD_some (by omega); apply rfl; apply rfl) | (apply T.pickT; apply rfl; apply rfl; apply rfl) | with_reducible refine Sr.nil ?_ | with_reducible refine S.seq ?_ | with_reducible refine S.block ?_ | with_reducible refine S.reg ?_ | with_reducible refine S.skip ?_ | (apply T.ungV; apply rfl; (first | with_reducible rfl | decide)) | (apply S.condQ; apply rfl; all_goals (intro _; try (exfalso; first | omega | with_reducible contradiction))) | (apply T.gcase; apply rfl; apply rfl; all_goals (intro _; try (exfalso; first | omega | with_reducible contradiction))) | fail)
        refine T.call rfl rfl (behindN_spec rfl (by omega) hx hk) ?_
        rintro _ _ ⟨rfl, rfl⟩
        repeat' (first | (apply T.mv; apply rfl; apply rfl) | (apply T.asn; apply rfl; apply rfl) | (apply T.addI; apply rfl; apply rfl; omega; apply rfl) | with_reducible refine Sr.nil ?_ | with_reducible refine S.reg ?_ | with_reducible refine S.inBlock ?_ | (with_reducible apply T.ofRet) | fail)
        exact ih _ _ _ _ ⟨i + 1, q + xs[i].length, rfl, rfl, ⟨h4, by omega, h5⟩, rfl⟩ (by omega) (by repeat' first | exact trivial | refine And.intro rfl ?_)
    · obtain rfl : i = xs.length := by omega
      rw [List.drop_length] at h5
      rw [← h5]
      repeat' (first | (apply T.mv; apply rfl; apply rfl) | (apply T.asn; apply rfl; apply rfl) | (apply T.lss; apply rfl; apply rfl; apply rfl) | (apply T.ixF; apply rfl; apply rfl; infer_instance; exact (fun _ => rfl); apply rfl; omega; omega; apply rfl) | (apply T.fieldAddrF; apply rfl; infer_instance; exact (fun _ => rfl); apply rfl; omega; apply rfl) | (apply T.loadF; apply rfl; apply rfl; infer_instance; exact (fun _ => rfl); apply rfl; exact getD_some (by omega); apply rfl; apply rfl) | (apply T.pickF; apply rfl; apply rfl; apply rfl) | with_reducible refine Sr.nil ?_ | with_reducible refine S.seq ?_ | with_reducible refine S.reg ?_ | (apply S.exit; apply rfl) | (apply T.skip; apply rfl; (first | with_reducible rfl | decide); apply rfl) | (apply S.condFV; apply rfl; (first | with_reducible rfl | decide)) | (apply T.gcase; apply rfl; apply rfl; all_goals (intro _; try (exfalso; first | omega | with_reducible contradiction))) | (apply T.retW; apply rfl) | fail)
      all_goals exact ⟨_, PSub.refl _, rfl, rfl⟩
  · rw [if_neg hk7]
    repeat' (first | (apply T.mv; apply rfl; apply rfl) | (apply T.asn; apply rfl; apply rfl) | (apply T.len; apply rfl; apply rfl) | (apply T.lss; apply rfl; apply rfl; apply rfl) | (apply T.geq; apply rfl; apply rfl; apply rfl) | (apply T.neq; apply rfl; apply rfl; apply rfl) | (apply T.ixF; apply rfl; apply rfl; infer_instance; exact (fun _ => rfl); apply rfl; omega; omega; apply rfl) | (apply T.fieldAddrF; apply rfl; infer_instance; exact (fun _ => rfl); apply rfl; omega; apply rfl) | (apply T.loadF; apply rfl; apply rfl; infer_instance; exact (fun _ => rfl); apply rfl; exact getD_some (by omega); apply rfl; apply rfl) | (apply T.pickF; apply rfl; apply rfl; apply rfl) | with_reducible refine Sr.nil ?_ | with_reducible refine S.seq ?_ | with_reducible refine S.reg ?_ | (apply T.ungV; apply rfl; (first | with_reducible rfl | decide)) | (apply S.condQ; apply rfl; all_goals (intro _; try (exfalso; first | omega | with_reducible contradiction))) | (apply T.gcase; apply rfl; apply rfl; all_goals (intro _; try (exfalso; first | omega | with_reducible contradiction))) | (apply T.retW; apply rfl) | fail)
    exact ⟨_, PSub.refl _, rfl, rfl⟩
end
end Go.Proofs.YtddbdgmaaogclaaGreatDoor
/- The walks of the document's looks at nodes. -/
namespace Go.Proofs.YtddbdgmaaogclaaGreatDoor
open Sg Go.IntWalk
set_option maxRecDepth 100000
set_option maxHeartbeats 4000000
section
variable {F : World} {M : List Nat} {H : List Res} {v : List Nd} {p : Nat} {oa : Option Addr} {oc n : Nat}
theorem refBehind_spec : ∀ (L : Nat) {x r : List Nd} {p : Nat} {H : List Res} [Rd F M H oa (v.flatMap ndV)], x.length ≤ L → v.length = n → n ≤ 1000000 → Fo 1 x → v.drop p = x ++ r →
    Meets Tryz.prog 81 [.slice oa n oc, .int .i64 p] F M H (fun e H' => e = .returned (.int .i64 (p + x.length : Nat)) ∧ H' = H) := by
  intro L
  induction L with
  | zero =>
    intro x r p H _ hL hn hl hx hd
    have := hx.pos
    omega
  | succ L IH =>
    intro x r p H _ hL hn hl hx hd
    subst hn
    refine Meets.enter Tryz.func81 rfl rfl ?_
    obtain ⟨nn, xs, rfl, ha⟩ := At.of_fo hd hx
    obtain ⟨g1, g2⟩ := drop_head ha.drop
    have g3 : (v.getD p default).kids = (xs.length : Int) := by rw [g1, ha.kids]
    have h0 := drop_le hd hx.pos
    have hxl : (nn :: xs.flatten).length = xs.flatten.length + 1 := rfl
    have hxs := (Fo.of ha.fo).le
    have hxb : xs.length ≤ 1000000 := by rw [hxl] at h0; omega
    rw [hxl] at hL h0 ⊢
    repeat' (first | (apply T.mv; apply rfl; apply rfl) | (apply T.asn; apply rfl; apply rfl) | (apply T.len; apply rfl; apply rfl) | (apply T.lss; apply rfl; apply rfl; apply rfl) | (apply T.geq; apply rfl; apply rfl; apply rfl) | (apply T.addI; apply rfl; apply rfl; omega; apply rfl) | (apply T.pickF; apply rfl; apply rfl; apply rfl) | with_reducible refine Sr.nil ?_ | with_reducible refine S.seq ?_ | with_reducible refine S.block ?_ | with_reducible refine S.reg ?_ | with_reducible refine S.skip ?_ | (apply T.ungV; apply rfl; (first | with_reducible rfl | decide)) | (apply S.condQ; apply rfl; all_goals (intro _; try (exfalso; first | omega | with_reducible contradiction))) | (apply T.gcase; apply rfl; apply rfl; all_goals (intro _; try (exfalso; first | omega | with_reducible contradiction))) | fail)
    refine S.loopE 0 [0, 1] (fun R b' μ H' e => ∃ (i q : Nat), H' = R ∧ e = (5, .int .i64 q) :: (6, .int .i64 i) :: b' ∧ (i ≤ xs.length ∧ q = p + 1 + (xs.take i).flatten.length) ∧ μ = xs.length - i) rfl rfl ?_ _ _ ⟨0, p + 1, rfl, rfl, ⟨Nat.zero_le _, rfl⟩, rfl⟩ (by repeat' first | exact trivial | refine And.intro rfl ?_)
    rintro _ _ _ ⟨i, q, rfl, rfl, ⟨h1, h3⟩, rfl⟩ ih
    by_cases h4 : i < xs.length
    · have hk := ha.kid h4
      rw [← h3] at hk
      have hx2 := ha.fo _ (List.getElem_mem h4)
      have ht := take_flat_succ h4
      have hle : xs[i].length ≤ xs.flatten.length := by
        have h5 : xs.flatten = (xs.take i).flatten ++ (xs.drop i).flatten := by rw [← List.flatten_append, List.take_append_drop]
        rw [h5, List.drop_eq_getElem_cons h4, List.flatten_cons, List.length_append, List.length_append]
        omega
      repeat' (first | (apply T.mv; apply rfl; apply rfl) | (apply T.lss; apply rfl; apply rfl; apply rfl) | (apply T.geq; apply rfl; apply rfl; apply rfl) | (apply T.ixF; apply rfl; apply rfl; infer_instance; exact (fun _ => rfl); apply rfl; omega; omega; apply rfl) | (apply T.fieldAddrF; apply rfl; infer_instance; exact (fun _ => rfl); apply rfl; omega; apply rfl) | (apply T.loadF; apply rfl; apply rfl; infer_instance; exact (fun _ => rfl); apply rfl; exact getD_some (by omega); apply rfl; apply rfl) | (apply T.pickT; apply rfl; apply rfl; apply rfl) | with_reducible refine Sr.nil ?_ | with_reducible refine S.seq ?_ | with_reducible refine S.block ?_ | with_reducible refine S.reg ?_ | with_reducible refine S.skip ?_ | (apply T.ungV; apply rfl; (first | with_reducible rfl | decide)) | (apply S.condQ; apply rfl; all_goals (intro _; try (exfalso; first | omega | with_reducible contradiction))) | (apply T.gcase; apply rfl; apply rfl; all_goals (intro _; try (exfalso; first | omega | with_reducible contradiction))) | fail)
      refine T.call rfl rfl (IH (by omega) rfl hl hx2 hk) ?_
      rintro _ _ ⟨rfl, hH⟩
      have hH2 := hH.symm
      subst hH2
      repeat' (first | (apply T.mv; apply rfl; apply rfl) | (apply T.asn; apply rfl; apply rfl) | (apply T.addI; apply rfl; apply rfl; omega; apply rfl) | with_reducible refine Sr.nil ?_ | with_reducible refine S.reg ?_ | with_reducible refine S.inBlock ?_ | (with_reducible apply T.ofRet) | fail)
      exact ih _ _ _ _ ⟨i + 1, q + xs[i].length, rfl, rfl, ⟨h4, by omega⟩, rfl⟩ (by omega) (by repeat' first | exact trivial | refine And.intro rfl ?_)
    · obtain rfl : i = xs.length := by omega
      rw [List.take_length] at h3
      repeat' (first | (apply T.mv; apply rfl; apply rfl) | (apply T.asn; apply rfl; apply rfl) | (apply T.lss; apply rfl; apply rfl; apply rfl) | (apply T.ixF; apply rfl; apply rfl; infer_instance; exact (fun _ => rfl); apply rfl; omega; omega; apply rfl) | (apply T.fieldAddrF; apply rfl; infer_instance; exact (fun _ => rfl); apply rfl; omega; apply rfl) | (apply T.loadF; apply rfl; apply rfl; infer_instance; exact (fun _ => rfl); apply rfl; exact getD_some (by omega); apply rfl; apply rfl) | (apply T.pickF; apply rfl; apply rfl; apply rfl) | with_reducible refine Sr.nil ?_ | with_reducible refine S.seq ?_ | with_reducible refine S.reg ?_ | (apply S.exit; apply rfl) | (apply T.skip; apply rfl; (first | with_reducible rfl | decide); apply rfl) | (apply S.condFV; apply rfl; (first | with_reducible rfl | decide)) | (apply T.gcase; apply rfl; apply rfl; all_goals (intro _; try (exfalso; first | omega | with_reducible contradiction))) | (apply T.retW; apply rfl) | fail)
      all_goals exact ⟨_, PSub.refl _, by rw [h3]; congr 3; omega, rfl⟩
theorem refKids_spec {nn : Nd} {xs : List (List Nd)} {r : List Nd} [Rd F M H oa (v.flatMap ndV)] (hn : v.length = n) (hl : n ≤ 1000000) (ha : At v p nn xs r) :
    Meets Tryz.prog 41 [.slice oa n oc, .int .i64 p] F M H (fun e H' => ∃ ka kc, e = .returned (.slice ka xs.length kc) ∧ H' = .row ka kc 3 1 xs.length ((offs (p + 1) xs).map nV) :: H) := by
  subst hn
  refine Meets.enter Tryz.func41 rfl rfl ?_
  obtain ⟨g1, g2⟩ := drop_head ha.drop
  have g3 : (v.getD p default).kids = (xs.length : Int) := by rw [g1, ha.kids]
  have g4 : xs.length < v.length := by
    have h1 := (Fo.of ha.fo).le
    have h2 := congrArg List.length ha.drop
    simp only [List.length_drop, List.length_cons, List.length_append] at h2
    omega
  refine S.nilrow 3 1 ?_
  repeat' (first | (apply T.mv; apply rfl; apply rfl) | (apply T.asn; apply rfl; apply rfl) | (apply T.len; apply rfl; apply rfl) | (apply T.lss; apply rfl; apply rfl; apply rfl) | (apply T.geq; apply rfl; apply rfl; apply rfl) | (apply T.addI; apply rfl; apply rfl; omega; apply rfl) | (apply T.pickF; apply rfl; apply rfl; apply rfl) | with_reducible refine Sr.nil ?_ | with_reducible refine S.seq ?_ | with_reducible refine S.block ?_ | with_reducible refine S.reg ?_ | with_reducible refine S.skip ?_ | (apply T.ungV; apply rfl; (first | with_reducible rfl | decide)) | (apply S.condQ; apply rfl; all_goals (intro _; try (exfalso; first | omega | with_reducible contradiction))) | (apply T.gcase; apply rfl; apply rfl; all_goals (intro _; try (exfalso; first | omega | with_reducible contradiction))) | fail)
  refine S.frontR none ?_
  refine S.loopE 1 [0, 1] (fun R b' μ H' e => ∃ (i : Nat) (ka : Option Addr) (kc m : Nat) (q : Nat), H' = .row ka kc 3 1 m ((offs (p + 1) (xs.take i)).map nV) :: R ∧ e = (5, .slice ka m kc) :: (6, .int .i64 q) :: (7, .int .i64 i) :: b' ∧ (i ≤ xs.length ∧ m = i ∧ q = p + 1 + (xs.take i).flatten.length) ∧ μ = xs.length - i) rfl rfl ?_ _ _ ⟨0, none, 0, 0, p + 1, rfl, rfl, ⟨Nat.zero_le _, rfl, rfl⟩, rfl⟩ (by repeat' first | exact trivial | refine And.intro rfl ?_)
  rintro _ _ _ ⟨i, ka, kc, m, q, rfl, rfl, ⟨h1, h2, h3⟩, rfl⟩ ih
  by_cases h4 : i < xs.length
  · have hk := ha.kid h4
    rw [← h3] at hk
    have hx := ha.fo _ (List.getElem_mem h4)
    have hq := drop_le hk hx.pos
    have hxp := hx.pos
    have hs := offs_snoc (p + 1) (xs.take i) xs[i]
    rw [← List.take_succ_eq_append_getElem h4, ← h3] at hs
    have ht := take_flat_succ h4
    subst h2
    repeat' (first | (apply T.mv; apply rfl; apply rfl) | (apply T.asn; apply rfl; apply rfl) | (apply T.len; apply rfl; apply rfl) | (apply T.lss; apply rfl; apply rfl; apply rfl) | (apply T.geq; apply rfl; apply rfl; apply rfl) | (apply T.ixF; apply rfl; apply rfl; infer_instance; exact (fun _ => rfl); apply rfl; omega; omega; apply rfl) | (apply T.fieldAddrF; apply rfl; infer_instance; exact (fun _ => rfl); apply rfl; omega; apply rfl) | (apply T.loadF; apply rfl; apply rfl; infer_instance; exact (fun _ => rfl); apply rfl; exact getD_some (by omega); apply rfl; apply rfl) | (apply T.pickT; apply rfl; apply rfl; apply rfl) | (apply T.bs; apply rfl; apply rfl; apply rfl; apply rfl; apply rfl; apply rfl; intro nb) | (apply T.appendN; apply rfl; apply rfl; infer_instance; apply rfl; (constructor <;> omega); apply rfl; intro na nc) | with_reducible refine Sr.nil ?_ | with_reducible refine S.seq ?_ | with_reducible refine S.block ?_ | with_reducible refine S.reg ?_ | with_reducible refine S.skip ?_ | (apply T.ungV; apply rfl; (first | with_reducible rfl | decide)) | (apply S.condQ; apply rfl; all_goals (intro _; try (exfalso; first | omega | with_reducible contradiction))) | (apply T.gcase; apply rfl; apply rfl; all_goals (intro _; try (exfalso; first | omega | with_reducible contradiction))) | fail)
    refine T.call rfl rfl (refBehind_spec _ (Nat.le_refl _) rfl (by omega) hx hk) ?_
    rintro _ _ ⟨rfl, rfl⟩
    have hmap : (offs (p + 1) (xs.take m)).map nV ++ [nV q] = (offs (p + 1) (xs.take (m + 1))).map nV := by rw [hs]; simp
    repeat' (first | (apply T.mv; apply rfl; apply rfl) | (apply T.asn; apply rfl; apply rfl) | (apply T.addI; apply rfl; apply rfl; omega; apply rfl) | with_reducible refine Sr.nil ?_ | with_reducible refine S.reg ?_ | with_reducible refine S.inBlock ?_ | (with_reducible apply T.ofRet) | fail)
    exact ih _ _ _ _ ⟨m + 1, na, nc, m + 1, q + xs[m].length, by rw [hs], rfl, ⟨h4, rfl, by omega⟩, rfl⟩ (by omega) (by repeat' first | exact trivial | refine And.intro rfl ?_)
  · obtain rfl : i = xs.length := by omega
    rw [List.take_length]
    subst h2
    repeat' (first | (apply T.mv; apply rfl; apply rfl) | (apply T.asn; apply rfl; apply rfl) | (apply T.lss; apply rfl; apply rfl; apply rfl) | (apply T.ixF; apply rfl; apply rfl; infer_instance; exact (fun _ => rfl); apply rfl; omega; omega; apply rfl) | (apply T.fieldAddrF; apply rfl; infer_instance; exact (fun _ => rfl); apply rfl; omega; apply rfl) | (apply T.loadF; apply rfl; apply rfl; infer_instance; exact (fun _ => rfl); apply rfl; exact getD_some (by omega); apply rfl; apply rfl) | (apply T.pickF; apply rfl; apply rfl; apply rfl) | with_reducible refine Sr.nil ?_ | with_reducible refine S.seq ?_ | with_reducible refine S.reg ?_ | (apply S.exit; apply rfl) | (apply T.skip; apply rfl; (first | with_reducible rfl | decide); apply rfl) | (apply S.condFV; apply rfl; (first | with_reducible rfl | decide)) | (apply T.gcase; apply rfl; apply rfl; all_goals (intro _; try (exfalso; first | omega | with_reducible contradiction))) | (apply T.retW; apply rfl) | fail)
    all_goals exact ⟨_, PSub.refl _, _, _, rfl, rfl⟩
theorem refMember_spec {nn : Nd} {xs : List (List Nd)} {r : List Nd} {key : List UInt8} [Rd F M H oa (v.flatMap ndV)] (hn : v.length = n) (hl : n ≤ 1000000) (ha : At v p nn xs r) :
    Meets Tryz.prog 40 [.slice oa n oc, .int .i64 p, sV key] F M H (fun e H' => e = .returned (.int .i64 (memP p nn xs key)) ∧ H' = H) := by
  subst hn
  refine Meets.enter Tryz.func40 rfl rfl ?_
  obtain ⟨g1, g2⟩ := drop_head ha.drop
  have g4 : xs.length < v.length := by
    have h1 := (Fo.of ha.fo).le
    have h2 := congrArg List.length ha.drop
    simp only [List.length_drop, List.length_cons, List.length_append] at h2
    omega
  unfold memP
  rw [← g1]
  by_cases hk7 : (v.getD p default).kind = 7
  · rw [if_pos hk7]
    repeat' (first | (apply T.mv; apply rfl; apply rfl) | (apply T.asn; apply rfl; apply rfl) | (apply T.len; apply rfl; apply rfl) | (apply T.lss; apply rfl; apply rfl; apply rfl) | (apply T.geq; apply rfl; apply rfl; apply rfl) | (apply T.neq; apply rfl; apply rfl; apply rfl) | (apply T.ixF; apply rfl; apply rfl; infer_instance; exact (fun _ => rfl); apply rfl; omega; omega; apply rfl) | (apply T.fieldAddrF; apply rfl; infer_instance; exact (fun _ => rfl); apply rfl; omega; apply rfl) | (apply T.loadF; apply rfl; apply rfl; infer_instance; exact (fun _ => rfl); apply rfl; exact getD_some (by omega); apply rfl; apply rfl) | (apply T.pickF; apply rfl; apply rfl; apply rfl) | with_reducible refine Sr.nil ?_ | with_reducible refine S.seq ?_ | with_reducible refine S.reg ?_ | with_reducible refine S.skip ?_ | (apply T.ungV; apply rfl; (first | with_reducible rfl | decide)) | (apply S.condQ; apply rfl; all_goals (intro _; try (exfalso; first | omega | with_reducible contradiction))) | (apply T.gcase; apply rfl; apply rfl; all_goals (intro _; try (exfalso; first | omega | with_reducible contradiction))) | fail)
    refine T.call rfl rfl (refKids_spec rfl hl ha) ?_
    rintro _ _ ⟨ka, kc, rfl, rfl⟩
    repeat' (first | (apply T.asn; apply rfl; apply rfl) | with_reducible refine Sr.nil ?_ | with_reducible refine S.seq ?_ | with_reducible refine S.block ?_ | with_reducible refine S.reg ?_ | (with_reducible apply T.ofRet) | fail)
    generalize hQ : membX (p + 1) xs key = Q
    have hlen := offs_len (p + 1) xs
    refine S.loopE 0 [0, 2, 7] (fun R b' μ H' e => ∃ (i : Nat), H' = R ∧ e = (8, .int .i64 i) :: b' ∧ (i ≤ xs.length ∧ membX (p + 1 + (xs.take i).flatten.length) (xs.drop i) key = Q) ∧ μ = xs.length - i) rfl rfl ?_ _ _ ⟨0, rfl, rfl, ⟨Nat.zero_le _, hQ⟩, rfl⟩ (by repeat' first | exact trivial | refine And.intro rfl ?_)
    rintro _ _ _ ⟨i, rfl, rfl, ⟨h1, h5⟩, rfl⟩ ih
    by_cases h4 : i < xs.length
    · have hk := ha.kid h4
      have hx := ha.fo _ (List.getElem_mem h4)
      have hq := drop_le hk hx.pos
      have hxp := hx.pos
      have ht := take_flat_succ h4
      have ho := offs_get (p := p + 1) h4
      rw [List.drop_eq_getElem_cons h4, membX_cons, show p + 1 + (xs.take i).flatten.length + xs[i].length = p + 1 + (xs.take (i + 1)).flatten.length by omega] at h5
      generalize hqq : p + 1 + (xs.take i).flatten.length = q at *
      have hhd : v.getD q default = headN xs[i] := by
        obtain ⟨n2, xs2, e2, -⟩ := At.of_fo hk hx
        rw [e2] at hk ⊢
        exact (drop_head hk).1
      rw [← hhd] at h5
      by_cases h6 : (v.getD q default).key = key
      · rw [if_pos h6] at h5
        repeat' (first | (apply T.loadNat; apply rfl; infer_instance; omega; apply rfl; rw [ho]) | (apply T.seql; apply rfl; apply rfl; apply rfl) | (apply T.mv; apply rfl; apply rfl) | (apply T.asn; apply rfl; apply rfl) | (apply T.len; apply rfl; apply rfl) | (apply T.lss; apply rfl; apply rfl; apply rfl) | (apply T.ixN; apply rfl; apply rfl; infer_instance; omega; (first | omega | (simp only [List.length_map]; omega) | (simp; omega)); apply rfl) | (apply T.ixF; apply rfl; apply rfl; infer_instance; exact (fun _ => rfl); apply rfl; omega; omega; apply rfl) | (apply T.fieldAddrF; apply rfl; infer_instance; exact (fun _ => rfl); apply rfl; omega; apply rfl) | (apply T.loadF; apply rfl; apply rfl; infer_instance; exact (fun _ => rfl); apply rfl; exact getD_some (by omega); apply rfl; apply rfl) | with_reducible refine Sr.nil ?_ | with_reducible refine S.seq ?_ | with_reducible refine S.block ?_ | with_reducible refine S.reg ?_ | with_reducible refine S.skip ?_ | (apply S.condQ; apply rfl; all_goals (intro _; try (exfalso; first | omega | with_reducible contradiction))) | (apply T.retW; apply rfl) | fail)
        exact ⟨_, PSub.drop (PSub.refl _), by rw [h5], rfl⟩
      · rw [if_neg h6] at h5
        repeat' (first | (apply T.loadNat; apply rfl; infer_instance; omega; apply rfl; rw [ho]) | (apply T.seql; apply rfl; apply rfl; apply rfl) | (apply T.mv; apply rfl; apply rfl) | (apply T.asn; apply rfl; apply rfl) | (apply T.len; apply rfl; apply rfl) | (apply T.lss; apply rfl; apply rfl; apply rfl) | (apply T.addI; apply rfl; apply rfl; omega; apply rfl) | (apply T.ixN; apply rfl; apply rfl; infer_instance; omega; (first | omega | (simp only [List.length_map]; omega) | (simp; omega)); apply rfl) | (apply T.ixF; apply rfl; apply rfl; infer_instance; exact (fun _ => rfl); apply rfl; omega; omega; apply rfl) | (apply T.fieldAddrF; apply rfl; infer_instance; exact (fun _ => rfl); apply rfl; omega; apply rfl) | (apply T.loadF; apply rfl; apply rfl; infer_instance; exact (fun _ => rfl); apply rfl; exact getD_some (by omega); apply rfl; apply rfl) | with_reducible refine Sr.nil ?_ | with_reducible refine S.seq ?_ | with_reducible refine S.block ?_ | with_reducible refine S.reg ?_ | with_reducible refine S.skip ?_ | with_reducible refine S.inBlock ?_ | (apply S.condQ; apply rfl; all_goals (intro _; try (exfalso; first | omega | with_reducible contradiction))) | fail)
        exact ih _ _ _ _ ⟨i + 1, rfl, rfl, ⟨h4, h5⟩, rfl⟩ (by omega) (by repeat' first | exact trivial | refine And.intro rfl ?_)
    · obtain rfl : i = xs.length := by omega
      rw [List.drop_length] at h5
      rw [← h5]
      repeat' (first | (apply T.mv; apply rfl; apply rfl) | (apply T.asn; apply rfl; apply rfl) | (apply T.len; apply rfl; apply rfl) | (apply T.lss; apply rfl; apply rfl; apply rfl) | with_reducible refine Sr.nil ?_ | with_reducible refine S.seq ?_ | with_reducible refine S.reg ?_ | (apply S.exit; apply rfl) | (apply S.condQ; apply rfl; all_goals (intro _; try (exfalso; first | omega | with_reducible contradiction))) | (apply T.retW; apply rfl) | fail)
      exact ⟨_, PSub.drop (PSub.refl _), rfl, rfl⟩
  · rw [if_neg hk7]
    repeat' (first | (apply T.mv; apply rfl; apply rfl) | (apply T.asn; apply rfl; apply rfl) | (apply T.len; apply rfl; apply rfl) | (apply T.lss; apply rfl; apply rfl; apply rfl) | (apply T.geq; apply rfl; apply rfl; apply rfl) | (apply T.neq; apply rfl; apply rfl; apply rfl) | (apply T.ixF; apply rfl; apply rfl; infer_instance; exact (fun _ => rfl); apply rfl; omega; omega; apply rfl) | (apply T.fieldAddrF; apply rfl; infer_instance; exact (fun _ => rfl); apply rfl; omega; apply rfl) | (apply T.loadF; apply rfl; apply rfl; infer_instance; exact (fun _ => rfl); apply rfl; exact getD_some (by omega); apply rfl; apply rfl) | (apply T.pickF; apply rfl; apply rfl; apply rfl) | with_reducible refine Sr.nil ?_ | with_reducible refine S.seq ?_ | with_reducible refine S.reg ?_ | (apply T.ungV; apply rfl; (first | with_reducible rfl | decide)) | (apply S.condQ; apply rfl; all_goals (intro _; try (exfalso; first | omega | with_reducible contradiction))) | (apply T.gcase; apply rfl; apply rfl; all_goals (intro _; try (exfalso; first | omega | with_reducible contradiction))) | (apply T.retW; apply rfl) | fail)
    exact ⟨_, PSub.refl _, rfl, rfl⟩
end
end Go.Proofs.YtddbdgmaaogclaaGreatDoor
/- Values in a row of nodes, reckoned: how far a value goes, what stands in it, its members. -/
namespace Sg
/-- How many nodes so many values take. -/
def runL : List Nd → Nat → Nat
  | _, 0 => 0
  | [], _ + 1 => 0
  | n :: r, k + 1 => 1 + runL r (k + n.kids.toNat)
def splitK : Nat → List Nd → List (List Nd)
  | 0, _ => []
  | k + 1, l => l.take (runL l 1) :: splitK k (l.drop (runL l 1))
def nodeAt (v : List Nd) (p : Nat) : Nd := match v[p]? with
  | some n => n
  | none => nd 0
/-- What stands in the value at a place. -/
def kidsOf (v : List Nd) (p : Nat) : List (List Nd) := splitK (nodeAt v p).kids.toNat (v.drop (p + 1))
theorem runL_fo {k : Nat} {x : List Nd} (h : Fo k x) : ∀ (r : List Nd) (j : Nat), runL (x ++ r) (k + j) = x.length + runL r j := by
  induction h with
  | nil => intro r j; simp
  | @node n m i a b hn ha hb ih1 ih2 =>
    intro r j
    rw [List.cons_append, show i + 1 + j = (i + j) + 1 by omega, runL, hn]
    have h1 : ((m : Int)).toNat = m := by omega
    rw [h1, List.append_assoc, show i + j + m = m + (i + j) by omega, ih1, ih2]
    simp only [List.length_cons, List.length_append]
    omega
theorem runL_one {x : List Nd} (h : Fo 1 x) (r : List Nd) : runL (x ++ r) 1 = x.length := by
  have := runL_fo h r 0
  simpa [runL] using this
theorem splitK_fo : ∀ {xs : List (List Nd)} (r : List Nd), (∀ x ∈ xs, Fo 1 x) → splitK xs.length (xs.flatten ++ r) = xs
  | [], r, _ => rfl
  | x :: xs, r, h => by
    have h1 := runL_one (h x (List.mem_cons_self ..)) (xs.flatten ++ r)
    rw [List.length_cons, splitK, List.flatten_cons, List.append_assoc, h1, List.take_left, List.drop_left, splitK_fo r fun y hy => h y (List.mem_cons_of_mem _ hy)]
theorem nodeAt_of {v b : List Nd} {p : Nat} {n : Nd} (h : v.drop p = n :: b) : nodeAt v p = n := by
  have : Inhabited Nd := ⟨nd 0⟩
  obtain ⟨h1, h2⟩ := drop_head h
  unfold nodeAt
  rw [List.getElem?_eq_getElem h2]
  simpa [List.getD, h2] using h1
theorem nodeAt_getD [Inhabited Nd] {v : List Nd} {p : Nat} (h : p < v.length) : nodeAt v p = v.getD p default := by
  unfold nodeAt
  rw [List.getElem?_eq_getElem h]
  simp [List.getD, h]
theorem At.node {v r : List Nd} {p : Nat} {n : Nd} {xs : List (List Nd)} (h : At v p n xs r) : nodeAt v p = n := nodeAt_of h.drop
theorem At.lt {v r : List Nd} {p : Nat} {n : Nd} {xs : List (List Nd)} (h : At v p n xs r) : p < v.length := by
  have : Inhabited Nd := ⟨nd 0⟩
  exact (drop_head h.drop).2
theorem At.kidsOf {v r : List Nd} {p : Nat} {n : Nd} {xs : List (List Nd)} (h : At v p n xs r) : kidsOf v p = xs := by
  unfold Sg.kidsOf
  have h1 : v.drop (p + 1) = xs.flatten ++ r := by
    rw [← List.drop_drop, h.drop]
    rfl
  have h2 : ((xs.length : Nat) : Int).toNat = xs.length := by omega
  rw [h.node, h.kids, h1, h2, splitK_fo r h.fo]
/-- There is a value at a place. -/
def IsAt (v : List Nd) (p : Nat) : Prop := ∃ r, At v p (nodeAt v p) (kidsOf v p) r
theorem At.is {v r : List Nd} {p : Nat} {n : Nd} {xs : List (List Nd)} (h : At v p n xs r) : IsAt v p := ⟨r, by rw [h.node, h.kidsOf]; exact h⟩
theorem IsAt.lt {v : List Nd} {p : Nat} (h : IsAt v p) : p < v.length := h.choose_spec.lt
/-- The place of a member; -1: there is none. -/
def memI (v : List Nd) (p : Nat) (key : List UInt8) : Int := if (nodeAt v p).kind = 7 then membX (p + 1) (kidsOf v p) key else -1
theorem At.kidIs {v r : List Nd} {p i : Nat} {n : Nd} {xs : List (List Nd)} (h : At v p n xs r) (hi : i < xs.length) : IsAt v (p + 1 + (xs.take i).flatten.length) := by
  obtain ⟨n2, xs2, -, h2⟩ := At.of_fo (h.kid hi) (h.fo _ (List.getElem_mem hi))
  exact h2.is
theorem offs_is {v r : List Nd} {p : Nat} {n : Nd} {xs : List (List Nd)} (h : At v p n xs r) : ∀ q ∈ offs (p + 1) xs, IsAt v q := by
  intro q hq
  obtain ⟨i, hi, rfl⟩ := List.getElem_of_mem hq
  have hi2 : i < xs.length := by rw [offs_len] at hi; exact hi
  have h1 := offs_get (p := p + 1) hi2
  have h2 : (offs (p + 1) xs)[i] = (offs (p + 1) xs).getD i 0 := by simp [List.getD, hi]
  rw [h2, h1]
  exact h.kidIs hi2
theorem membX_of : ∀ (p : Nat) (xs : List (List Nd)) (key : List UInt8), membX p xs key = -1 ∨ ∃ i, i < xs.length ∧ membX p xs key = ((p + (xs.take i).flatten.length : Nat) : Int)
  | _, [], _ => .inl rfl
  | p, x :: r, key => by
    rw [membX_cons]
    split
    · exact .inr ⟨0, by simp, by simp⟩
    · rcases membX_of (p + x.length) r key with h | ⟨i, h1, h2⟩
      · exact .inl h
      · exact .inr ⟨i + 1, by simpa using h1, by rw [h2, List.take_succ_cons, List.flatten_cons, List.length_append, Nat.add_assoc]⟩
theorem memI_of {v : List Nd} {p : Nat} (h : IsAt v p) (key : List UInt8) : memI v p key = -1 ∨ ∃ q : Nat, memI v p key = (q : Int) ∧ IsAt v q := by
  obtain ⟨r, h⟩ := h
  unfold memI
  split
  · rcases membX_of (p + 1) (Sg.kidsOf v p) key with h1 | ⟨i, h1, h2⟩
    · exact .inl h1
    · exact .inr ⟨_, h2, h.kidIs h1⟩
  · exact .inl rfl
theorem IsAt.kid {v : List Nd} {p : Nat} (h : IsAt v p) : ∀ q ∈ offs (p + 1) (Sg.kidsOf v p), IsAt v q := by
  obtain ⟨r, h⟩ := h
  exact offs_is h
theorem IsAt.of_fo {v : List Nd} (h : Fo 1 v) : IsAt v 0 := by
  obtain ⟨n, xs, -, h2⟩ := At.of_fo (v := v) (p := 0) (x := v) (r := []) (by simp) h
  exact h2.is
theorem IsAt.kids_len {v : List Nd} {p : Nat} (h : IsAt v p) : (nodeAt v p).kids = ((Sg.kidsOf v p).length : Int) ∧ (Sg.kidsOf v p).length < v.length := by
  obtain ⟨r, h⟩ := h
  refine ⟨h.kids, ?_⟩
  have h1 := (Fo.of h.fo).le
  have h2 := congrArg List.length h.drop
  simp only [List.length_drop, List.length_cons, List.length_append] at h2
  omega
end Sg
/- Looks at nodes by place alone, the program's and the document's. -/
namespace Go.Proofs.YtddbdgmaaogclaaGreatDoor
open Sg Go.IntWalk
section
variable {F : World} {M : List Nat} {H : List Res} {v : List Nd} {p : Nat} {oa : Option Addr} {oc n : Nat}
theorem memberI_spec {key : List UInt8} [Rd F M H oa (v.flatMap ndV)] (hn : v.length = n) (hl : n ≤ 1000000) (ha : IsAt v p) :
    Meets Tryz.prog 30 [.slice oa n oc, .int .i64 p, sV key] F M H (fun e H' => e = .returned (.int .i64 (memI v p key)) ∧ H' = H) := by
  obtain ⟨r, ha⟩ := ha
  exact member_spec hn hl ha
theorem refMemberI_spec {key : List UInt8} [Rd F M H oa (v.flatMap ndV)] (hn : v.length = n) (hl : n ≤ 1000000) (ha : IsAt v p) :
    Meets Tryz.prog 40 [.slice oa n oc, .int .i64 p, sV key] F M H (fun e H' => e = .returned (.int .i64 (memI v p key)) ∧ H' = H) := by
  obtain ⟨r, ha⟩ := ha
  exact refMember_spec hn hl ha
theorem kidsI_spec [Rd F M H oa (v.flatMap ndV)] (hn : v.length = n) (hl : n ≤ 1000000) (ha : IsAt v p) :
    Meets Tryz.prog 67 [.slice oa n oc, .int .i64 p] F M H (fun e H' => ∃ ka kc, e = .returned (.slice ka (kidsOf v p).length kc) ∧ H' = .row ka kc 3 1 (kidsOf v p).length ((offs (p + 1) (kidsOf v p)).map nV) :: H) := by
  obtain ⟨r, ha⟩ := ha
  exact kids_spec hn hl ha
theorem refKidsI_spec [Rd F M H oa (v.flatMap ndV)] (hn : v.length = n) (hl : n ≤ 1000000) (ha : IsAt v p) :
    Meets Tryz.prog 41 [.slice oa n oc, .int .i64 p] F M H (fun e H' => ∃ ka kc, e = .returned (.slice ka (kidsOf v p).length kc) ∧ H' = .row ka kc 3 1 (kidsOf v p).length ((offs (p + 1) (kidsOf v p)).map nV) :: H) := by
  obtain ⟨r, ha⟩ := ha
  exact refKids_spec hn hl ha
end
end Go.Proofs.YtddbdgmaaogclaaGreatDoor
/- The compact tokens of a JSON form, in plain Lean; by the program's way and by the document's. -/
namespace Sg
def strN (n : Nd) : Option (List UInt8) := if n.kind = 5 ∧ 46 ∉ n.text then some n.text else none
/-- A member's string without a dot. -/
def strX (v : List Nd) (p : Nat) (name : List UInt8) : Option (List UInt8) := if memI v p name < 0 then none else strN (nodeAt v (memI v p name).toNat)
def nPay : List UInt8 := [112, 97, 121, 108, 111, 97, 100]
def nPro : List UInt8 := [112, 114, 111, 116, 101, 99, 116, 101, 100]
def nSig : List UInt8 := [115, 105, 103, 110, 97, 116, 117, 114, 101]
def nSigs : List UInt8 := [115, 105, 103, 110, 97, 116, 117, 114, 101, 115]
def tok3 (a b c : List UInt8) : List UInt8 := a ++ [46] ++ b ++ [46] ++ c
/-- A signature's token. -/
def itemT (v : List Nd) (pay : List UInt8) (q : Nat) : Option (List UInt8) := match strX v q nPro, strX v q nSig with
  | some h, some g => if (nodeAt v q).kids = 2 then some (tok3 h pay g) else none
  | _, _ => none
/-- All of a list, or none. -/
def allO {α β : Type} (f : α → Option β) : List α → Option (List β)
  | [] => some []
  | x :: r => match f x with
    | none => none
    | some y => match allO f r with
      | none => none
      | some ys => some (y :: ys)
/-- The tokens of a list of signatures. -/
def manyT (v : List Nd) (pay : List UInt8) : Option (List (List UInt8)) :=
  let s := memI v 0 nSigs
  if s < 0 ∨ (nodeAt v s.toNat).kind ≠ 6 ∨ (nodeAt v 0).kids ≠ 2 ∨ (nodeAt v s.toNat).kids = 0 ∨ 16 < (nodeAt v s.toNat).kids then none
  else allO (itemT v pay) (offs (s.toNat + 1) (kidsOf v s.toNat))
/-- The tokens of a value. -/
def tokV (v : List Nd) : Option (List (List UInt8)) := match strX v 0 nPay with
  | none => none
  | some pay => match strX v 0 nPro, strX v 0 nSig with
    | some h, some g => if (nodeAt v 0).kids = 3 then some [tok3 h pay g] else manyT v pay
    | _, _ => manyT v pay
/-- The tokens of a text, and the code. -/
def tokX (t : List UInt8) : List (List UInt8) × Int := match parseX wholeX t with
  | .bad c _ => ([], c)
  | .ok _ v => match tokV v with
    | none => ([], 140)
    | some l => (l, 0)
/- By the program's way. -/
def partsX (v : List Nd) (p : Nat) (names : List (List UInt8)) : Option (List (List UInt8)) := if (nodeAt v p).kind ≠ 7 ∨ (nodeAt v p).kids ≠ (names.length : Int) then none else allO (strX v p) names
def itemG (v : List Nd) (pay : List UInt8) (q : Nat) : Option (List UInt8) := match partsX v q [nPro, nSig] with
  | some [h, g] => some (tok3 h pay g)
  | _ => none
def genX (v : List Nd) : Option (List (List UInt8)) :=
  let p := memI v 0 nPay
  let s := memI v 0 nSigs
  if (nodeAt v 0).kids ≠ 2 ∨ p < 0 ∨ s < 0 then none else match strN (nodeAt v p.toNat) with
  | none => none
  | some pay => if (nodeAt v s.toNat).kind ≠ 6 ∨ (nodeAt v s.toNat).kids < 1 ∨ 16 < (nodeAt v s.toNat).kids then none
    else allO (itemG v pay) (offs (s.toNat + 1) (kidsOf v s.toNat))
def tokG (v : List Nd) : Option (List (List UInt8)) := if (nodeAt v 0).kind ≠ 7 then none else match partsX v 0 [nPro, nPay, nSig] with
  | some [h, p, g] => some [tok3 h p g]
  | some _ => none
  | none => genX v
theorem memI_kind {v : List Nd} {p : Nat} {key : List UInt8} (h : (nodeAt v p).kind ≠ 7) : memI v p key = -1 := if_neg h
theorem strX_kind {v : List Nd} {p : Nat} {key : List UInt8} (h : (nodeAt v p).kind ≠ 7) : strX v p key = none := by
  unfold strX
  rw [memI_kind h, if_pos (by decide)]
theorem itemG_eq (v : List Nd) (pay : List UInt8) (q : Nat) : itemG v pay q = itemT v pay q := by
  unfold itemG itemT partsX
  by_cases hk : (nodeAt v q).kind = 7
  · by_cases h2 : (nodeAt v q).kids = 2
    · rw [if_neg (by rw [h2]; simp [hk])]
      simp only [allO]
      cases strX v q nPro <;> cases strX v q nSig <;> simp [h2]
    · rw [if_pos (.inr h2)]
      cases strX v q nPro <;> cases strX v q nSig <;> simp [h2]
  · rw [if_pos (.inl hk), strX_kind hk]
theorem allO_congr {α β : Type} {f g : α → Option β} (h : ∀ x, f x = g x) (l : List α) : allO f l = allO g l := by rw [show f = g from funext h]
theorem kids_pos {v : List Nd} {p : Nat} (h : IsAt v p) : 0 ≤ (nodeAt v p).kids := by
  have := h.kids_len.1
  omega
theorem tokG_eq {v : List Nd} (hv : IsAt v 0) : tokG v = tokV v := by
  unfold tokG tokV
  by_cases hk : (nodeAt v 0).kind = 7
  · rw [if_neg (by simp [hk])]
    have hpar : partsX v 0 [nPro, nPay, nSig] = if (nodeAt v 0).kids ≠ 3 then none else allO (strX v 0) [nPro, nPay, nSig] := by
      unfold partsX
      simp [hk]
    have hgen : genX v = match strX v 0 nPay with
        | none => none
        | some pay => manyT v pay := by
      unfold genX manyT strX
      simp only
      by_cases hp : memI v 0 nPay < 0
      · rw [if_pos (.inr (.inl hp)), if_pos hp]
      · rw [if_neg hp]
        cases hs : strN (nodeAt v (memI v 0 nPay).toNat) with
        | none => simp
        | some pay =>
          simp only
          by_cases h1 : (nodeAt v 0).kids ≠ 2 ∨ memI v 0 nSigs < 0
          · rw [if_pos (h1.elim .inl (fun h => .inr (.inr h))), if_pos (h1.elim (fun h => .inr (.inr (.inl h))) .inl)]
          · have h2 : (nodeAt v 0).kids = 2 := Classical.not_not.1 fun h => h1 (.inl h)
            have h3 : ¬ memI v 0 nSigs < 0 := fun h => h1 (.inr h)
            rw [if_neg (fun h => h.elim (fun h => h h2) (fun h => h.elim hp h3))]
            rcases memI_of hv nSigs with h4 | ⟨q, h4, h5⟩
            · omega
            · have h6 := kids_pos h5
              have h7 : (memI v 0 nSigs).toNat = q := by omega
              rw [h7]
              rw [allO_congr (itemG_eq v pay)]
              by_cases h8 : (nodeAt v q).kind ≠ 6 ∨ (nodeAt v q).kids < 1 ∨ 16 < (nodeAt v q).kids
              · rw [if_pos h8, if_pos]
                rcases h8 with h | h | h
                · exact .inr (.inl h)
                · exact .inr (.inr (.inr (.inl (by omega))))
                · exact .inr (.inr (.inr (.inr h)))
              · rw [if_neg h8, if_neg]
                rintro (h | h | h | h | h)
                · exact h3 h
                · exact h8 (.inl h)
                · exact h h2
                · exact h8 (.inr (.inl (by omega)))
                · exact h8 (.inr (.inr h))
    rw [hpar, hgen]
    by_cases h3 : (nodeAt v 0).kids = 3
    · have h2 : ∀ pay, manyT v pay = none := fun pay => by
        unfold manyT
        simp only
        rw [if_pos (.inr (.inr (.inl (by omega))))]
      simp only [allO, h2]
      cases strX v 0 nPro <;> cases strX v 0 nPay <;> cases strX v 0 nSig <;> simp [h3]
    · cases strX v 0 nPro <;> cases strX v 0 nPay <;> cases strX v 0 nSig <;> simp [h3]
  · rw [if_pos hk, strX_kind hk]
end Sg
/- The library's contracts, laid at this program (printed by the kit's tools lay-shelf and lay-plain, cut out by a program). -/
namespace Go.Proofs
open Go.Shelf
def Tryz.lays156_ren : Go.Shelf.Ren := ⟨fun | 156 => 36 | 165 => 75 | 166 => 76 | 169 => 77 | 240 => 119 | 241 => 120 | 276 => 171 | 277 => 172 | n => n, fun | 31 => 22 | 9 => 9 | 3 => 3 | 4 => 4 | 0 => 0 | 20 => 20 | 72 => 144 | 76 => 148 | 70 => 142 | 37 => 51 | 75 => 147 | 127 => 192 | 164 => 217 | 5 => 5 | 80 => 150 | n => n, fun | n => n⟩
theorem Tryz.lays156 : Go.Proofs.Lays.n156 Tryz.prog Tryz.lays156_ren := {
  mixed := by kernel_rfl
  f156 := Tryz.func36.trans (congrArg some (by kernel_rfl))
  f165 := Tryz.func75.trans (congrArg some (by kernel_rfl))
  f166 := Tryz.func76.trans (congrArg some (by kernel_rfl))
  f169 := Tryz.func77.trans (congrArg some (by kernel_rfl))
  f240 := Tryz.func119.trans (congrArg some (by kernel_rfl))
  f241 := Tryz.func120.trans (congrArg some (by kernel_rfl))
  f276 := Tryz.func171.trans (congrArg some (by kernel_rfl))
  f277 := Tryz.func172.trans (congrArg some (by kernel_rfl))
  t0 := Tryz.underlying0
  a0 := Tryz.isAgg0
  z0 := Tryz.sizeOf0
  v0 := Tryz.zeroValue0
  t3 := Tryz.underlying3
  a3 := Tryz.isAgg3
  z3 := Tryz.sizeOf3
  v3 := Tryz.zeroValue3
  t4 := Tryz.underlying4
  a4 := Tryz.isAgg4
  z4 := Tryz.sizeOf4
  v4 := Tryz.zeroValue4
  t9 := Tryz.underlying9
  a9 := Tryz.isAgg9
  z9 := Tryz.sizeOf9
  v9 := Tryz.zeroValue9
  t20 := Tryz.underlying20
  a20 := Tryz.isAgg20
  z20 := Tryz.sizeOf20
  v20 := Tryz.zeroValue20
  t31 := Tryz.underlying22
  a31 := Tryz.isAgg22
  z31 := Tryz.sizeOf22
  v31 := Tryz.zeroValue22
  t37 := Tryz.underlying51
  a37 := Tryz.isAgg51
  z37 := Tryz.sizeOf51
  v37 := Tryz.zeroValue51
  t70 := Tryz.underlying142
  a70 := Tryz.isAgg142
  z70 := Tryz.sizeOf142
  v70 := Tryz.zeroValue142
  t72 := Tryz.underlying144
  a72 := Tryz.isAgg144
  z72 := Tryz.sizeOf144
  v72 := Tryz.zeroValue144
  t75 := Tryz.underlying147
  a75 := Tryz.isAgg147
  z75 := Tryz.sizeOf147
  v75 := Tryz.zeroValue147
  t76 := Tryz.underlying148
  a76 := Tryz.isAgg148
  z76 := Tryz.sizeOf148
  v76 := Tryz.zeroValue148
  t127 := Tryz.underlying192
  a127 := Tryz.isAgg192
  z127 := Tryz.sizeOf192
  v127 := Tryz.zeroValue192
  t164 := Tryz.underlying217
  a164 := Tryz.isAgg217
  z164 := Tryz.sizeOf217
  v164 := Tryz.zeroValue217 }
theorem Tryz.Builder_Extra_156 : Builder.Extra Tryz.prog Tryz.lays156_ren := {
  sizeBuilder := by kernel_rfl
  liesBuilder := by kernel_rfl
  t5 := Tryz.underlying5
  a5 := Tryz.isAgg5
  z5 := Tryz.sizeOf5
  v5 := Tryz.zeroValue5
  infoByte := by kernel_rfl
  cellsByte := by kernel_rfl
  sizeByte := by kernel_rfl
  neB5 := by decide }
open Go.RowKit in
/-- No element: the empty string; the world is as it was. (Whatever the slice's address and capacity: a nil slice too.) (LAID: no walk: one application.) -/
theorem Tryz.strings_Join (bk o c : Nat) (xs : List ByteArray) (sep : ByteArray) (w : World) (hcells : ∀ (j : Nat) x, xs[j]? = some x → w.cell? ⟨bk, o + j, none⟩ = some (.string x)) (hbk : bk < w.heap.size) (hN : xs.length ≤ 140737488355328) (hcap : xs.length ≤ c) (hlen : (Lib.join (xs.map (·.data.toList)) sep.data.toList).length ≤ 140737488355328) :
    Calls Tryz.prog 36 #[.slice (some ⟨bk, o, none⟩) xs.length c, .string sep] w fun e w' => e = .returned (.string ⟨(Lib.join (xs.map (·.data.toList)) sep.data.toList).toArray⟩) ∧ Below w.heap.size w w' := Any.strings_Join Tryz.lays156 Tryz.Builder_Extra_156 bk o c xs sep w hcells hbk hN hcap hlen
def Tryz.lays144_ren : Go.Shelf.Ren := ⟨fun | 144 => 74 | 143 => 118 | 219 => 170 | 217 => 109 | 225 => 210 | 224 => 211 | 267 => 212 | 266 => 161 | 314 => 245 | n => n, fun | 9 => 9 | 4 => 4 | 3 => 3 | 5 => 5 | 46 => 182 | 146 => 301 | 51 => 79 | n => n, fun | 1 => 7 | n => n⟩
theorem Tryz.lays144 : Go.Proofs.Lays.n144 Tryz.prog Tryz.lays144_ren := {
  mixed := by kernel_rfl
  f143 := Tryz.func118.trans (congrArg some (by kernel_rfl))
  f144 := Tryz.func74.trans (congrArg some (by kernel_rfl))
  f217 := Tryz.func109.trans (congrArg some (by kernel_rfl))
  f219 := Tryz.func170.trans (congrArg some (by kernel_rfl))
  f224 := Tryz.func211.trans (congrArg some (by kernel_rfl))
  f225 := Tryz.func210.trans (congrArg some (by kernel_rfl))
  f266 := Tryz.func161.trans (congrArg some (by kernel_rfl))
  f267 := Tryz.func212.trans (congrArg some (by kernel_rfl))
  f314 := Tryz.func245.trans (congrArg some (by kernel_rfl))
  t3 := Tryz.underlying3
  a3 := Tryz.isAgg3
  z3 := Tryz.sizeOf3
  v3 := Tryz.zeroValue3
  t4 := Tryz.underlying4
  a4 := Tryz.isAgg4
  z4 := Tryz.sizeOf4
  v4 := Tryz.zeroValue4
  t5 := Tryz.underlying5
  a5 := Tryz.isAgg5
  z5 := Tryz.sizeOf5
  v5 := Tryz.zeroValue5
  t9 := Tryz.underlying9
  a9 := Tryz.isAgg9
  z9 := Tryz.sizeOf9
  v9 := Tryz.zeroValue9
  t46 := Tryz.underlying182
  a46 := Tryz.isAgg182
  z46 := Tryz.sizeOf182
  v46 := Tryz.zeroValue182
  t51 := Tryz.underlying79
  a51 := Tryz.isAgg79
  z51 := Tryz.sizeOf79
  v51 := Tryz.zeroValue79
  t146 := Tryz.underlying301
  a146 := Tryz.isAgg301
  z146 := Tryz.sizeOf301
  v146 := Tryz.zeroValue301
  g1 := by kernel_rfl }
open Go.RowKit Go.Lib in
/-- strings.Contains: "Contains reports whether substr is within s.": AT A substr OF ONE BYTE c: IT RETURNS 'decide (0 ≤ Lib.indexByte s c)'; the world is as it was. (LAID: no walk: one application.) -/
theorem Tryz.strings_Contains_one (s : ByteArray) (c : UInt8) (w : World) :
    Calls Tryz.prog 74 #[.string s, .string ⟨#[c]⟩] w fun e w' => e = .returned (.bool (decide (0 ≤ Lib.indexByte s.data.toList c))) ∧ w' = w := Any.strings_Contains_one Tryz.lays144 s c w
end Go.Proofs
/- The walks of the program's forms: parts of an object. -/
namespace Sg
theorem idx_mem (c : UInt8) : ∀ l : List UInt8, 0 ≤ Go.Lib.indexByte l c ↔ c ∈ l
  | [] => by simp [Go.Lib.indexByte]
  | b :: l => by
    have ih := idx_mem c l
    have hge := Go.Lib.indexByte_ge l c
    unfold Go.Lib.indexByte
    by_cases h : b = c
    · subst h
      simp
    · have h' : ¬ c = b := fun e => h e.symm
      simp only [beq_iff_eq, h, if_false, List.mem_cons, h', false_or]
      rw [← ih]
      split <;> omega
theorem allO_len {α β : Type} {f : α → Option β} : ∀ {l : List α} {ys : List β}, allO f l = some ys → ys.length = l.length
  | [], ys, h => by cases h; rfl
  | x :: r, ys, h => by
    unfold allO at h
    cases hf : f x with
    | none => rw [hf] at h; cases h
    | some y =>
      rw [hf] at h
      cases hr : allO f r with
      | none => rw [hr] at h; cases h
      | some zs =>
        rw [hr] at h
        cases h
        simp [allO_len hr]
def addO {β : Type} (ys : List β) : Option (List β) → Option (List β)
  | none => none
  | some zs => some (ys ++ zs)
theorem addO_nil {β : Type} (o : Option (List β)) : addO [] o = o := by cases o <;> rfl
theorem allO_step {α β : Type} {f : α → Option β} {x : α} {r : List α} {y : β} (h : f x = some y) (ys : List β) : addO ys (allO f (x :: r)) = addO (ys ++ [y]) (allO f r) := by
  have h2 : allO f (x :: r) = match allO f r with
      | none => none
      | some ys => some (y :: ys) := by rw [allO]; simp only [h]; try rfl
  rw [h2]
  cases allO f r <;> simp [addO]
theorem allO_stop {α β : Type} {f : α → Option β} {x : α} {r : List α} (h : f x = none) (ys : List β) : addO ys (allO f (x :: r)) = none := by
  unfold allO
  rw [h]
  rfl
end Sg
namespace Go.Proofs.YtddbdgmaaogclaaGreatDoor
open Sg Go.IntWalk
set_option maxRecDepth 100000
set_option maxHeartbeats 4000000
section
variable {F : World} {M : List Nat} {H : List Res} {v : List Nd} {p : Nat} {oa : Option Addr} {oc n : Nat}
theorem dot_spec {s : List UInt8} : Meets Tryz.prog 74 [sV s, sV [46]] F M H (fun e H' => e = .returned (.bool (decide (46 ∈ s))) ∧ H' = H) := fun w hw => by
  refine (Tryz.strings_Contains_one (ByteArray.mk s.toArray) 46 w).mono fun e w' ⟨h1, h2⟩ => ?_
  subst h2
  refine ⟨H, ⟨?_, rfl⟩, hw⟩
  rw [h1]
  have h3 : decide (0 ≤ Lib.indexByte s 46) = decide (46 ∈ s) := by rw [decide_eq_decide]; exact idx_mem 46 s
  rw [← h3]
/-- What parts of an object answer: texts in a row of their own, or none. -/
def TxO (H : List Res) : Option (List (List UInt8)) → Ending → List Res → Prop
  | some l => fun e H' => ∃ ra rc, e = .returned (.tuple ⟨[.slice ra l.length rc, .bool true]⟩) ∧ H' = .row ra rc 9 1 l.length (l.map sV) :: H
  | none => fun e H' => e = .returned (.tuple ⟨[.slice none 0 0, .bool false]⟩) ∧ H' = H
theorem parts_spec {na : Option Addr} {nc m : Nat} {ns : List (List UInt8)} [hRn : Rd F M H na (ns.map sV)] [hRv : Rd F M H oa (v.flatMap ndV)] (hn : v.length = n) (hl : n ≤ 1000000) (ha : IsAt v p) (hm : ns.length = m) (hm2 : m ≤ 100) :
    Meets Tryz.prog 35 [.slice oa n oc, .int .i64 p, .slice na m nc] F M H (TxO H (partsX v p ns)) := by
  subst hn
  subst hm
  refine Meets.enter Tryz.func35 rfl rfl ?_
  have hlt := ha.lt
  obtain ⟨hk1, hk2⟩ := ha.kids_len
  unfold partsX
  rw [nodeAt_getD hlt] at hk1 ⊢
  by_cases h1 : (v.getD p default).kind = 7
  · by_cases h2 : (v.getD p default).kids = (ns.length : Int)
    · rw [if_neg (fun h => h.elim (fun h => h h1) (fun h => h h2))]
      refine S.nilrow 9 1 ?_
      repeat' (first | (apply T.mv; apply rfl; apply rfl) | (apply T.asn; apply rfl; apply rfl) | (apply T.len; apply rfl; apply rfl) | (apply T.neq; apply rfl; apply rfl; apply rfl) | (apply T.ixF; apply rfl; apply rfl; infer_instance; exact (fun _ => rfl); apply rfl; omega; omega; apply rfl) | (apply T.fieldAddrF; apply rfl; infer_instance; exact (fun _ => rfl); apply rfl; omega; apply rfl) | (apply T.loadF; apply rfl; apply rfl; infer_instance; exact (fun _ => rfl); apply rfl; exact getD_some (by omega); apply rfl; apply rfl) | (apply T.pickF; apply rfl; apply rfl; apply rfl) | with_reducible refine Sr.nil ?_ | with_reducible refine S.seq ?_ | with_reducible refine S.block ?_ | with_reducible refine S.reg ?_ | with_reducible refine S.skip ?_ | (apply T.ungV; apply rfl; (first | with_reducible rfl | decide)) | (apply S.condQ; apply rfl; all_goals (intro _; try (exfalso; first | omega | with_reducible contradiction))) | (apply T.gcase; apply rfl; apply rfl; all_goals (intro _; try (exfalso; first | omega | with_reducible contradiction))) | fail)
      generalize hQ : allO (strX v p) ns = Q
      refine S.loopE 1 [0, 1, 28, 29] (fun R b' μ H' e => ∃ (i : Nat) (ra : Option Addr) (rc k : Nat) (ys : List (List UInt8)), H' = .row ra rc 9 1 k (ys.map sV) :: R ∧ e = (8, .slice ra k rc) :: (30, .int .i64 i) :: b' ∧ (i ≤ ns.length ∧ k = i ∧ ys.length = k ∧ addO ys (allO (strX v p) (ns.drop i)) = Q) ∧ μ = ns.length - i) rfl rfl ?_ _ _ ⟨0, none, 0, 0, [], rfl, rfl, ⟨Nat.zero_le _, rfl, rfl, by rw [List.drop_zero, addO_nil]; exact hQ⟩, rfl⟩ (by repeat' first | exact trivial | refine And.intro rfl ?_)
      rintro _ _ _ ⟨i, ra, rc, k, ys, rfl, rfl, ⟨g1, rfl, g3, g4⟩, rfl⟩ ih
      by_cases g5 : k < ns.length
      · have hd : ns.drop k = ns.getD k [] :: ns.drop (k + 1) := by
          rw [List.drop_eq_getElem_cons g5]
          simp [List.getD, g5]
        rw [hd] at g4
        repeat' (first | (apply T.loadS; apply rfl; infer_instance; (first | omega | (simp only [List.length_map]; omega)); apply rfl) | (apply T.mv; apply rfl; apply rfl) | (apply T.asn; apply rfl; apply rfl) | (apply T.lss; apply rfl; apply rfl; apply rfl) | (apply T.ixN; apply rfl; apply rfl; infer_instance; omega; (first | omega | (simp only [List.length_map]; omega) | (simp; omega)); apply rfl) | with_reducible refine Sr.nil ?_ | with_reducible refine S.seq ?_ | with_reducible refine S.block ?_ | with_reducible refine S.reg ?_ | with_reducible refine S.skip ?_ | (apply S.condQ; apply rfl; all_goals (intro _; try (exfalso; first | omega | with_reducible contradiction))) | fail)
        refine T.call rfl rfl (memberI_spec rfl hl ha) ?_
        rintro _ _ ⟨rfl, rfl⟩
        generalize ns.getD k [] = nm at *
        have hsx : strX v p nm = if memI v p nm < 0 then none else strN (nodeAt v (memI v p nm).toNat) := rfl
        rcases memI_of ha nm with g6 | ⟨q, g6, g7⟩
        · have g8 : strX v p nm = none := by rw [hsx, if_pos (by omega)]
          rw [allO_stop g8] at g4
          rw [← g4, g6]
          repeat' (first | (apply T.mv; apply rfl; apply rfl) | (apply T.asn; apply rfl; apply rfl) | (apply T.lss; apply rfl; apply rfl; apply rfl) | (apply T.pickT; apply rfl; apply rfl; apply rfl) | with_reducible refine Sr.nil ?_ | with_reducible refine S.seq ?_ | with_reducible refine S.reg ?_ | (apply T.skip; apply rfl; (first | with_reducible rfl | decide); apply rfl) | (apply S.condTV; apply rfl; (first | with_reducible rfl | decide)) | (apply T.retW; apply rfl) | (with_reducible apply T.ofRet) | fail)
          exact ⟨_, PSub.drop (PSub.refl _), rfl, rfl⟩
        · have g8 := g7.lt
          have g9 : (q : Int).toNat = q := by omega
          rw [g6, if_neg (by omega), g9, nodeAt_getD g8] at hsx
          unfold strN at hsx
          rw [g6]
          by_cases k1 : (v.getD q default).kind = 5
          · repeat' (first | (apply T.mv; apply rfl; apply rfl) | (apply T.asn; apply rfl; apply rfl) | (apply T.lss; apply rfl; apply rfl; apply rfl) | (apply T.neq; apply rfl; apply rfl; apply rfl) | (apply T.ixF; apply rfl; apply rfl; infer_instance; exact (fun _ => rfl); apply rfl; omega; omega; apply rfl) | (apply T.fieldAddrF; apply rfl; infer_instance; exact (fun _ => rfl); apply rfl; omega; apply rfl) | (apply T.loadF; apply rfl; apply rfl; infer_instance; exact (fun _ => rfl); apply rfl; exact getD_some (by omega); apply rfl; apply rfl) | (apply T.pickF; apply rfl; apply rfl; apply rfl) | with_reducible refine Sr.nil ?_ | with_reducible refine S.seq ?_ | with_reducible refine S.reg ?_ | (apply T.ungV; apply rfl; (first | with_reducible rfl | decide)) | (apply T.gcase; apply rfl; apply rfl; all_goals (intro _; try (exfalso; first | omega | with_reducible contradiction))) | (with_reducible apply T.ofRet) | fail)
            refine T.call rfl rfl dot_spec ?_
            rintro _ _ ⟨rfl, rfl⟩
            by_cases k2 : 46 ∈ (v.getD q default).text
            · rw [if_neg (fun h => h.2 k2)] at hsx
              rw [allO_stop hsx] at g4
              rw [← g4, decide_eq_true k2]
              repeat' (first | (apply T.asn; apply rfl; apply rfl) | (apply T.pickF; apply rfl; apply rfl; apply rfl) | with_reducible refine Sr.nil ?_ | with_reducible refine S.seq ?_ | with_reducible refine S.reg ?_ | (apply S.condTV; apply rfl; (first | with_reducible rfl | decide)) | (apply T.retW; apply rfl) | (with_reducible apply T.ofRet) | fail)
              exact ⟨_, PSub.drop (PSub.refl _), rfl, rfl⟩
            · rw [if_pos ⟨k1, k2⟩] at hsx
              rw [allO_step hsx] at g4
              rw [decide_eq_false k2]
              repeat' (first | (apply T.mv; apply rfl; apply rfl) | (apply T.asn; apply rfl; apply rfl) | (apply T.addI; apply rfl; apply rfl; omega; apply rfl) | (apply T.ixF; apply rfl; apply rfl; infer_instance; exact (fun _ => rfl); apply rfl; omega; omega; apply rfl) | (apply T.fieldAddrF; apply rfl; infer_instance; exact (fun _ => rfl); apply rfl; omega; apply rfl) | (apply T.loadF; apply rfl; apply rfl; infer_instance; exact (fun _ => rfl); apply rfl; exact getD_some (by omega); apply rfl; apply rfl) | (apply T.pickF; apply rfl; apply rfl; apply rfl) | (apply T.bs; apply rfl; apply rfl; apply rfl; apply rfl; apply rfl; apply rfl; intro nb) | (apply T.append; apply rfl; apply rfl; infer_instance; (first | rfl | (simp; done)); (first | rfl | (simp; done)); apply rfl; apply rfl; (constructor <;> omega); apply rfl; intro na nc) | with_reducible refine Sr.nil ?_ | with_reducible refine S.reg ?_ | with_reducible refine S.skip ?_ | with_reducible refine S.inBlock ?_ | (apply S.condFV; apply rfl; (first | with_reducible rfl | decide)) | (with_reducible apply T.ofRet) | fail)
              exact ih _ _ _ _ ⟨k + 1, na, nc, k + 1, ys ++ [(v.getD q default).text], by rw [List.map_append]; rfl, rfl, ⟨by omega, rfl, by rw [List.length_append, g3]; rfl, g4⟩, rfl⟩ (by omega) (by repeat' first | exact trivial | refine And.intro rfl ?_)
          · rw [if_neg (fun h => k1 h.1)] at hsx
            rw [allO_stop hsx] at g4
            rw [← g4]
            repeat' (first | (apply T.mv; apply rfl; apply rfl) | (apply T.asn; apply rfl; apply rfl) | (apply T.lss; apply rfl; apply rfl; apply rfl) | (apply T.neq; apply rfl; apply rfl; apply rfl) | (apply T.ixF; apply rfl; apply rfl; infer_instance; exact (fun _ => rfl); apply rfl; omega; omega; apply rfl) | (apply T.fieldAddrF; apply rfl; infer_instance; exact (fun _ => rfl); apply rfl; omega; apply rfl) | (apply T.loadF; apply rfl; apply rfl; infer_instance; exact (fun _ => rfl); apply rfl; exact getD_some (by omega); apply rfl; apply rfl) | (apply T.pickT; apply rfl; apply rfl; apply rfl) | (apply T.pickF; apply rfl; apply rfl; apply rfl) | with_reducible refine Sr.nil ?_ | with_reducible refine S.seq ?_ | with_reducible refine S.reg ?_ | (apply T.ungV; apply rfl; (first | with_reducible rfl | decide)) | (apply T.skip; apply rfl; (first | with_reducible rfl | decide); apply rfl) | (apply S.condTV; apply rfl; (first | with_reducible rfl | decide)) | (apply T.gcase; apply rfl; apply rfl; all_goals (intro _; try (exfalso; first | omega | with_reducible contradiction))) | (apply T.retW; apply rfl) | (with_reducible apply T.ofRet) | fail)
            exact ⟨_, PSub.drop (PSub.refl _), rfl, rfl⟩
      · obtain rfl : k = ns.length := by omega
        rw [List.drop_length] at g4
        have g6 : Q = some ys := by rw [← g4]; show some (ys ++ []) = some ys; rw [List.append_nil]
        rw [g6]
        rw [← g3]
        repeat' (first | (apply T.mv; apply rfl; apply rfl) | (apply T.asn; apply rfl; apply rfl) | (apply T.lss; apply rfl; apply rfl; apply rfl) | with_reducible refine Sr.nil ?_ | with_reducible refine S.seq ?_ | with_reducible refine S.reg ?_ | (apply S.exit; apply rfl) | (apply S.condQ; apply rfl; all_goals (intro _; try (exfalso; first | omega | with_reducible contradiction))) | (apply T.retW; apply rfl) | fail)
        exact ⟨_, PSub.refl _, ra, rc, rfl, rfl⟩
    · rw [if_pos (.inr h2)]
      repeat' (first | (apply T.mv; apply rfl; apply rfl) | (apply T.asn; apply rfl; apply rfl) | (apply T.len; apply rfl; apply rfl) | (apply T.neq; apply rfl; apply rfl; apply rfl) | (apply T.ixF; apply rfl; apply rfl; infer_instance; exact (fun _ => rfl); apply rfl; omega; omega; apply rfl) | (apply T.fieldAddrF; apply rfl; infer_instance; exact (fun _ => rfl); apply rfl; omega; apply rfl) | (apply T.loadF; apply rfl; apply rfl; infer_instance; exact (fun _ => rfl); apply rfl; exact getD_some (by omega); apply rfl; apply rfl) | (apply T.pickF; apply rfl; apply rfl; apply rfl) | with_reducible refine Sr.nil ?_ | with_reducible refine S.seq ?_ | with_reducible refine S.reg ?_ | (apply T.ungV; apply rfl; (first | with_reducible rfl | decide)) | (apply S.condQ; apply rfl; all_goals (intro _; try (exfalso; first | omega | with_reducible contradiction))) | (apply T.gcase; apply rfl; apply rfl; all_goals (intro _; try (exfalso; first | omega | with_reducible contradiction))) | (apply T.retW; apply rfl) | fail)
      exact ⟨_, PSub.refl _, rfl, rfl⟩
  · rw [if_pos (.inl h1)]
    repeat' (first | (apply T.mv; apply rfl; apply rfl) | (apply T.asn; apply rfl; apply rfl) | (apply T.neq; apply rfl; apply rfl; apply rfl) | (apply T.ixF; apply rfl; apply rfl; infer_instance; exact (fun _ => rfl); apply rfl; omega; omega; apply rfl) | (apply T.fieldAddrF; apply rfl; infer_instance; exact (fun _ => rfl); apply rfl; omega; apply rfl) | (apply T.loadF; apply rfl; apply rfl; infer_instance; exact (fun _ => rfl); apply rfl; exact getD_some (by omega); apply rfl; apply rfl) | (apply T.pickT; apply rfl; apply rfl; apply rfl) | with_reducible refine Sr.nil ?_ | with_reducible refine S.seq ?_ | with_reducible refine S.reg ?_ | (apply T.skip; apply rfl; (first | with_reducible rfl | decide); apply rfl) | (apply S.condTV; apply rfl; (first | with_reducible rfl | decide)) | (apply T.gcase; apply rfl; apply rfl; all_goals (intro _; try (exfalso; first | omega | with_reducible contradiction))) | (apply T.retW; apply rfl) | fail)
    exact ⟨_, PSub.refl _, rfl, rfl⟩
end
end Go.Proofs.YtddbdgmaaogclaaGreatDoor
/- The walks of the program's forms: a general form; the tokens of a text. -/
namespace Sg
theorem strN_len {B : Nat} {n : Nd} {s : List UInt8} (h : strN n = some s) (hn : n.text.length ≤ B) : s.length ≤ B := by
  unfold strN at h
  split at h
  · cases h
    exact hn
  · cases h
theorem nodeAt_len {B : Nat} {v : List Nd} (hv : ∀ x ∈ v, x.text.length ≤ B) (q : Nat) : (nodeAt v q).text.length ≤ B := by
  unfold nodeAt
  split
  · rename_i n hn
    exact hv n (List.mem_of_getElem? hn)
  · exact Nat.zero_le _
theorem strX_len {B : Nat} {v : List Nd} {q : Nat} {nm s : List UInt8} (hv : ∀ x ∈ v, x.text.length ≤ B) (h : strX v q nm = some s) : s.length ≤ B := by
  unfold strX at h
  split at h
  · cases h
  · exact strN_len h (nodeAt_len hv _)
theorem parts2 {v : List Nd} {q : Nat} {l : List (List UInt8)} (h : partsX v q [nPro, nSig] = some l) : ∃ a b, l = [a, b] ∧ strX v q nPro = some a ∧ strX v q nSig = some b := by
  unfold partsX at h
  split at h
  · cases h
  · simp only [allO] at h
    cases h1 : strX v q nPro with
    | none => rw [h1] at h; cases h
    | some a =>
      cases h2 : strX v q nSig with
      | none => rw [h1, h2] at h; cases h
      | some b => rw [h1, h2] at h; cases h; exact ⟨a, b, rfl, rfl, rfl⟩
theorem parts3 {v : List Nd} {q : Nat} {l : List (List UInt8)} (h : partsX v q [nPro, nPay, nSig] = some l) : ∃ a b c, l = [a, b, c] ∧ strX v q nPro = some a ∧ strX v q nPay = some b ∧ strX v q nSig = some c := by
  unfold partsX at h
  split at h
  · cases h
  · simp only [allO] at h
    cases h1 : strX v q nPro with
    | none => rw [h1] at h; cases h
    | some a =>
      cases h2 : strX v q nPay with
      | none => rw [h1, h2] at h; cases h
      | some b =>
        cases h3 : strX v q nSig with
        | none => rw [h1, h2, h3] at h; cases h
        | some c => rw [h1, h2, h3] at h; cases h; exact ⟨a, b, c, rfl, rfl, rfl, rfl⟩
end Sg
namespace Go.Proofs.YtddbdgmaaogclaaGreatDoor
open Sg Go.IntWalk
set_option maxRecDepth 100000
set_option maxHeartbeats 4000000
section
variable {F : World} {M : List Nat} {H : List Res} {v : List Nd} {p : Nat} {oa : Option Addr} {oc n : Nat}
theorem general_spec [hRv : Rd F M H oa (v.flatMap ndV)] (hn : v.length = n) (hl : n ≤ 1000000) (ha : IsAt v 0) (hB : ∀ x ∈ v, x.text.length ≤ 2000000) :
    Meets Tryz.prog 37 [.slice oa n oc] F M H (TxO H (genX v)) := by
  subst hn
  refine Meets.enter Tryz.func37 rfl rfl ?_
  have hlt := ha.lt
  have hgen : genX v = if (nodeAt v 0).kids ≠ 2 ∨ memI v 0 nPay < 0 ∨ memI v 0 nSigs < 0 then none else match strN (nodeAt v (memI v 0 nPay).toNat) with
      | none => none
      | some pay => if (nodeAt v (memI v 0 nSigs).toNat).kind ≠ 6 ∨ (nodeAt v (memI v 0 nSigs).toNat).kids < 1 ∨ 16 < (nodeAt v (memI v 0 nSigs).toNat).kids then none
        else allO (itemG v pay) (offs ((memI v 0 nSigs).toNat + 1) (kidsOf v (memI v 0 nSigs).toNat)) := rfl
  rw [nodeAt_getD hlt] at hgen
  generalize genX v = Q at *
  repeat' (first | (apply T.mv; apply rfl; apply rfl) | (apply T.asn; apply rfl; apply rfl) | with_reducible refine Sr.nil ?_ | with_reducible refine S.seq ?_ | with_reducible refine S.reg ?_ | fail)
  refine T.call rfl rfl (memberI_spec (p := 0) (key := nPay) rfl hl ha) ?_
  rintro _ _ ⟨rfl, hH⟩
  have hH2 := hH.symm
  subst hH2
  repeat' (first | (apply T.mv; apply rfl; apply rfl) | (with_reducible apply T.ofRet) | fail)
  refine T.call rfl rfl (memberI_spec (p := 0) (key := nSigs) rfl hl ha) ?_
  rintro _ _ ⟨rfl, hH⟩
  have hH2 := hH.symm
  subst hH2
  by_cases c1 : (v.getD 0 default).kids = 2
  · rcases memI_of ha nPay with c2 | ⟨q, c2, hq⟩
    · rw [if_pos (.inr (.inl (by omega)))] at hgen
      rw [hgen, c2]
      repeat' (first | (refine T.ixF (g := ndV) (sz := 6) (i := 0) (xs := v) rfl rfl inferInstance (fun _ => rfl) rfl (by omega) (by omega) rfl ?_) | (apply T.mv; apply rfl; apply rfl) | (apply T.asn; apply rfl; apply rfl) | (apply T.lss; apply rfl; apply rfl; apply rfl) | (apply T.neq; apply rfl; apply rfl; apply rfl) | (apply T.fieldAddrF; apply rfl; infer_instance; exact (fun _ => rfl); apply rfl; omega; apply rfl) | (apply T.loadF; apply rfl; apply rfl; infer_instance; exact (fun _ => rfl); apply rfl; exact getD_some (by omega); apply rfl; apply rfl) | (apply T.pickT; apply rfl; apply rfl; apply rfl) | (apply T.pickF; apply rfl; apply rfl; apply rfl) | with_reducible refine Sr.nil ?_ | with_reducible refine S.seq ?_ | with_reducible refine S.reg ?_ | (apply T.ungV; apply rfl; (first | with_reducible rfl | decide)) | (apply T.skip; apply rfl; (first | with_reducible rfl | decide); apply rfl) | (apply S.condTV; apply rfl; (first | with_reducible rfl | decide)) | (apply T.gcase; apply rfl; apply rfl; all_goals (intro _; try (exfalso; first | omega | with_reducible contradiction))) | (apply T.retW; apply rfl) | (with_reducible apply T.ofRet) | fail)
      exact ⟨_, PSub.refl _, rfl, rfl⟩
    · have hqn : (memI v 0 nPay).toNat = q := by omega
      have hql := hq.lt
      rw [hqn, nodeAt_getD hql] at hgen
      rcases memI_of ha nSigs with c3 | ⟨s, c3, hs⟩
      · rw [if_pos (.inr (.inr (by omega)))] at hgen
        rw [hgen, c2, c3]
        repeat' (first | (refine T.ixF (g := ndV) (sz := 6) (i := 0) (xs := v) rfl rfl inferInstance (fun _ => rfl) rfl (by omega) (by omega) rfl ?_) | (apply T.mv; apply rfl; apply rfl) | (apply T.asn; apply rfl; apply rfl) | (apply T.lss; apply rfl; apply rfl; apply rfl) | (apply T.neq; apply rfl; apply rfl; apply rfl) | (apply T.fieldAddrF; apply rfl; infer_instance; exact (fun _ => rfl); apply rfl; omega; apply rfl) | (apply T.loadF; apply rfl; apply rfl; infer_instance; exact (fun _ => rfl); apply rfl; exact getD_some (by omega); apply rfl; apply rfl) | (apply T.pickT; apply rfl; apply rfl; apply rfl) | (apply T.pickF; apply rfl; apply rfl; apply rfl) | with_reducible refine Sr.nil ?_ | with_reducible refine S.seq ?_ | with_reducible refine S.reg ?_ | (apply T.ungV; apply rfl; (first | with_reducible rfl | decide)) | (apply T.skip; apply rfl; (first | with_reducible rfl | decide); apply rfl) | (apply S.condTV; apply rfl; (first | with_reducible rfl | decide)) | (apply T.gcase; apply rfl; apply rfl; all_goals (intro _; try (exfalso; first | omega | with_reducible contradiction))) | (apply T.retW; apply rfl) | (with_reducible apply T.ofRet) | fail)
        exact ⟨_, PSub.refl _, rfl, rfl⟩
      · have hsn : (memI v 0 nSigs).toNat = s := by omega
        have hsl := hs.lt
        rw [hsn, nodeAt_getD hsl, if_neg (fun h => h.elim (fun h => h c1) (fun h => h.elim (by omega) (by omega)))] at hgen
        rw [c2, c3]
        by_cases c4 : (v.getD q default).kind = 5
        · repeat' (first | (refine T.ixF (g := ndV) (sz := 6) (i := 0) (xs := v) rfl rfl inferInstance (fun _ => rfl) rfl (by omega) (by omega) rfl ?_) | (apply T.mv; apply rfl; apply rfl) | (apply T.asn; apply rfl; apply rfl) | (apply T.lss; apply rfl; apply rfl; apply rfl) | (apply T.neq; apply rfl; apply rfl; apply rfl) | (apply T.ixF; apply rfl; apply rfl; infer_instance; exact (fun _ => rfl); apply rfl; omega; omega; apply rfl) | (apply T.fieldAddrF; apply rfl; infer_instance; exact (fun _ => rfl); apply rfl; omega; apply rfl) | (apply T.loadF; apply rfl; apply rfl; infer_instance; exact (fun _ => rfl); apply rfl; exact getD_some (by omega); apply rfl; apply rfl) | (apply T.pickF; apply rfl; apply rfl; apply rfl) | with_reducible refine Sr.nil ?_ | with_reducible refine S.seq ?_ | with_reducible refine S.reg ?_ | (apply T.ungV; apply rfl; (first | with_reducible rfl | decide)) | (apply T.gcase; apply rfl; apply rfl; all_goals (intro _; try (exfalso; first | omega | with_reducible contradiction))) | (with_reducible apply T.ofRet) | fail)
          refine T.call rfl rfl dot_spec ?_
          rintro _ _ ⟨rfl, hH⟩
          have hH2 := hH.symm
          subst hH2
          by_cases c5 : 46 ∈ (v.getD q default).text
          · have c6 : strN (v.getD q default) = none := if_neg (fun h => h.2 c5)
            rw [c6] at hgen
            rw [hgen, decide_eq_true c5]
            repeat' (first | (apply T.asn; apply rfl; apply rfl) | (apply T.pickF; apply rfl; apply rfl; apply rfl) | with_reducible refine Sr.nil ?_ | with_reducible refine S.seq ?_ | with_reducible refine S.reg ?_ | (apply S.condTV; apply rfl; (first | with_reducible rfl | decide)) | (apply T.retW; apply rfl) | (with_reducible apply T.ofRet) | fail)
            exact ⟨_, PSub.refl _, rfl, rfl⟩
          · have c6 : strN (v.getD q default) = some (v.getD q default).text := if_pos ⟨c4, c5⟩
            rw [c6] at hgen
            have hpl := strN_len (B := 2000000) c6 (by have := nodeAt_len hB q; rwa [nodeAt_getD hql] at this)
            rw [decide_eq_false c5]
            simp only at hgen
            by_cases c7 : (v.getD s default).kind ≠ 6 ∨ (v.getD s default).kids < 1 ∨ 16 < (v.getD s default).kids
            · rw [if_pos c7] at hgen
              rw [hgen]
              by_cases d1 : (v.getD s default).kind = 6
              · by_cases d2 : (v.getD s default).kids < 1
                · repeat' (first | (apply T.mv; apply rfl; apply rfl) | (apply T.asn; apply rfl; apply rfl) | (apply T.lss; apply rfl; apply rfl; apply rfl) | (apply T.neq; apply rfl; apply rfl; apply rfl) | (apply T.ixF; apply rfl; apply rfl; infer_instance; exact (fun _ => rfl); apply rfl; omega; omega; apply rfl) | (apply T.fieldAddrF; apply rfl; infer_instance; exact (fun _ => rfl); apply rfl; omega; apply rfl) | (apply T.loadF; apply rfl; apply rfl; infer_instance; exact (fun _ => rfl); apply rfl; exact getD_some (by omega); apply rfl; apply rfl) | (apply T.pickT; apply rfl; apply rfl; apply rfl) | (apply T.pickF; apply rfl; apply rfl; apply rfl) | with_reducible refine Sr.nil ?_ | with_reducible refine S.seq ?_ | with_reducible refine S.reg ?_ | with_reducible refine S.skip ?_ | (apply T.ungV; apply rfl; (first | with_reducible rfl | decide)) | (apply T.skip; apply rfl; (first | with_reducible rfl | decide); apply rfl) | (apply S.condTV; apply rfl; (first | with_reducible rfl | decide)) | (apply S.condFV; apply rfl; (first | with_reducible rfl | decide)) | (apply T.gcase; apply rfl; apply rfl; all_goals (intro _; try (exfalso; first | omega | with_reducible contradiction))) | (apply T.retW; apply rfl) | (with_reducible apply T.ofRet) | fail)
                  exact ⟨_, PSub.refl _, rfl, rfl⟩
                · have d3 : 16 < (v.getD s default).kids := by omega
                  repeat' (first | (apply T.mv; apply rfl; apply rfl) | (apply T.asn; apply rfl; apply rfl) | (apply T.lss; apply rfl; apply rfl; apply rfl) | (apply T.gtr; apply rfl; apply rfl; apply rfl) | (apply T.neq; apply rfl; apply rfl; apply rfl) | (apply T.ixF; apply rfl; apply rfl; infer_instance; exact (fun _ => rfl); apply rfl; omega; omega; apply rfl) | (apply T.fieldAddrF; apply rfl; infer_instance; exact (fun _ => rfl); apply rfl; omega; apply rfl) | (apply T.loadF; apply rfl; apply rfl; infer_instance; exact (fun _ => rfl); apply rfl; exact getD_some (by omega); apply rfl; apply rfl) | (apply T.pickF; apply rfl; apply rfl; apply rfl) | with_reducible refine Sr.nil ?_ | with_reducible refine S.seq ?_ | with_reducible refine S.reg ?_ | with_reducible refine S.skip ?_ | (apply T.ungV; apply rfl; (first | with_reducible rfl | decide)) | (apply S.condFV; apply rfl; (first | with_reducible rfl | decide)) | (apply S.condQ; apply rfl; all_goals (intro _; try (exfalso; first | omega | with_reducible contradiction))) | (apply T.gcase; apply rfl; apply rfl; all_goals (intro _; try (exfalso; first | omega | with_reducible contradiction))) | (apply T.retW; apply rfl) | (with_reducible apply T.ofRet) | fail)
                  exact ⟨_, PSub.refl _, rfl, rfl⟩
              · repeat' (first | (apply T.mv; apply rfl; apply rfl) | (apply T.asn; apply rfl; apply rfl) | (apply T.neq; apply rfl; apply rfl; apply rfl) | (apply T.ixF; apply rfl; apply rfl; infer_instance; exact (fun _ => rfl); apply rfl; omega; omega; apply rfl) | (apply T.fieldAddrF; apply rfl; infer_instance; exact (fun _ => rfl); apply rfl; omega; apply rfl) | (apply T.loadF; apply rfl; apply rfl; infer_instance; exact (fun _ => rfl); apply rfl; exact getD_some (by omega); apply rfl; apply rfl) | (apply T.pickT; apply rfl; apply rfl; apply rfl) | (apply T.pickF; apply rfl; apply rfl; apply rfl) | with_reducible refine Sr.nil ?_ | with_reducible refine S.seq ?_ | with_reducible refine S.reg ?_ | with_reducible refine S.skip ?_ | (apply T.skip; apply rfl; (first | with_reducible rfl | decide); apply rfl) | (apply S.condTV; apply rfl; (first | with_reducible rfl | decide)) | (apply S.condFV; apply rfl; (first | with_reducible rfl | decide)) | (apply T.gcase; apply rfl; apply rfl; all_goals (intro _; try (exfalso; first | omega | with_reducible contradiction))) | (apply T.retW; apply rfl) | (with_reducible apply T.ofRet) | fail)
                exact ⟨_, PSub.refl _, rfl, rfl⟩
            · rw [if_neg c7] at hgen
              have d1 : (v.getD s default).kind = 6 := Classical.not_not.1 fun h => c7 (.inl h)
              have d2 : ¬ (v.getD s default).kids < 1 := fun h => c7 (.inr (.inl h))
              have d3 : ¬ 16 < (v.getD s default).kids := fun h => c7 (.inr (.inr h))
              refine Sr.nilrow 9 1 ?_
              repeat' (first | (apply T.mv; apply rfl; apply rfl) | (apply T.asn; apply rfl; apply rfl) | (apply T.lss; apply rfl; apply rfl; apply rfl) | (apply T.gtr; apply rfl; apply rfl; apply rfl) | (apply T.neq; apply rfl; apply rfl; apply rfl) | (apply T.ixF; apply rfl; apply rfl; infer_instance; exact (fun _ => rfl); apply rfl; omega; omega; apply rfl) | (apply T.fieldAddrF; apply rfl; infer_instance; exact (fun _ => rfl); apply rfl; omega; apply rfl) | (apply T.loadF; apply rfl; apply rfl; infer_instance; exact (fun _ => rfl); apply rfl; exact getD_some (by omega); apply rfl; apply rfl) | (apply T.pickF; apply rfl; apply rfl; apply rfl) | with_reducible refine Sr.nil ?_ | with_reducible refine S.seq ?_ | with_reducible refine S.reg ?_ | with_reducible refine S.skip ?_ | (apply T.ungV; apply rfl; (first | with_reducible rfl | decide)) | (apply S.condFV; apply rfl; (first | with_reducible rfl | decide)) | (apply S.condQ; apply rfl; all_goals (intro _; try (exfalso; first | omega | with_reducible contradiction))) | (apply T.gcase; apply rfl; apply rfl; all_goals (intro _; try (exfalso; first | omega | with_reducible contradiction))) | fail)
              refine T.call rfl rfl (kidsI_spec rfl hl hs) ?_
              rintro _ _ ⟨ka, kc, rfl, rfl⟩
              have hkl := hs.kids_len.2
              have hol := offs_len (s + 1) (kidsOf v s)
              have hki := hs.kid
              generalize offs (s + 1) (kidsOf v s) = ks at *
              rw [← hol] at hkl ⊢
              clear hol
              refine Sr.frontR none ?_
              repeat' (first | (apply T.mv; apply rfl; apply rfl) | (apply T.len; apply rfl; apply rfl) | with_reducible refine Sr.nil ?_ | with_reducible refine S.block ?_ | fail)
              refine S.frontR none ?_
              refine S.loopE 1 [0, 4, 68, 69] (fun R b' μ H' e => ∃ (i m rc : Nat) (ra : Option Addr) (ys : List (List UInt8)), H' = .row ra rc 9 1 m (ys.map sV) :: R ∧ e = (6, .slice ra m rc) :: (70, .int .i64 i) :: b' ∧ (i ≤ ks.length ∧ m = i ∧ ys.length = i ∧ addO ys (allO (itemG v (v.getD q default).text) (ks.drop i)) = Q) ∧ μ = ks.length - i) rfl rfl ?_ _ _ ⟨0, 0, 0, none, [], rfl, rfl, ⟨Nat.zero_le _, rfl, rfl, by rw [List.drop_zero, addO_nil]; exact hgen.symm⟩, rfl⟩ (by repeat' first | exact trivial | refine And.intro rfl ?_)
              rintro _ _ _ ⟨i, m, rc, ra, ys, rfl, rfl, ⟨g1, rfl, g3, g4⟩, rfl⟩ ih
              by_cases g5 : m < ks.length
              · have hd : ks.drop m = ks.getD m 0 :: ks.drop (m + 1) := by
                  rw [List.drop_eq_getElem_cons g5]
                  simp [List.getD, g5]
                have hkm : IsAt v (ks.getD m 0) := hki _ (by simp [List.getD, g5])
                rw [hd] at g4
                repeat' (first | (apply T.mv; apply rfl; apply rfl) | (apply T.asn; apply rfl; apply rfl) | (apply T.lss; apply rfl; apply rfl; apply rfl) | (apply T.ixN; apply rfl; apply rfl; infer_instance; omega; (first | omega | (simp only [List.length_map]; omega) | (simp; omega)); apply rfl) | (apply T.loadNat; apply rfl; infer_instance; (first | omega | (simp only [List.length_map]; omega) | (simp; omega)); apply rfl) | (apply T.bs; apply rfl; apply rfl; apply rfl; apply rfl; apply rfl; apply rfl; intro nb) | with_reducible refine Sr.nil ?_ | with_reducible refine S.seq ?_ | with_reducible refine S.block ?_ | with_reducible refine S.reg ?_ | with_reducible refine S.skip ?_ | (apply S.condQ; apply rfl; all_goals (intro _; try (exfalso; first | omega | with_reducible contradiction))) | fail)
                generalize ks.getD m 0 = kq at *
                have hpr : ∀ {X : List Res} [Rd F M X oa (v.flatMap ndV)] {b : Nat}, Meets Tryz.prog 35 [.slice oa v.length oc, .int .i64 kq, .slice (some ⟨b, 0, none⟩) 2 2] F M (.blk b [sV nPro, sV nSig] 9 :: X) (TxO (.blk b [sV nPro, sV nSig] 9 :: X) (partsX v kq [nPro, nSig])) := by
                  intro X _ b
                  exact parts_spec (ns := [nPro, nSig]) (hRn := Rd.blk0) rfl hl hkm rfl (by decide)
                have hit : itemG v (v.getD q default).text kq = match partsX v kq [nPro, nSig] with
                    | some [h, g] => some (tok3 h (v.getD q default).text g)
                    | _ => none := rfl
                refine T.call rfl rfl hpr ?_
                cases hpx : partsX v kq [nPro, nSig] with
                | none =>
                  rw [hpx] at hit
                  rw [allO_stop hit] at g4
                  rw [← g4]
                  rintro _ _ ⟨rfl, rfl⟩
                  repeat' (first | (apply T.mv; apply rfl; apply rfl) | (apply T.asn; apply rfl; apply rfl) | (apply T.extract; apply rfl; apply rfl; apply rfl) | (apply T.notB; apply rfl; apply rfl) | with_reducible refine Sr.nil ?_ | with_reducible refine S.seq ?_ | with_reducible refine S.reg ?_ | (apply S.condTV; apply rfl; (first | with_reducible rfl | decide)) | (apply T.retW; apply rfl) | (with_reducible apply T.ofRet) | fail)
                  exact ⟨_, PSub.drop (PSub.drop (PSub.drop (PSub.refl _))), rfl, rfl⟩
                | some l =>
                  obtain ⟨th, tg, rfl, hth, htg⟩ := parts2 hpx
                  have hl1 := strX_len hB hth
                  have hl2 := strX_len hB htg
                  have hl3 : ([th, tg] : List (List UInt8)).length = 2 := rfl
                  have hl4 : (([th, tg] : List (List UInt8)).map sV).length = 2 := rfl
                  rw [hpx] at hit
                  rw [allO_step hit] at g4
                  rintro _ _ ⟨r2, c2', rfl, rfl⟩
                  repeat' (first | (apply T.mv; apply rfl; apply rfl) | (apply T.asn; apply rfl; apply rfl) | (apply T.extract; apply rfl; apply rfl; apply rfl) | (apply T.notB; apply rfl; apply rfl) | with_reducible refine Sr.nil ?_ | with_reducible refine S.seq ?_ | with_reducible refine S.reg ?_ | with_reducible refine S.skip ?_ | (apply S.condFV; apply rfl; (first | with_reducible rfl | decide)) | (with_reducible apply T.ofRet) | fail)
                  (apply S.draw; (case Hs => exact .row r2 c2' 9 1 ([th, tg] : List (List UInt8)).length (([th, tg] : List (List UInt8)).map sV) :: .blk nb [sV nPro, sV nSig] 9 :: .row ka kc 3 1 ks.length (ks.map nV) :: H); (case es => exact  [16, 17]); (case n => exact  19); (case hn => rfl))
                  repeat' (first | (apply T.loadE; apply rfl; apply rfl; infer_instance; apply rfl; apply rfl) | (apply T.sadd; apply rfl; apply rfl; (simp only [List.length_append, List.length_cons, List.length_nil]; omega); apply rfl) | (apply T.mv; apply rfl; apply rfl) | (apply T.asn; apply rfl; apply rfl) | (apply T.addI; apply rfl; apply rfl; omega; apply rfl) | (apply T.ixC; apply rfl; infer_instance; omega; (first | omega | (simp only [List.length_map]; omega) | (simp; omega)); apply rfl) | (apply T.ixF; apply rfl; apply rfl; infer_instance; exact (fun _ => rfl); apply rfl; omega; omega; apply rfl) | (apply T.fieldAddrF; apply rfl; infer_instance; exact (fun _ => rfl); apply rfl; omega; apply rfl) | (apply T.loadF; apply rfl; apply rfl; infer_instance; exact (fun _ => rfl); apply rfl; exact getD_some (by omega); apply rfl; apply rfl) | (apply T.bs; apply rfl; apply rfl; apply rfl; apply rfl; apply rfl; apply rfl; intro nb) | (apply T.append; apply rfl; apply rfl; infer_instance; (first | rfl | (simp; done)); (first | rfl | (simp; done)); apply rfl; apply rfl; (constructor <;> omega); apply rfl; intro na nc) | with_reducible refine Sr.nil ?_ | with_reducible refine S.reg ?_ | with_reducible refine S.inBlock ?_ | (apply SA.qn; apply rfl; apply rfl; apply rfl; apply rfl; kernel_rfl) | (apply SA.qz; apply rfl; apply rfl; apply rfl; apply rfl; kernel_rfl) | (apply SA.qsn; apply rfl; apply rfl; apply rfl; kernel_rfl; (first | exact fun _ h => h | exact fun _ h => St.psub h (by ((repeat (first | dsimp only [List.set_cons_zero] | dsimp only [List.set_cons_succ])); repeat' first | exact PSub.refl _ | exact PSub.nil | (apply PSub.take; (repeat' first | (with_reducible exact pick_hd) | (with_reducible apply pick_tl))) | (with_reducible apply PSub.drop) | ((apply PSub.take); (repeat' first | exact pick_hd | (apply pick_tl))))))) | (apply SA.en; apply rfl; apply rfl; kernel_rfl) | (apply SA.done; apply rfl; kernel_rfl) | (apply SK.intro; (first | exact fun _ h => h | exact fun _ h => St.psub h (by ((repeat (first | dsimp only [List.set_cons_zero] | dsimp only [List.set_cons_succ])); repeat' first | exact PSub.refl _ | exact PSub.nil | (apply PSub.take; (repeat' first | (with_reducible exact pick_hd) | (with_reducible apply pick_tl))) | (with_reducible apply PSub.drop) | ((apply PSub.take); (repeat' first | exact pick_hd | (apply pick_tl))))))) | fail)
                  refine S.sublist ?_ (PSub.drop (PSub.drop (PSub.refl _)))
                  exact ih _ _ _ _ ⟨m + 1, m + 1, nc, na, ys ++ [tok3 th (v.getD q default).text tg], by rw [List.map_append]; rfl, rfl, ⟨by omega, rfl, by rw [List.length_append, g3]; rfl, g4⟩, rfl⟩ (by omega) (by repeat' first | exact trivial | refine And.intro rfl ?_)
              · obtain rfl : m = ks.length := by omega
                rw [List.drop_length] at g4
                have g6 : Q = some ys := by rw [← g4]; show some (ys ++ []) = some ys; rw [List.append_nil]
                rw [g6, ← g3]
                repeat' (first | (apply T.mv; apply rfl; apply rfl) | (apply T.asn; apply rfl; apply rfl) | (apply T.lss; apply rfl; apply rfl; apply rfl) | with_reducible refine Sr.nil ?_ | with_reducible refine S.seq ?_ | with_reducible refine S.reg ?_ | (apply S.exit; apply rfl) | (apply S.condQ; apply rfl; all_goals (intro _; try (exfalso; first | omega | with_reducible contradiction))) | (apply T.retW; apply rfl) | fail)
                exact ⟨_, PSub.take pick_hd (PSub.drop (PSub.refl _)), ra, rc, rfl, rfl⟩
        · have c6 : strN (v.getD q default) = none := if_neg (fun h => c4 h.1)
          rw [c6] at hgen
          rw [hgen]
          repeat' (first | (refine T.ixF (g := ndV) (sz := 6) (i := 0) (xs := v) rfl rfl inferInstance (fun _ => rfl) rfl (by omega) (by omega) rfl ?_) | (apply T.mv; apply rfl; apply rfl) | (apply T.asn; apply rfl; apply rfl) | (apply T.lss; apply rfl; apply rfl; apply rfl) | (apply T.neq; apply rfl; apply rfl; apply rfl) | (apply T.ixF; apply rfl; apply rfl; infer_instance; exact (fun _ => rfl); apply rfl; omega; omega; apply rfl) | (apply T.fieldAddrF; apply rfl; infer_instance; exact (fun _ => rfl); apply rfl; omega; apply rfl) | (apply T.loadF; apply rfl; apply rfl; infer_instance; exact (fun _ => rfl); apply rfl; exact getD_some (by omega); apply rfl; apply rfl) | (apply T.pickT; apply rfl; apply rfl; apply rfl) | (apply T.pickF; apply rfl; apply rfl; apply rfl) | with_reducible refine Sr.nil ?_ | with_reducible refine S.seq ?_ | with_reducible refine S.reg ?_ | (apply T.ungV; apply rfl; (first | with_reducible rfl | decide)) | (apply T.skip; apply rfl; (first | with_reducible rfl | decide); apply rfl) | (apply S.condTV; apply rfl; (first | with_reducible rfl | decide)) | (apply T.gcase; apply rfl; apply rfl; all_goals (intro _; try (exfalso; first | omega | with_reducible contradiction))) | (apply T.retW; apply rfl) | (with_reducible apply T.ofRet) | fail)
          exact ⟨_, PSub.refl _, rfl, rfl⟩
  · rw [if_pos (.inl c1)] at hgen
    rw [hgen]
    repeat' (first | (refine T.ixF (g := ndV) (sz := 6) (i := 0) (xs := v) rfl rfl inferInstance (fun _ => rfl) rfl (by omega) (by omega) rfl ?_) | (apply T.mv; apply rfl; apply rfl) | (apply T.asn; apply rfl; apply rfl) | (apply T.neq; apply rfl; apply rfl; apply rfl) | (apply T.fieldAddrF; apply rfl; infer_instance; exact (fun _ => rfl); apply rfl; omega; apply rfl) | (apply T.loadF; apply rfl; apply rfl; infer_instance; exact (fun _ => rfl); apply rfl; exact getD_some (by omega); apply rfl; apply rfl) | (apply T.pickT; apply rfl; apply rfl; apply rfl) | with_reducible refine Sr.nil ?_ | with_reducible refine S.seq ?_ | with_reducible refine S.reg ?_ | (apply T.skip; apply rfl; (first | with_reducible rfl | decide); apply rfl) | (apply S.condTV; apply rfl; (first | with_reducible rfl | decide)) | (apply T.gcase; apply rfl; apply rfl; all_goals (intro _; try (exfalso; first | omega | with_reducible contradiction))) | (apply T.retW; apply rfl) | (with_reducible apply T.ofRet) | fail)
    exact ⟨_, PSub.refl _, rfl, rfl⟩
/-- What a text's tokens answer. -/
def TkE (H : List Res) (r : List (List UInt8) × Int) : Ending → List Res → Prop := fun e H' => ∃ ra rc, e = .returned (.tuple ⟨[.slice ra r.1.length rc, .int .i64 r.2]⟩) ∧ H' = .row ra rc 9 1 r.1.length (r.1.map sV) :: H
theorem join3_spec {ra : Option Addr} {rc : Nat} {a b c : List UInt8} (h1 : a.length ≤ 2000000) (h2 : b.length ≤ 2000000) (h3 : c.length ≤ 2000000) :
    Meets Tryz.prog 36 [.slice ra 3 rc, sV [46]] F M (.row ra rc 9 1 3 (([a, b, c] : List (List UInt8)).map sV) :: H) (fun e H' => e = .returned (sV (tok3 a b c)) ∧ H' = .row ra rc 9 1 3 (([a, b, c] : List (List UInt8)).map sV) :: H) := fun w hw => by
  have hr : w.ownsRow 0 9 1 (.slice ra 3 rc) 3 (([a, b, c] : List (List UInt8)).map sV) := hw.res _ (List.mem_cons_self ..)
  rcases hr.2 with ⟨hv, h0⟩ | ⟨g, cap, cur, hv, _, hh, hle, _⟩
  · cases h0
  · simp only [Value.slice.injEq, true_and] at hv
    obtain ⟨rfl, rfl⟩ := hv
    have hcells := hr.cells (g := g) rfl
    have hlt : g < w.heap.size := (World.ownsRow.lt hr g rfl).2
    have hj : Lib.join [a, b, c] [46] = tok3 a b c := by simp [Lib.join, List.intercalate, tok3]
    have hx : ([ByteArray.mk a.toArray, ByteArray.mk b.toArray, ByteArray.mk c.toArray].map (·.data.toList)) = [a, b, c] := rfl
    have := Tryz.strings_Join g 0 rc [ByteArray.mk a.toArray, ByteArray.mk b.toArray, ByteArray.mk c.toArray] (ByteArray.mk #[46]) w (fun j x hx => by
      have h5 := hcells j (.string x) (by
        match j, hx with
        | 0, hx => cases hx; rfl
        | 1, hx => cases hx; rfl
        | 2, hx => cases hx; rfl)
      simpa [addr_add] using h5) hlt (show 3 ≤ 140737488355328 by decide) hle (by rw [hx]; show (Lib.join [a, b, c] [46]).length ≤ _; rw [hj]; simp only [tok3, List.length_append, List.length_cons, List.length_nil]; omega)
    refine Calls.mono this fun e w' ⟨h4, h5⟩ => ⟨_, ⟨?_, rfl⟩, hw.below h5⟩
    rw [h4, hx]
    show Ending.returned (.string ⟨(Lib.join [a, b, c] [46]).toArray⟩) = _
    rw [hj]
theorem tokens_spec {t : List UInt8} (hT : Tabs F M) (h63 : t.length ≤ maxLen) : Meets Tryz.prog 10 [sV t] F M H (TkE H (tokX t)) := by
  refine Meets.enter Tryz.func10 rfl rfl ?_
  unfold tokX
  refine S.nilrow 9 1 ?_
  repeat' (first | (apply T.mv; apply rfl; apply rfl) | (apply T.asn; apply rfl; apply rfl) | with_reducible refine Sr.nil ?_ | with_reducible refine S.seq ?_ | with_reducible refine S.reg ?_ | fail)
  refine T.call rfl rfl (parse_spec hT h63) ?_
  cases hp : parseX wholeX t with
  | bad c b =>
    have hc : c ≠ 0 := parse_code hp
    rintro _ _ ⟨rfl, rfl⟩
    repeat' (first | (apply T.mv; apply rfl; apply rfl) | (apply T.asn; apply rfl; apply rfl) | (apply T.neq; apply rfl; apply rfl; apply rfl) | (apply T.extract; apply rfl; apply rfl; apply rfl) | with_reducible refine Sr.nil ?_ | with_reducible refine S.seq ?_ | with_reducible refine S.reg ?_ | (apply S.condQ; apply rfl; all_goals (intro _; try (exfalso; first | omega | with_reducible contradiction))) | (apply T.retW; apply rfl) | (with_reducible apply T.ofRet) | fail)
    exact ⟨_, PSub.refl _, none, 0, rfl, rfl⟩
  | ok a v =>
    have ha := IsAt.of_fo (parse_fo hp)
    obtain ⟨hs1, hs2, hs3⟩ := parse_sz hp
    have hlt := ha.lt
    have hB : ∀ x ∈ v, x.text.length ≤ 2000000 := fun x hx => by have := (hs2 x hx).text; omega
    rintro _ _ ⟨oa, oc, rfl, rfl⟩
    simp only
    rw [← tokG_eq ha]
    unfold tokG
    rw [nodeAt_getD hlt]
    by_cases c1 : (v.getD 0 default).kind = 7
    · rw [if_neg (fun h => h c1)]
      repeat' (first | (refine T.ixF (g := ndV) (sz := 6) (i := 0) (xs := v) rfl rfl inferInstance (fun _ => rfl) rfl (by omega) (by omega) rfl ?_) | (apply T.mv; apply rfl; apply rfl) | (apply T.asn; apply rfl; apply rfl) | (apply T.neq; apply rfl; apply rfl; apply rfl) | (apply T.extract; apply rfl; apply rfl; apply rfl) | (apply T.fieldAddrF; apply rfl; infer_instance; exact (fun _ => rfl); apply rfl; omega; apply rfl) | (apply T.loadF; apply rfl; apply rfl; infer_instance; exact (fun _ => rfl); apply rfl; exact getD_some (by omega); apply rfl; apply rfl) | (apply T.bs; apply rfl; apply rfl; apply rfl; apply rfl; apply rfl; apply rfl; intro nb) | with_reducible refine Sr.nil ?_ | with_reducible refine S.seq ?_ | with_reducible refine S.reg ?_ | with_reducible refine S.skip ?_ | (apply S.condFV; apply rfl; (first | with_reducible rfl | decide)) | (apply S.condQ; apply rfl; all_goals (intro _; try (exfalso; first | omega | with_reducible contradiction))) | (with_reducible apply T.ofRet) | fail)
      have hpr : ∀ {X : List Res} [Rd F M X oa (v.flatMap ndV)] {b : Nat}, Meets Tryz.prog 35 [.slice oa v.length oc, .int .i64 0, .slice (some ⟨b, 0, none⟩) 3 3] F M (.blk b [sV nPro, sV nPay, sV nSig] 9 :: X) (TxO (.blk b [sV nPro, sV nPay, sV nSig] 9 :: X) (partsX v 0 [nPro, nPay, nSig])) := by
        intro X _ b
        exact parts_spec (p := 0) (ns := [nPro, nPay, nSig]) (hRn := Rd.blk0) rfl (by omega) ha rfl (by decide)
      refine T.call rfl rfl hpr ?_
      cases hpx : partsX v 0 [nPro, nPay, nSig] with
      | some l =>
        obtain ⟨x1, x2, x3, rfl, k1, k2, k3⟩ := parts3 hpx
        have hl1 := strX_len hB k1
        have hl2 := strX_len hB k2
        have hl3 := strX_len hB k3
        rintro _ _ ⟨r2, c2, rfl, rfl⟩
        simp only
        repeat' (first | (apply T.mv; apply rfl; apply rfl) | (apply T.asn; apply rfl; apply rfl) | (apply T.extract; apply rfl; apply rfl; apply rfl) | with_reducible refine Sr.nil ?_ | with_reducible refine S.seq ?_ | with_reducible refine S.reg ?_ | (apply S.condTV; apply rfl; (first | with_reducible rfl | decide)) | (with_reducible apply T.ofRet) | fail)
        refine T.call rfl rfl (join3_spec hl1 hl2 hl3) ?_
        rintro _ _ ⟨rfl, rfl⟩
        repeat' (first | (refine Sr.rowOf (n := 1) rfl (by decide) ?_) | (apply T.asn; apply rfl; apply rfl) | (apply T.bs; apply rfl; apply rfl; apply rfl; apply rfl; apply rfl; apply rfl; intro nb) | with_reducible refine Sr.nil ?_ | (apply T.retW; apply rfl) | (with_reducible apply T.ofRet) | fail)
        exact ⟨_, PSub.take pick_hd (PSub.drop (PSub.drop (PSub.drop (PSub.drop (PSub.refl _))))), _, _, rfl, rfl⟩
      | none =>
        rintro _ _ ⟨rfl, rfl⟩
        simp only
        repeat' (first | (apply T.mv; apply rfl; apply rfl) | (apply T.asn; apply rfl; apply rfl) | (apply T.extract; apply rfl; apply rfl; apply rfl) | with_reducible refine Sr.nil ?_ | with_reducible refine S.seq ?_ | with_reducible refine S.reg ?_ | with_reducible refine S.skip ?_ | (apply S.condFV; apply rfl; (first | with_reducible rfl | decide)) | (with_reducible apply T.ofRet) | fail)
        refine T.call rfl rfl (general_spec rfl (by omega) ha hB) ?_
        cases hg : genX v with
        | none =>
          rintro _ _ ⟨rfl, rfl⟩
          repeat' (first | (apply T.mv; apply rfl; apply rfl) | (apply T.asn; apply rfl; apply rfl) | (apply T.extract; apply rfl; apply rfl; apply rfl) | with_reducible refine Sr.nil ?_ | with_reducible refine S.seq ?_ | with_reducible refine S.reg ?_ | with_reducible refine S.skip ?_ | (apply S.condFV; apply rfl; (first | with_reducible rfl | decide)) | (apply T.retW; apply rfl) | (with_reducible apply T.ofRet) | fail)
          exact ⟨_, PSub.drop (PSub.drop (PSub.refl _)), none, 0, rfl, rfl⟩
        | some l =>
          rintro _ _ ⟨ra, rc, rfl, rfl⟩
          repeat' (first | (apply T.mv; apply rfl; apply rfl) | (apply T.asn; apply rfl; apply rfl) | (apply T.extract; apply rfl; apply rfl; apply rfl) | with_reducible refine Sr.nil ?_ | with_reducible refine S.seq ?_ | with_reducible refine S.reg ?_ | (apply S.condTV; apply rfl; (first | with_reducible rfl | decide)) | (apply T.retW; apply rfl) | (with_reducible apply T.ofRet) | fail)
          exact ⟨_, PSub.take pick_hd (PSub.drop (PSub.drop (PSub.drop (PSub.refl _)))), ra, rc, rfl, rfl⟩
    · rw [if_pos c1]
      repeat' (first | (refine T.ixF (g := ndV) (sz := 6) (i := 0) (xs := v) rfl rfl inferInstance (fun _ => rfl) rfl (by omega) (by omega) rfl ?_) | (apply T.mv; apply rfl; apply rfl) | (apply T.asn; apply rfl; apply rfl) | (apply T.neq; apply rfl; apply rfl; apply rfl) | (apply T.extract; apply rfl; apply rfl; apply rfl) | (apply T.fieldAddrF; apply rfl; infer_instance; exact (fun _ => rfl); apply rfl; omega; apply rfl) | (apply T.loadF; apply rfl; apply rfl; infer_instance; exact (fun _ => rfl); apply rfl; exact getD_some (by omega); apply rfl; apply rfl) | with_reducible refine Sr.nil ?_ | with_reducible refine S.seq ?_ | with_reducible refine S.reg ?_ | with_reducible refine S.skip ?_ | (apply S.condFV; apply rfl; (first | with_reducible rfl | decide)) | (apply S.condQ; apply rfl; all_goals (intro _; try (exfalso; first | omega | with_reducible contradiction))) | (apply T.retW; apply rfl) | (with_reducible apply T.ofRet) | fail)
      exact ⟨_, PSub.drop (PSub.refl _), none, 0, rfl, rfl⟩
end
end Go.Proofs.YtddbdgmaaogclaaGreatDoor
