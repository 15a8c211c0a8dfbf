/- Texts put together by a program: RefQ RefT NodD RefR. -/
import Derived.Test.YtnimcchalinihaaDoorMf
import Derived.Test.YtnimcchalinihaaDoorMb
import Derived.Test.YtnimcchalinihaaDoorMc
/- The walks of the document's look at a value: is it well shaped. -/
namespace Sg
/-- One value by going down, its name not yet looked up. -/
def take1 (ok : List UInt8 → Bool) (f d : Nat) (obj : Bool) (l : List Nd) : Option (List Nd) := match l with
  | [] => none
  | n :: r => if plainX ok n = false ∨ ok n.key = false ∨ (obj = false ∧ n.key ≠ []) ∨ (isRow n ∧ d = 0) then none else takeK ok f (d - 1) (if n.kind = 7 then some [] else none) n.kids.toNat r
theorem takeK_one {ok : List UInt8 → Bool} {f d k : Nat} {nm : Option (List (List UInt8))} {l : List Nd} : takeK ok (f + 1) d nm (k + 1) l = match take1 ok f d nm.isSome l with
    | none => none
    | some r' => if hasN nm (headN l).key = true then none else takeK ok f d (nm.map ((headN l).key :: ·)) k r' := by
  cases l with
  | nil => rfl
  | cons n r =>
    rw [takeK, take1]
    try simp only
    have h : (nm.isSome = false ∧ n.key ≠ []) ↔ (nm = none ∧ n.key ≠ []) := by cases nm <;> simp
    have e : (plainX ok n = false ∨ ok n.key = false ∨ (nm.isSome = false ∧ n.key ≠ []) ∨ (isRow n ∧ d = 0)) ↔ (plainX ok n = false ∨ ok n.key = false ∨ (nm = none ∧ n.key ≠ []) ∨ (isRow n ∧ d = 0)) := by rw [h]
    by_cases hc : plainX ok n = false ∨ ok n.key = false ∨ (nm = none ∧ n.key ≠ []) ∨ (isRow n ∧ d = 0)
    · rw [if_pos hc, if_pos (e.2 hc)]
    · rw [if_neg hc, if_neg (fun h => hc (e.1 h))]
      rfl
theorem take1_len {ok : List UInt8 → Bool} {f d : Nat} {obj : Bool} {l r : List Nd} (h : take1 ok f d obj l = some r) : r.length < l.length := by
  cases l with
  | nil => cases h
  | cons n t =>
    rw [take1] at h
    try simp only at h
    split at h
    · cases h
    · have := takeK_len h
      simp only [List.length_cons]
      omega
theorem take1_drop {ok : List UInt8 → Bool} {f d q : Nat} {obj : Bool} {v r : List Nd} (h : take1 ok f d obj (v.drop q) = some r) : v.drop (v.length - r.length) = r := by
  have h1 : ∃ a, v.drop q = a ++ r := by
    cases hv : v.drop q with
    | nil => rw [hv] at h; cases h
    | cons n t =>
      rw [hv, take1] at h
      try simp only at h
      split at h
      · cases h
      · obtain ⟨a, h2, -⟩ := takeK_fo h
        exact ⟨n :: a, by rw [h2]; rfl⟩
  obtain ⟨a, h1⟩ := h1
  have h2 : v = (v.take q ++ a) ++ r := by rw [List.append_assoc, ← h1, List.take_append_drop]
  have h3 : v.length - r.length = (v.take q ++ a).length := by
    have := congrArg List.length h2
    rw [List.length_append] at this
    omega
  have h4 := List.drop_left (l₁ := v.take q ++ a) (l₂ := r)
  rw [← h2] at h4
  rw [h3, h4]
theorem shapedX_take1 (ok : List UInt8 → Bool) (v : List Nd) : shapedX ok v = (match take1 ok v.length 32 false v with
    | some [] => true
    | _ => false) := by
  rw [shapedX_take, takeK_one]
  cases h : take1 ok v.length 32 (none : Option (List (List UInt8))).isSome v with
  | none => rw [show take1 ok v.length 32 false v = none from h]
  | some r =>
    rw [show take1 ok v.length 32 false v = some r from h]
    dsimp only
    rw [if_neg (show ¬ hasN none (headN v).key = true by simp [hasN]), takeK_zero]
    cases r <;> rfl
theorem hasN_if {c : Prop} [Decidable c] {x : List UInt8} {ns : List (List UInt8)} : hasN (if c then some ns.reverse else none) x = true ↔ (c ∧ x ∈ ns) := by by_cases h : c <;> simp [hasN, h]
theorem isS_if {c : Prop} [Decidable c] {ns : List (List UInt8)} : (if c then some ns else none).isSome = decide c := by by_cases h : c <;> simp [h]
theorem map_if {c : Prop} [Decidable c] {x : List UInt8} {ns : List (List UInt8)} : (if c then some ns.reverse else none).map (x :: ·) = (if c then some (ns ++ [x]).reverse else none) := by by_cases h : c <;> simp [h]
end Sg
namespace Go.Proofs.YtnimcchalinihaaDoor
open Sg Go.IntWalk
set_option maxRecDepth 100000
set_option maxHeartbeats 4000000
section
variable {F : World} {M : List Nat} {H : List Res} {v : List Nd} {oa : Option Addr} {oc n : Nat}
theorem sub_app {A H : List Res} : PSub H (A ++ H) := ⟨A, List.perm_append_comm⟩
theorem among_spec {xa : Option Addr} {xc m : Nat} {xs : List (List UInt8)} {s : List UInt8} [Rd F M H xa (xs.map sV)] (hm : xs.length = m) (hl : m ≤ 140737488355328) :
    Meets Tryd.prog 58 [.slice xa m xc, sV s] F M H (fun e H' => e = .returned (.bool (decide (s ∈ xs))) ∧ H' = H) := by
  subst hm
  refine Meets.enter Tryd.func58 rfl rfl ?_
  generalize hQ : decide (s ∈ xs) = Q
  repeat' (first | (apply T.asn; apply rfl; apply rfl) | with_reducible refine Sr.nil ?_ | with_reducible refine S.seq ?_ | with_reducible refine S.block ?_ | with_reducible refine S.reg ?_ | fail)
  refine S.loopE 0 [0, 1] (fun R b' μ H' e => ∃ i : Nat, H' = R ∧ e = (5, .int .i64 i) :: b' ∧ (i ≤ xs.length ∧ decide (s ∈ xs.drop i) = Q) ∧ μ = xs.length - i) rfl rfl ?_ _ _ ⟨0, rfl, rfl, ⟨Nat.zero_le _, hQ⟩, rfl⟩ (by repeat' first | exact trivial | refine And.intro rfl ?_)
  rintro _ _ _ ⟨i, hR1, rfl, ⟨h1, h2⟩, rfl⟩ ih
  subst hR1
  by_cases h3 : i < xs.length
  · have h4 : xs.drop i = xs.getD i [] :: xs.drop (i + 1) := by
      rw [List.drop_eq_getElem_cons h3]
      simp [List.getD, h3]
    rw [h4] at h2
    by_cases h5 : xs.getD i [] = s
    · have h6 : Q = true := by rw [← h2, h5]; simp
      subst h6
      repeat' (first | (apply T.seql; apply rfl; apply rfl; apply rfl) | (apply T.loadS; apply rfl; infer_instance; (first | omega | (simp only [List.length_map]; omega)); apply rfl) | (apply T.mv; apply rfl; apply rfl) | (apply T.asn; apply rfl; apply rfl) | (apply T.len; apply rfl; apply rfl) | (apply T.lss; apply rfl; apply rfl; apply rfl) | (apply T.ixN; apply rfl; apply rfl; infer_instance; omega; (first | omega | (simp only [List.length_map]; omega) | (simp; omega)); apply rfl) | with_reducible refine Sr.nil ?_ | with_reducible refine S.seq ?_ | with_reducible refine S.block ?_ | with_reducible refine S.reg ?_ | with_reducible refine S.skip ?_ | (apply S.condQ; apply rfl; all_goals (intro _; try (exfalso; first | omega | with_reducible contradiction))) | (apply T.retW; apply rfl) | fail)
      exact ⟨_, PSub.refl _, rfl, rfl⟩
    · have h6 : decide (s ∈ xs.drop (i + 1)) = Q := by
        rw [← h2]
        have : ¬ s = xs.getD i [] := fun h => h5 h.symm
        exact decide_eq_decide.2 (by rw [List.mem_cons]; exact ⟨fun h => .inr h, fun h => h.resolve_left this⟩)
      repeat' (first | (apply T.seql; apply rfl; apply rfl; apply rfl) | (apply T.loadS; apply rfl; infer_instance; (first | omega | (simp only [List.length_map]; omega)); apply rfl) | (apply T.mv; apply rfl; apply rfl) | (apply T.asn; apply rfl; apply rfl) | (apply T.len; apply rfl; apply rfl) | (apply T.lss; apply rfl; apply rfl; apply rfl) | (apply T.addI; apply rfl; apply rfl; omega; apply rfl) | (apply T.ixN; apply rfl; apply rfl; infer_instance; omega; (first | omega | (simp only [List.length_map]; omega) | (simp; omega)); apply rfl) | with_reducible refine Sr.nil ?_ | with_reducible refine S.seq ?_ | with_reducible refine S.block ?_ | with_reducible refine S.reg ?_ | with_reducible refine S.skip ?_ | with_reducible refine S.inBlock ?_ | (apply S.condQ; apply rfl; all_goals (intro _; try (exfalso; first | omega | with_reducible contradiction))) | fail)
      exact ih _ _ _ _ ⟨i + 1, rfl, rfl, ⟨h3, h6⟩, rfl⟩ (by omega) (by repeat' first | exact trivial | refine And.intro rfl ?_)
  · obtain rfl : i = xs.length := by omega
    have h6 : Q = false := by rw [← h2, List.drop_length]; simp
    subst h6
    repeat' (first | (apply T.mv; apply rfl; apply rfl) | (apply T.asn; apply rfl; apply rfl) | (apply T.len; apply rfl; apply rfl) | (apply T.lss; apply rfl; apply rfl; apply rfl) | with_reducible refine Sr.nil ?_ | with_reducible refine S.seq ?_ | with_reducible refine S.reg ?_ | (apply S.exit; apply rfl) | (apply S.condQ; apply rfl; all_goals (intro _; try (exfalso; first | omega | with_reducible contradiction))) | (apply T.retW; apply rfl) | fail)
    exact ⟨_, PSub.refl _, rfl, rfl⟩
/-- What take answers: a place, -1: it is none. -/
def tkI (v : List Nd) (r : Option (List Nd)) : Int := match r with
  | none => -1
  | some r => ((v.length - r.length : Nat) : Int)
theorem refTake_spec : ∀ (N f : Nat) {p d : Nat} {obj : Bool} {H : List Res} [Rd F M H oa (v.flatMap ndV)], f ≤ N → v.length = n → n ≤ 1000000 → (∀ x ∈ v, x.text.length ≤ 1100000 ∧ x.key.length ≤ 1100000) → p ≤ v.length → v.length - p ≤ f → d ≤ 32 →
    Meets Tryd.prog 39 [.slice oa n oc, .int .i64 p, .bool obj, .int .i64 ((32 - d : Nat) : Int)] F M H (fun e H' => e = .returned (.int .i64 (tkI v (take1 Lib.validD f d obj (v.drop p)))) ∧ H' = H) := by
  intro N
  induction N with
  | zero =>
    intro f p d obj H _ hN hn hl htx hp hf hd
    subst hn
    refine Meets.enter Tryd.func39 rfl rfl ?_
    have h0 : p = v.length := by omega
    subst h0
    rw [List.drop_length, show tkI v (take1 Lib.validD f d obj []) = -1 from rfl]
    repeat' (first | (apply T.mv; apply rfl; apply rfl) | (apply T.asn; apply rfl; apply rfl) | (apply T.len; apply rfl; apply rfl) | (apply T.geq; apply rfl; apply rfl; apply rfl) | with_reducible refine Sr.nil ?_ | with_reducible refine S.seq ?_ | with_reducible refine S.reg ?_ | (apply S.condQ; apply rfl; all_goals (intro _; try (exfalso; first | omega | with_reducible contradiction))) | (apply T.retW; apply rfl) | fail)
    exact ⟨_, PSub.refl _, rfl, rfl⟩
  | succ N IH =>
    intro f p d obj H _ hN hn hl htx hp hf hd
    subst hn
    by_cases h0 : p = v.length
    · subst h0
      refine Meets.enter Tryd.func39 rfl rfl ?_
      rw [List.drop_length, show tkI v (take1 Lib.validD f d obj []) = -1 from rfl]
      repeat' (first | (apply T.mv; apply rfl; apply rfl) | (apply T.asn; apply rfl; apply rfl) | (apply T.len; apply rfl; apply rfl) | (apply T.geq; apply rfl; apply rfl; apply rfl) | with_reducible refine Sr.nil ?_ | with_reducible refine S.seq ?_ | with_reducible refine S.reg ?_ | (apply S.condQ; apply rfl; all_goals (intro _; try (exfalso; first | omega | with_reducible contradiction))) | (apply T.retW; apply rfl) | fail)
      exact ⟨_, PSub.refl _, rfl, rfl⟩
    have h1 : p < v.length := by omega
    have e1 : v.drop p = v.getD p default :: v.drop (p + 1) := by
      rw [List.drop_eq_getElem_cons h1, List.getD_eq_getElem?_getD, List.getElem?_eq_getElem h1, Option.getD_some]
    obtain ⟨x1, x2⟩ := htx (v.getD p default) (by rw [List.getD_eq_getElem?_getD, List.getElem?_eq_getElem h1, Option.getD_some]; exact List.getElem_mem h1)
    rw [e1, take1]
    try simp only
    refine Meets.enter Tryd.func39 rfl rfl ?_
    cases hp1 : plainX Lib.validD (v.getD p default) with
    | false =>
      rw [if_pos (.inl rfl), show tkI v none = -1 from rfl]
      repeat' (first | (apply T.mv; apply rfl; apply rfl) | (apply T.asn; apply rfl; apply rfl) | (apply T.len; apply rfl; apply rfl) | (apply T.geq; apply rfl; apply rfl; apply rfl) | (apply T.ixF; apply rfl; apply rfl; infer_instance; exact (fun _ => rfl); apply rfl; omega; omega; apply rfl) | (apply T.loadFN; apply rfl; apply rfl; infer_instance; exact (fun _ => rfl); apply rfl; exact getD_some (by omega); apply rfl) | (apply T.loadW; apply rfl; apply rfl; infer_instance; (first | rfl | (simp only [List.length_append, List.length_map, List.length_set, List.length_replicate, List.length_cons, List.length_nil]; first | done | omega)); apply rfl) | (apply T.storeW; apply rfl; apply rfl; infer_instance; (first | rfl | (simp only [List.length_append, List.length_map, List.length_set, List.length_replicate, List.length_cons, List.length_nil]; first | done | omega)); (first | rfl | (simp only [List.length_append, List.length_map, List.length_set, List.length_replicate, List.length_cons, List.length_nil]; first | done | omega)); (first | rfl | (repeat' first | apply all_nV | apply all_bV | apply all_iV | rfl | apply all_app))) | (apply T.alloc; apply rfl; intro nb) | with_reducible refine Sr.nil ?_ | with_reducible refine S.seq ?_ | with_reducible refine S.reg ?_ | with_reducible refine S.skip ?_ | (apply S.condQ; apply rfl; all_goals (intro _; try (exfalso; first | omega | with_reducible contradiction))) | fail)
      refine T.call rfl rfl (refPlain_spec x1) ?_
      rintro _ _ ⟨rfl, rfl⟩
      rw [hp1]
      repeat' (first | (apply T.asn; apply rfl; apply rfl) | (apply T.fieldAddrZ; apply rfl; apply rfl) | (apply T.load; apply rfl; apply rfl; infer_instance; apply rfl; apply rfl) | with_reducible refine Sr.nil ?_ | with_reducible refine S.seq ?_ | with_reducible refine S.reg ?_ | (with_reducible apply T.ofRet) | fail)
      refine T.call rfl rfl (refUtf_spec (by omega)) ?_
      rintro _ _ ⟨rfl, rfl⟩
      repeat' (first | (apply T.mv; apply rfl; apply rfl) | (apply T.asn; apply rfl; apply rfl) | (apply T.notB; apply rfl; apply rfl) | (apply T.pickT; apply rfl; apply rfl; apply rfl) | with_reducible refine Sr.nil ?_ | with_reducible refine S.seq ?_ | with_reducible refine S.reg ?_ | (apply T.skip; apply rfl; (first | with_reducible rfl | decide); apply rfl) | (apply T.skipU; apply rfl; apply rfl) | (apply S.condTV; apply rfl; (first | with_reducible rfl | decide)) | (apply T.retW; apply rfl) | (with_reducible apply T.ofRet) | fail)
      exact ⟨_, PSub.drop (PSub.refl _), rfl, rfl⟩
    | true =>
    cases hv1 : Lib.validD (v.getD p default).key with
    | false =>
      rw [if_pos (.inr (.inl rfl)), show tkI v none = -1 from rfl]
      repeat' (first | (apply T.mv; apply rfl; apply rfl) | (apply T.asn; apply rfl; apply rfl) | (apply T.len; apply rfl; apply rfl) | (apply T.geq; apply rfl; apply rfl; apply rfl) | (apply T.ixF; apply rfl; apply rfl; infer_instance; exact (fun _ => rfl); apply rfl; omega; omega; apply rfl) | (apply T.loadFN; apply rfl; apply rfl; infer_instance; exact (fun _ => rfl); apply rfl; exact getD_some (by omega); apply rfl) | (apply T.loadW; apply rfl; apply rfl; infer_instance; (first | rfl | (simp only [List.length_append, List.length_map, List.length_set, List.length_replicate, List.length_cons, List.length_nil]; first | done | omega)); apply rfl) | (apply T.storeW; apply rfl; apply rfl; infer_instance; (first | rfl | (simp only [List.length_append, List.length_map, List.length_set, List.length_replicate, List.length_cons, List.length_nil]; first | done | omega)); (first | rfl | (simp only [List.length_append, List.length_map, List.length_set, List.length_replicate, List.length_cons, List.length_nil]; first | done | omega)); (first | rfl | (repeat' first | apply all_nV | apply all_bV | apply all_iV | rfl | apply all_app))) | (apply T.alloc; apply rfl; intro nb) | with_reducible refine Sr.nil ?_ | with_reducible refine S.seq ?_ | with_reducible refine S.reg ?_ | with_reducible refine S.skip ?_ | (apply S.condQ; apply rfl; all_goals (intro _; try (exfalso; first | omega | with_reducible contradiction))) | fail)
      refine T.call rfl rfl (refPlain_spec x1) ?_
      rintro _ _ ⟨rfl, rfl⟩
      rw [hp1]
      repeat' (first | (apply T.asn; apply rfl; apply rfl) | (apply T.fieldAddrZ; apply rfl; apply rfl) | (apply T.load; apply rfl; apply rfl; infer_instance; apply rfl; apply rfl) | with_reducible refine Sr.nil ?_ | with_reducible refine S.seq ?_ | with_reducible refine S.reg ?_ | (with_reducible apply T.ofRet) | fail)
      refine T.call rfl rfl (refUtf_spec (by omega)) ?_
      rintro _ _ ⟨rfl, rfl⟩
      rw [hv1]
      repeat' (first | (apply T.mv; apply rfl; apply rfl) | (apply T.asn; apply rfl; apply rfl) | (apply T.notB; apply rfl; apply rfl) | (apply T.pickT; apply rfl; apply rfl; apply rfl) | (apply T.pickF; apply rfl; apply rfl; apply rfl) | with_reducible refine Sr.nil ?_ | with_reducible refine S.seq ?_ | with_reducible refine S.reg ?_ | (apply T.ungV; apply rfl; (first | with_reducible rfl | decide)) | (apply T.skip; apply rfl; (first | with_reducible rfl | decide); apply rfl) | (apply T.skipU; apply rfl; apply rfl) | (apply S.condTV; apply rfl; (first | with_reducible rfl | decide)) | (apply T.retW; apply rfl) | (with_reducible apply T.ofRet) | fail)
      exact ⟨_, PSub.drop (PSub.refl _), rfl, rfl⟩
    | true =>
    obtain ⟨⟨hk1, hk2, hk3⟩, hk0⟩ := plain_ok hp1
    by_cases ho : obj = false ∧ (v.getD p default).key ≠ []
    · rw [if_pos (.inr (.inr (.inl ho))), show tkI v none = -1 from rfl]
      obtain ⟨rfl, ho2⟩ := ho
      repeat' (first | (apply T.mv; apply rfl; apply rfl) | (apply T.asn; apply rfl; apply rfl) | (apply T.len; apply rfl; apply rfl) | (apply T.geq; apply rfl; apply rfl; apply rfl) | (apply T.ixF; apply rfl; apply rfl; infer_instance; exact (fun _ => rfl); apply rfl; omega; omega; apply rfl) | (apply T.loadFN; apply rfl; apply rfl; infer_instance; exact (fun _ => rfl); apply rfl; exact getD_some (by omega); apply rfl) | (apply T.loadW; apply rfl; apply rfl; infer_instance; (first | rfl | (simp only [List.length_append, List.length_map, List.length_set, List.length_replicate, List.length_cons, List.length_nil]; first | done | omega)); apply rfl) | (apply T.storeW; apply rfl; apply rfl; infer_instance; (first | rfl | (simp only [List.length_append, List.length_map, List.length_set, List.length_replicate, List.length_cons, List.length_nil]; first | done | omega)); (first | rfl | (simp only [List.length_append, List.length_map, List.length_set, List.length_replicate, List.length_cons, List.length_nil]; first | done | omega)); (first | rfl | (repeat' first | apply all_nV | apply all_bV | apply all_iV | rfl | apply all_app))) | (apply T.alloc; apply rfl; intro nb) | with_reducible refine Sr.nil ?_ | with_reducible refine S.seq ?_ | with_reducible refine S.reg ?_ | with_reducible refine S.skip ?_ | (apply S.condQ; apply rfl; all_goals (intro _; try (exfalso; first | omega | with_reducible contradiction))) | fail)
      refine T.call rfl rfl (refPlain_spec x1) ?_
      rintro _ _ ⟨rfl, rfl⟩
      rw [hp1]
      repeat' (first | (apply T.asn; apply rfl; apply rfl) | (apply T.fieldAddrZ; apply rfl; apply rfl) | (apply T.load; apply rfl; apply rfl; infer_instance; apply rfl; apply rfl) | with_reducible refine Sr.nil ?_ | with_reducible refine S.seq ?_ | with_reducible refine S.reg ?_ | (with_reducible apply T.ofRet) | fail)
      refine T.call rfl rfl (refUtf_spec (by omega)) ?_
      rintro _ _ ⟨rfl, rfl⟩
      rw [hv1]
      repeat' (first | (apply T.sneq; apply rfl; apply rfl; apply rfl) | (apply T.mv; apply rfl; apply rfl) | (apply T.asn; apply rfl; apply rfl) | (apply T.fieldAddrZ; apply rfl; apply rfl) | (apply T.load; apply rfl; apply rfl; infer_instance; apply rfl; apply rfl) | (apply T.notB; apply rfl; apply rfl) | (apply T.pickT; apply rfl; apply rfl; apply rfl) | (apply T.pickF; apply rfl; apply rfl; apply rfl) | with_reducible refine Sr.nil ?_ | with_reducible refine S.seq ?_ | with_reducible refine S.reg ?_ | (apply T.ungV; apply rfl; (first | with_reducible rfl | decide)) | (apply T.skip; apply rfl; (first | with_reducible rfl | decide); apply rfl) | (apply T.skipU; apply rfl; apply rfl) | (apply S.condTV; apply rfl; (first | with_reducible rfl | decide)) | (apply T.gcase; apply rfl; apply rfl; all_goals (intro _; try (exfalso; first | omega | with_reducible contradiction))) | (apply T.retW; apply rfl) | (with_reducible apply T.ofRet) | fail)
      exact ⟨_, PSub.drop (PSub.refl _), rfl, rfl⟩
    by_cases hd0 : isRow (v.getD p default) ∧ d = 0
    · rw [if_pos (.inr (.inr (.inr hd0))), show tkI v none = -1 from rfl]
      obtain ⟨hr, rfl⟩ := hd0
      have h6 : 6 ≤ (v.getD p default).kind := by unfold isRow at hr; omega
      cases obj
      · have ho2 : (v.getD p default).key = [] := by simpa using ho
        repeat' (first | (apply T.mv; apply rfl; apply rfl) | (apply T.asn; apply rfl; apply rfl) | (apply T.len; apply rfl; apply rfl) | (apply T.geq; apply rfl; apply rfl; apply rfl) | (apply T.ixF; apply rfl; apply rfl; infer_instance; exact (fun _ => rfl); apply rfl; omega; omega; apply rfl) | (apply T.loadFN; apply rfl; apply rfl; infer_instance; exact (fun _ => rfl); apply rfl; exact getD_some (by omega); apply rfl) | (apply T.loadW; apply rfl; apply rfl; infer_instance; (first | rfl | (simp only [List.length_append, List.length_map, List.length_set, List.length_replicate, List.length_cons, List.length_nil]; first | done | omega)); apply rfl) | (apply T.storeW; apply rfl; apply rfl; infer_instance; (first | rfl | (simp only [List.length_append, List.length_map, List.length_set, List.length_replicate, List.length_cons, List.length_nil]; first | done | omega)); (first | rfl | (simp only [List.length_append, List.length_map, List.length_set, List.length_replicate, List.length_cons, List.length_nil]; first | done | omega)); (first | rfl | (repeat' first | apply all_nV | apply all_bV | apply all_iV | rfl | apply all_app))) | (apply T.alloc; apply rfl; intro nb) | with_reducible refine Sr.nil ?_ | with_reducible refine S.seq ?_ | with_reducible refine S.reg ?_ | with_reducible refine S.skip ?_ | (apply S.condQ; apply rfl; all_goals (intro _; try (exfalso; first | omega | with_reducible contradiction))) | fail)
        refine T.call rfl rfl (refPlain_spec x1) ?_
        rintro _ _ ⟨rfl, rfl⟩
        rw [hp1]
        repeat' (first | (apply T.asn; apply rfl; apply rfl) | (apply T.fieldAddrZ; apply rfl; apply rfl) | (apply T.load; apply rfl; apply rfl; infer_instance; apply rfl; apply rfl) | with_reducible refine Sr.nil ?_ | with_reducible refine S.seq ?_ | with_reducible refine S.reg ?_ | (with_reducible apply T.ofRet) | fail)
        refine T.call rfl rfl (refUtf_spec (by omega)) ?_
        rintro _ _ ⟨rfl, rfl⟩
        rw [hv1]
        repeat' (first | (apply T.sneq; apply rfl; apply rfl; apply rfl) | (apply T.mv; apply rfl; apply rfl) | (apply T.asn; apply rfl; apply rfl) | (apply T.fieldAddrZ; apply rfl; apply rfl) | (apply T.load; apply rfl; apply rfl; infer_instance; apply rfl; apply rfl) | (apply T.geq; apply rfl; apply rfl; apply rfl) | (apply T.eql; apply rfl; apply rfl; apply rfl) | (apply T.notB; apply rfl; apply rfl) | (apply T.pickT; apply rfl; apply rfl; apply rfl) | (apply T.pickF; apply rfl; apply rfl; apply rfl) | with_reducible refine Sr.nil ?_ | with_reducible refine S.seq ?_ | with_reducible refine S.reg ?_ | (apply T.ungV; apply rfl; (first | with_reducible rfl | decide)) | (apply S.condTV; apply rfl; (first | with_reducible rfl | decide)) | (apply T.gcase; apply rfl; apply rfl; all_goals (intro _; try (exfalso; first | omega | with_reducible contradiction))) | (apply T.retW; apply rfl) | (with_reducible apply T.ofRet) | fail)
        all_goals exact ⟨_, PSub.drop (PSub.refl _), rfl, rfl⟩
      · repeat' (first | (apply T.mv; apply rfl; apply rfl) | (apply T.asn; apply rfl; apply rfl) | (apply T.len; apply rfl; apply rfl) | (apply T.geq; apply rfl; apply rfl; apply rfl) | (apply T.ixF; apply rfl; apply rfl; infer_instance; exact (fun _ => rfl); apply rfl; omega; omega; apply rfl) | (apply T.loadFN; apply rfl; apply rfl; infer_instance; exact (fun _ => rfl); apply rfl; exact getD_some (by omega); apply rfl) | (apply T.loadW; apply rfl; apply rfl; infer_instance; (first | rfl | (simp only [List.length_append, List.length_map, List.length_set, List.length_replicate, List.length_cons, List.length_nil]; first | done | omega)); apply rfl) | (apply T.storeW; apply rfl; apply rfl; infer_instance; (first | rfl | (simp only [List.length_append, List.length_map, List.length_set, List.length_replicate, List.length_cons, List.length_nil]; first | done | omega)); (first | rfl | (simp only [List.length_append, List.length_map, List.length_set, List.length_replicate, List.length_cons, List.length_nil]; first | done | omega)); (first | rfl | (repeat' first | apply all_nV | apply all_bV | apply all_iV | rfl | apply all_app))) | (apply T.alloc; apply rfl; intro nb) | with_reducible refine Sr.nil ?_ | with_reducible refine S.seq ?_ | with_reducible refine S.reg ?_ | with_reducible refine S.skip ?_ | (apply S.condQ; apply rfl; all_goals (intro _; try (exfalso; first | omega | with_reducible contradiction))) | fail)
        refine T.call rfl rfl (refPlain_spec x1) ?_
        rintro _ _ ⟨rfl, rfl⟩
        rw [hp1]
        repeat' (first | (apply T.asn; apply rfl; apply rfl) | (apply T.fieldAddrZ; apply rfl; apply rfl) | (apply T.load; apply rfl; apply rfl; infer_instance; apply rfl; apply rfl) | with_reducible refine Sr.nil ?_ | with_reducible refine S.seq ?_ | with_reducible refine S.reg ?_ | (with_reducible apply T.ofRet) | fail)
        refine T.call rfl rfl (refUtf_spec (by omega)) ?_
        rintro _ _ ⟨rfl, rfl⟩
        rw [hv1]
        repeat' (first | (apply T.mv; apply rfl; apply rfl) | (apply T.asn; apply rfl; apply rfl) | (apply T.fieldAddrZ; apply rfl; apply rfl) | (apply T.load; apply rfl; apply rfl; infer_instance; apply rfl; apply rfl) | (apply T.geq; apply rfl; apply rfl; apply rfl) | (apply T.eql; apply rfl; apply rfl; apply rfl) | (apply T.notB; apply rfl; apply rfl) | (apply T.pickT; apply rfl; apply rfl; apply rfl) | (apply T.pickF; apply rfl; apply rfl; apply rfl) | with_reducible refine Sr.nil ?_ | with_reducible refine S.seq ?_ | with_reducible refine S.reg ?_ | (apply T.ungV; apply rfl; (first | with_reducible rfl | decide)) | (apply T.skip; apply rfl; (first | with_reducible rfl | decide); apply rfl) | (apply S.condTV; apply rfl; (first | with_reducible rfl | decide)) | (apply T.gcase; apply rfl; apply rfl; all_goals (intro _; try (exfalso; first | omega | with_reducible contradiction))) | (apply T.retW; apply rfl) | (with_reducible apply T.ofRet) | fail)
        all_goals exact ⟨_, PSub.drop (PSub.refl _), rfl, rfl⟩
    rw [if_neg (by simp only [not_or]; exact ⟨by simp, by simp, ho, hd0⟩)]
    obtain ⟨kk, hkk⟩ : ∃ kk : Nat, (v.getD p default).kids = (kk : Int) := ⟨_, (Int.toNat_of_nonneg hk0).symm⟩
    rw [hkk, Int.toNat_natCast]
    have hdd : 0 < kk → 0 < d := fun h => by
      by_cases hr : isRow (v.getD p default)
      · have : ¬ d = 0 := fun h => hd0 ⟨hr, h⟩
        omega
      · have := hk3 hr
        omega
    have io : ((32 - d : Nat) : Int) + 1 = ((32 - (d - 1) : Nat) : Int) ∨ d = 0 := by omega
    generalize hQ : tkI v (takeK Lib.validD f (d - 1) (if (v.getD p default).kind = 7 then some [] else none) kk (v.drop (p + 1))) = Q
    refine S.nilrow 9 1 ?_
    have hd2 : 6 ≤ (v.getD p default).kind → ¬ ((32 - d : Nat) : Int) = 32 := fun h => by
      have : ¬ d = 0 := fun h2 => hd0 ⟨by unfold isRow; omega, h2⟩
      omega
    have ho2 : obj = true ∨ (v.getD p default).key = [] := by
      cases obj
      · exact .inr (by simpa using ho)
      · exact .inl rfl
    clear ho hd0
    have hgo : obj = true ∨ obj = false := by cases obj <;> simp
    rcases hgo with rfl | rfl
    rotate_left
    · have ho3 : (v.getD p default).key = [] := ho2.resolve_left (by simp)
      clear ho2
      by_cases h6 : 6 ≤ (v.getD p default).kind
      · have h32 := hd2 h6
        repeat' (first | (apply T.mv; apply rfl; apply rfl) | (apply T.asn; apply rfl; apply rfl) | (apply T.len; apply rfl; apply rfl) | (apply T.geq; apply rfl; apply rfl; apply rfl) | (apply T.ixF; apply rfl; apply rfl; infer_instance; exact (fun _ => rfl); apply rfl; omega; omega; apply rfl) | (apply T.loadFN; apply rfl; apply rfl; infer_instance; exact (fun _ => rfl); apply rfl; exact getD_some (by omega); apply rfl) | (apply T.loadW; apply rfl; apply rfl; infer_instance; (first | rfl | (simp only [List.length_append, List.length_map, List.length_set, List.length_replicate, List.length_cons, List.length_nil]; first | done | omega)); apply rfl) | (apply T.storeW; apply rfl; apply rfl; infer_instance; (first | rfl | (simp only [List.length_append, List.length_map, List.length_set, List.length_replicate, List.length_cons, List.length_nil]; first | done | omega)); (first | rfl | (simp only [List.length_append, List.length_map, List.length_set, List.length_replicate, List.length_cons, List.length_nil]; first | done | omega)); (first | rfl | (repeat' first | apply all_nV | apply all_bV | apply all_iV | rfl | apply all_app))) | (apply T.alloc; apply rfl; intro nb) | with_reducible refine Sr.nil ?_ | with_reducible refine S.seq ?_ | with_reducible refine S.reg ?_ | with_reducible refine S.skip ?_ | (apply S.condQ; apply rfl; all_goals (intro _; try (exfalso; first | omega | with_reducible contradiction))) | fail)
        refine T.call rfl rfl (refPlain_spec x1) ?_
        rintro _ _ ⟨rfl, rfl⟩
        rw [hp1]
        repeat' (first | (apply T.asn; apply rfl; apply rfl) | (apply T.fieldAddrZ; apply rfl; apply rfl) | (apply T.load; apply rfl; apply rfl; infer_instance; apply rfl; apply rfl) | with_reducible refine Sr.nil ?_ | with_reducible refine S.seq ?_ | with_reducible refine S.reg ?_ | (with_reducible apply T.ofRet) | fail)
        refine T.call rfl rfl (refUtf_spec (by omega)) ?_
        rintro _ _ ⟨rfl, rfl⟩
        rw [hv1]
        repeat' (first | (apply T.sneq; apply rfl; apply rfl; apply rfl) | (apply T.mv; apply rfl; apply rfl) | (apply T.asn; apply rfl; apply rfl) | (apply T.fieldAddrZ; apply rfl; apply rfl) | (apply T.load; apply rfl; apply rfl; infer_instance; apply rfl; apply rfl) | (apply T.geq; apply rfl; apply rfl; apply rfl) | (apply T.eql; apply rfl; apply rfl; apply rfl) | (apply T.addI; apply rfl; apply rfl; omega; apply rfl) | (apply T.notB; apply rfl; apply rfl) | (apply T.pickT; apply rfl; apply rfl; apply rfl) | (apply T.pickF; apply rfl; apply rfl; apply rfl) | with_reducible refine Sr.nil ?_ | with_reducible refine S.seq ?_ | with_reducible refine S.block ?_ | with_reducible refine S.reg ?_ | with_reducible refine S.skip ?_ | (apply T.ungV; apply rfl; (first | with_reducible rfl | decide)) | (apply S.condQ; apply rfl; all_goals (intro _; try (exfalso; first | omega | with_reducible contradiction))) | (apply T.gcase; apply rfl; apply rfl; all_goals (intro _; try (exfalso; first | omega | with_reducible contradiction))) | (with_reducible apply T.ofRet) | fail)
        refine S.frontR none ?_
        refine S.loopE 1 [0, 3, 9] (fun R b' μ H' e => ∃ (i q g : Nat) (na : Option Addr) (nc : Nat) (names : List (List UInt8)), H' = .row na nc 9 1 names.length (names.map sV) :: R ∧ e = (12, .int .i64 q) :: (13, .slice na names.length nc) :: (14, .int .i64 i) :: b' ∧
          (i ≤ kk ∧ q ≤ v.length ∧ v.length - q < g ∧ g ≤ N + 1 ∧ names.length = i ∧ i ≤ q ∧ tkI v (takeK Lib.validD g (d - 1) (if (v.getD p default).kind = 7 then some names.reverse else none) (kk - i) (v.drop q)) = Q) ∧ μ = kk - i) rfl rfl ?_ _ _ ⟨0, p + 1, f, none, 0, [], rfl, rfl, ⟨Nat.zero_le _, h1, by omega, hN, rfl, by omega, hQ⟩, rfl⟩ (by repeat' first | exact trivial | refine And.intro rfl ?_)
        rintro _ _ _ ⟨i, q, g, na, nc, names, rfl, rfl, ⟨c1, c2, c3, c4, c5, c6, c7⟩, rfl⟩ ih
        by_cases c8 : i < kk
        · have hd1 := hdd (by omega)
          have io2 : ((32 - d : Nat) : Int) + 1 = ((32 - (d - 1) : Nat) : Int) := by omega
          obtain ⟨g', rfl⟩ : ∃ g', g = g' + 1 := ⟨g - 1, by omega⟩
          have c9 : kk - i = (kk - (i + 1)) + 1 := by omega
          rw [c9, takeK_one, isS_if, map_if] at c7
          repeat' (first | (apply T.addI; apply rfl; apply rfl; omega; apply rfl; rw [io2]) | (apply T.mv; apply rfl; apply rfl) | (apply T.asn; apply rfl; apply rfl) | (apply T.fieldAddrZ; apply rfl; apply rfl) | (apply T.load; apply rfl; apply rfl; infer_instance; apply rfl; apply rfl) | (apply T.lss; apply rfl; apply rfl; apply rfl) | (apply T.eql; apply rfl; apply rfl; apply rfl) | with_reducible refine Sr.nil ?_ | with_reducible refine S.seq ?_ | with_reducible refine S.block ?_ | with_reducible refine S.reg ?_ | with_reducible refine S.skip ?_ | (apply S.condQ; apply rfl; all_goals (intro _; try (exfalso; first | omega | with_reducible contradiction))) | fail)
          refine T.call rfl rfl (IH g' (p := q) (d := d - 1) (obj := decide ((v.getD p default).kind = 7)) (by omega) rfl hl htx c2 (by omega) (by omega)) ?_
          rintro _ _ ⟨rfl, hH⟩
          have hH2 := hH.symm
          subst hH2
          cases ht : take1 Lib.validD g' (d - 1) (decide ((v.getD p default).kind = 7)) (v.drop q) with
          | none =>
            rw [ht] at c7
            have c10 : Q = -1 := c7.symm
            subst c10
            rw [show tkI v none = -1 from rfl]
            repeat' (first | (apply T.mv; apply rfl; apply rfl) | (apply T.asn; apply rfl; apply rfl) | (apply T.lss; apply rfl; apply rfl; apply rfl) | (apply T.pickT; apply rfl; apply rfl; apply rfl) | with_reducible refine Sr.nil ?_ | with_reducible refine S.seq ?_ | with_reducible refine S.reg ?_ | (apply T.skip; apply rfl; (first | with_reducible rfl | decide); apply rfl) | (apply T.skipU; apply rfl; apply rfl) | (apply S.condTV; apply rfl; (first | with_reducible rfl | decide)) | (apply T.retW; apply rfl) | (with_reducible apply T.ofRet) | fail)
            exact ⟨_, PSub.drop (PSub.drop (PSub.refl _)), rfl, rfl⟩
          | some r' =>
            rw [ht] at c7
            dsimp only at c7
            have d1 := take1_len ht
            have d2 := take1_drop ht
            rw [List.length_drop] at d1
            have d3 : q < v.length := by omega
            have d4 : headN (v.drop q) = v.getD q default := by
              rw [List.drop_eq_getElem_cons d3]
              simp [headN, List.getD, d3]
            rw [d4] at c7
            obtain ⟨y1, y2⟩ := htx (v.getD q default) (by rw [List.getD_eq_getElem?_getD, List.getElem?_eq_getElem d3, Option.getD_some]; exact List.getElem_mem d3)
            rw [show tkI v (some r') = ((v.length - r'.length : Nat) : Int) from rfl]
            generalize hqq : v.length - r'.length = q' at *
            have hmm : names.map sV ++ [sV (v.getD q default).key] = (names ++ [(v.getD q default).key]).map sV := by rw [List.map_append]; rfl
            have hnl : (names ++ [(v.getD q default).key]).length = names.length + 1 := List.length_append
            by_cases k7 : (v.getD p default).kind = 7
            · repeat' (first | (apply T.mv; apply rfl; apply rfl) | (apply T.asn; apply rfl; apply rfl) | (apply T.fieldAddrZ; apply rfl; apply rfl) | (apply T.load; apply rfl; apply rfl; infer_instance; apply rfl; apply rfl) | (apply T.lss; apply rfl; apply rfl; apply rfl) | (apply T.eql; apply rfl; apply rfl; apply rfl) | (apply T.ixF; apply rfl; apply rfl; infer_instance; exact (fun _ => rfl); apply rfl; omega; omega; apply rfl) | (apply T.fieldAddrF; apply rfl; infer_instance; exact (fun _ => rfl); apply rfl; omega; apply rfl) | (apply T.loadF; apply rfl; apply rfl; infer_instance; exact (fun _ => rfl); apply rfl; exact getD_some (by omega); apply rfl; apply rfl) | with_reducible refine Sr.nil ?_ | with_reducible refine S.seq ?_ | with_reducible refine S.reg ?_ | (apply T.ungV; apply rfl; (first | with_reducible rfl | decide)) | (apply T.gcase; apply rfl; apply rfl; all_goals (intro _; try (exfalso; first | omega | with_reducible contradiction))) | (with_reducible apply T.ofRet) | fail)
              refine T.call rfl rfl (among_spec rfl (by omega)) ?_
              rintro _ _ ⟨rfl, hH⟩
              have hH2 := hH.symm
              subst hH2
              by_cases hin : (v.getD q default).key ∈ names
              · rw [if_pos (hasN_if.2 ⟨k7, hin⟩)] at c7
                have c10 : Q = -1 := c7.symm
                subst c10
                rw [decide_eq_true hin]
                repeat' (first | (apply T.asn; apply rfl; apply rfl) | (apply T.pickT; apply rfl; apply rfl; apply rfl) | (apply T.pickF; apply rfl; apply rfl; apply rfl) | with_reducible refine Sr.nil ?_ | with_reducible refine S.seq ?_ | with_reducible refine S.reg ?_ | (apply T.ungV; apply rfl; (first | with_reducible rfl | decide)) | (apply S.condTV; apply rfl; (first | with_reducible rfl | decide)) | (apply T.retW; apply rfl) | (with_reducible apply T.ofRet) | fail)
                exact ⟨_, PSub.drop (PSub.drop (PSub.refl _)), rfl, rfl⟩
              · rw [if_neg (fun h => hin (hasN_if.1 h).2)] at c7
                rw [decide_eq_false hin]
                repeat' (first | (apply T.appendK1; apply rfl; apply rfl; apply rfl; apply rfl; (constructor <;> omega); apply rfl; intro na2 nc2 Y hY) | (apply T.mv; apply rfl; apply rfl) | (apply T.asn; apply rfl; apply rfl) | (apply T.addI; apply rfl; apply rfl; omega; apply rfl) | (apply T.ixF; apply rfl; apply rfl; infer_instance; exact (fun _ => rfl); apply rfl; omega; omega; apply rfl) | (apply T.fieldAddrF; apply rfl; infer_instance; exact (fun _ => rfl); apply rfl; omega; apply rfl) | (apply T.loadF; apply rfl; apply rfl; infer_instance; exact (fun _ => rfl); apply rfl; exact getD_some (by omega); apply rfl; apply rfl) | (apply T.pickT; apply rfl; apply rfl; apply rfl) | (apply T.pickF; apply rfl; apply rfl; apply rfl) | (apply T.bs; apply rfl; apply rfl; apply rfl; apply rfl; apply rfl; apply rfl; intro nb) | with_reducible refine Sr.nil ?_ | with_reducible refine S.reg ?_ | with_reducible refine S.skip ?_ | with_reducible refine S.inBlock ?_ | (apply T.ungV; apply rfl; (first | with_reducible rfl | decide)) | (apply S.condFV; apply rfl; (first | with_reducible rfl | decide)) | (with_reducible apply T.ofRet) | fail)
                refine S.sublist (H' := .row na2 nc2 9 1 (names.length + 1) (names.map sV ++ [sV (v.getD q default).key]) :: _) ?_ (PSub.take pick_hd sub_app)
                rw [hmm, ← hnl]
                exact ih _ _ _ _ ⟨i + 1, q', g', na2, nc2, names ++ [(v.getD q default).key], rfl, rfl, ⟨c8, by omega, by omega, by omega, by omega, by omega, by rw [d2]; exact c7⟩, rfl⟩ (by omega) (by repeat' first | exact trivial | refine And.intro rfl ?_)
            · rw [if_neg (fun h => k7 (hasN_if.1 h).1)] at c7
              repeat' (first | (apply T.appendK1; apply rfl; apply rfl; apply rfl; apply rfl; (constructor <;> omega); apply rfl; intro na2 nc2 Y hY) | (apply T.mv; apply rfl; apply rfl) | (apply T.asn; apply rfl; apply rfl) | (apply T.fieldAddrZ; apply rfl; apply rfl) | (apply T.load; apply rfl; apply rfl; infer_instance; apply rfl; apply rfl) | (apply T.lss; apply rfl; apply rfl; apply rfl) | (apply T.eql; apply rfl; apply rfl; apply rfl) | (apply T.addI; apply rfl; apply rfl; omega; apply rfl) | (apply T.ixF; apply rfl; apply rfl; infer_instance; exact (fun _ => rfl); apply rfl; omega; omega; apply rfl) | (apply T.fieldAddrF; apply rfl; infer_instance; exact (fun _ => rfl); apply rfl; omega; apply rfl) | (apply T.loadF; apply rfl; apply rfl; infer_instance; exact (fun _ => rfl); apply rfl; exact getD_some (by omega); apply rfl; apply rfl) | (apply T.pickF; apply rfl; apply rfl; apply rfl) | (apply T.bs; apply rfl; apply rfl; apply rfl; apply rfl; apply rfl; apply rfl; intro nb) | with_reducible refine Sr.nil ?_ | with_reducible refine S.seq ?_ | with_reducible refine S.reg ?_ | with_reducible refine S.skip ?_ | with_reducible refine S.inBlock ?_ | (apply T.ungV; apply rfl; (first | with_reducible rfl | decide)) | (apply T.skip; apply rfl; (first | with_reducible rfl | decide); apply rfl) | (apply S.condFV; apply rfl; (first | with_reducible rfl | decide)) | (apply T.gcase; apply rfl; apply rfl; all_goals (intro _; try (exfalso; first | omega | with_reducible contradiction))) | (with_reducible apply T.ofRet) | fail)
              refine S.sublist (H' := .row na2 nc2 9 1 (names.length + 1) (names.map sV ++ [sV (v.getD q default).key]) :: _) ?_ (PSub.take pick_hd sub_app)
              rw [hmm, ← hnl]
              exact ih _ _ _ _ ⟨i + 1, q', g', na2, nc2, names ++ [(v.getD q default).key], rfl, rfl, ⟨c8, by omega, by omega, by omega, by omega, by omega, by rw [d2]; exact c7⟩, rfl⟩ (by omega) (by repeat' first | exact trivial | refine And.intro rfl ?_)
        · obtain rfl : i = kk := by omega
          rw [Nat.sub_self, takeK_zero] at c7
          have c10 : Q = (q : Int) := by
            rw [← c7]
            show ((v.length - (v.drop q).length : Nat) : Int) = _
            rw [List.length_drop]
            omega
          subst c10
          repeat' (first | (apply T.mv; apply rfl; apply rfl) | (apply T.asn; apply rfl; apply rfl) | (apply T.fieldAddrZ; apply rfl; apply rfl) | (apply T.load; apply rfl; apply rfl; infer_instance; apply rfl; apply rfl) | (apply T.lss; apply rfl; apply rfl; apply rfl) | with_reducible refine Sr.nil ?_ | with_reducible refine S.seq ?_ | with_reducible refine S.reg ?_ | (apply S.exit; apply rfl) | (apply S.condQ; apply rfl; all_goals (intro _; try (exfalso; first | omega | with_reducible contradiction))) | (apply T.retW; apply rfl) | fail)
          exact ⟨_, PSub.drop (PSub.drop (PSub.refl _)), rfl, rfl⟩
      · have hkz : kk = 0 := by
          have := hk3 (by unfold isRow; omega)
          omega
        repeat' (first | (apply T.mv; apply rfl; apply rfl) | (apply T.asn; apply rfl; apply rfl) | (apply T.len; apply rfl; apply rfl) | (apply T.geq; apply rfl; apply rfl; apply rfl) | (apply T.ixF; apply rfl; apply rfl; infer_instance; exact (fun _ => rfl); apply rfl; omega; omega; apply rfl) | (apply T.loadFN; apply rfl; apply rfl; infer_instance; exact (fun _ => rfl); apply rfl; exact getD_some (by omega); apply rfl) | (apply T.loadW; apply rfl; apply rfl; infer_instance; (first | rfl | (simp only [List.length_append, List.length_map, List.length_set, List.length_replicate, List.length_cons, List.length_nil]; first | done | omega)); apply rfl) | (apply T.storeW; apply rfl; apply rfl; infer_instance; (first | rfl | (simp only [List.length_append, List.length_map, List.length_set, List.length_replicate, List.length_cons, List.length_nil]; first | done | omega)); (first | rfl | (simp only [List.length_append, List.length_map, List.length_set, List.length_replicate, List.length_cons, List.length_nil]; first | done | omega)); (first | rfl | (repeat' first | apply all_nV | apply all_bV | apply all_iV | rfl | apply all_app))) | (apply T.alloc; apply rfl; intro nb) | with_reducible refine Sr.nil ?_ | with_reducible refine S.seq ?_ | with_reducible refine S.reg ?_ | with_reducible refine S.skip ?_ | (apply S.condQ; apply rfl; all_goals (intro _; try (exfalso; first | omega | with_reducible contradiction))) | fail)
        refine T.call rfl rfl (refPlain_spec x1) ?_
        rintro _ _ ⟨rfl, rfl⟩
        rw [hp1]
        repeat' (first | (apply T.asn; apply rfl; apply rfl) | (apply T.fieldAddrZ; apply rfl; apply rfl) | (apply T.load; apply rfl; apply rfl; infer_instance; apply rfl; apply rfl) | with_reducible refine Sr.nil ?_ | with_reducible refine S.seq ?_ | with_reducible refine S.reg ?_ | (with_reducible apply T.ofRet) | fail)
        refine T.call rfl rfl (refUtf_spec (by omega)) ?_
        rintro _ _ ⟨rfl, rfl⟩
        rw [hv1]
        repeat' (first | (apply T.sneq; apply rfl; apply rfl; apply rfl) | (apply T.mv; apply rfl; apply rfl) | (apply T.asn; apply rfl; apply rfl) | (apply T.fieldAddrZ; apply rfl; apply rfl) | (apply T.load; apply rfl; apply rfl; infer_instance; apply rfl; apply rfl) | (apply T.geq; apply rfl; apply rfl; apply rfl) | (apply T.addI; apply rfl; apply rfl; omega; apply rfl) | (apply T.notB; apply rfl; apply rfl) | (apply T.pickT; apply rfl; apply rfl; apply rfl) | (apply T.pickF; apply rfl; apply rfl; apply rfl) | with_reducible refine Sr.nil ?_ | with_reducible refine S.seq ?_ | with_reducible refine S.block ?_ | with_reducible refine S.reg ?_ | with_reducible refine S.skip ?_ | (apply T.ungV; apply rfl; (first | with_reducible rfl | decide)) | (apply T.skip; apply rfl; (first | with_reducible rfl | decide); apply rfl) | (apply S.condFV; apply rfl; (first | with_reducible rfl | decide)) | (apply T.gcase; apply rfl; apply rfl; all_goals (intro _; try (exfalso; first | omega | with_reducible contradiction))) | (with_reducible apply T.ofRet) | fail)
        refine S.frontR none ?_
        refine S.loopE 1 [0, 3, 9] (fun R b' μ H' e => ∃ (i q g : Nat) (na : Option Addr) (nc : Nat) (names : List (List UInt8)), H' = .row na nc 9 1 names.length (names.map sV) :: R ∧ e = (12, .int .i64 q) :: (13, .slice na names.length nc) :: (14, .int .i64 i) :: b' ∧
          (i ≤ kk ∧ q ≤ v.length ∧ v.length - q < g ∧ g ≤ N + 1 ∧ names.length = i ∧ i ≤ q ∧ tkI v (takeK Lib.validD g (d - 1) (if (v.getD p default).kind = 7 then some names.reverse else none) (kk - i) (v.drop q)) = Q) ∧ μ = kk - i) rfl rfl ?_ _ _ ⟨0, p + 1, f, none, 0, [], rfl, rfl, ⟨Nat.zero_le _, h1, by omega, hN, rfl, by omega, hQ⟩, rfl⟩ (by repeat' first | exact trivial | refine And.intro rfl ?_)
        rintro _ _ _ ⟨i, q, g, na, nc, names, rfl, rfl, ⟨c1, c2, c3, c4, c5, c6, c7⟩, rfl⟩ ih
        by_cases c8 : i < kk
        · exfalso; omega
        · obtain rfl : i = kk := by omega
          rw [Nat.sub_self, takeK_zero] at c7
          have c10 : Q = (q : Int) := by
            rw [← c7]
            show ((v.length - (v.drop q).length : Nat) : Int) = _
            rw [List.length_drop]
            omega
          subst c10
          repeat' (first | (apply T.mv; apply rfl; apply rfl) | (apply T.asn; apply rfl; apply rfl) | (apply T.fieldAddrZ; apply rfl; apply rfl) | (apply T.load; apply rfl; apply rfl; infer_instance; apply rfl; apply rfl) | (apply T.lss; apply rfl; apply rfl; apply rfl) | with_reducible refine Sr.nil ?_ | with_reducible refine S.seq ?_ | with_reducible refine S.reg ?_ | (apply S.exit; apply rfl) | (apply S.condQ; apply rfl; all_goals (intro _; try (exfalso; first | omega | with_reducible contradiction))) | (apply T.retW; apply rfl) | fail)
          exact ⟨_, PSub.drop (PSub.drop (PSub.refl _)), rfl, rfl⟩
    · clear ho2
      by_cases h6 : 6 ≤ (v.getD p default).kind
      · have h32 := hd2 h6
        repeat' (first | (apply T.mv; apply rfl; apply rfl) | (apply T.asn; apply rfl; apply rfl) | (apply T.len; apply rfl; apply rfl) | (apply T.geq; apply rfl; apply rfl; apply rfl) | (apply T.ixF; apply rfl; apply rfl; infer_instance; exact (fun _ => rfl); apply rfl; omega; omega; apply rfl) | (apply T.loadFN; apply rfl; apply rfl; infer_instance; exact (fun _ => rfl); apply rfl; exact getD_some (by omega); apply rfl) | (apply T.loadW; apply rfl; apply rfl; infer_instance; (first | rfl | (simp only [List.length_append, List.length_map, List.length_set, List.length_replicate, List.length_cons, List.length_nil]; first | done | omega)); apply rfl) | (apply T.storeW; apply rfl; apply rfl; infer_instance; (first | rfl | (simp only [List.length_append, List.length_map, List.length_set, List.length_replicate, List.length_cons, List.length_nil]; first | done | omega)); (first | rfl | (simp only [List.length_append, List.length_map, List.length_set, List.length_replicate, List.length_cons, List.length_nil]; first | done | omega)); (first | rfl | (repeat' first | apply all_nV | apply all_bV | apply all_iV | rfl | apply all_app))) | (apply T.alloc; apply rfl; intro nb) | with_reducible refine Sr.nil ?_ | with_reducible refine S.seq ?_ | with_reducible refine S.reg ?_ | with_reducible refine S.skip ?_ | (apply S.condQ; apply rfl; all_goals (intro _; try (exfalso; first | omega | with_reducible contradiction))) | fail)
        refine T.call rfl rfl (refPlain_spec x1) ?_
        rintro _ _ ⟨rfl, rfl⟩
        rw [hp1]
        repeat' (first | (apply T.asn; apply rfl; apply rfl) | (apply T.fieldAddrZ; apply rfl; apply rfl) | (apply T.load; apply rfl; apply rfl; infer_instance; apply rfl; apply rfl) | with_reducible refine Sr.nil ?_ | with_reducible refine S.seq ?_ | with_reducible refine S.reg ?_ | (with_reducible apply T.ofRet) | fail)
        refine T.call rfl rfl (refUtf_spec (by omega)) ?_
        rintro _ _ ⟨rfl, rfl⟩
        rw [hv1]
        repeat' (first | (apply T.mv; apply rfl; apply rfl) | (apply T.asn; apply rfl; apply rfl) | (apply T.fieldAddrZ; apply rfl; apply rfl) | (apply T.load; apply rfl; apply rfl; infer_instance; apply rfl; apply rfl) | (apply T.geq; apply rfl; apply rfl; apply rfl) | (apply T.eql; apply rfl; apply rfl; apply rfl) | (apply T.addI; apply rfl; apply rfl; omega; apply rfl) | (apply T.notB; apply rfl; apply rfl) | (apply T.pickT; apply rfl; apply rfl; apply rfl) | (apply T.pickF; apply rfl; apply rfl; apply rfl) | with_reducible refine Sr.nil ?_ | with_reducible refine S.seq ?_ | with_reducible refine S.block ?_ | with_reducible refine S.reg ?_ | with_reducible refine S.skip ?_ | (apply T.ungV; apply rfl; (first | with_reducible rfl | decide)) | (apply T.skip; apply rfl; (first | with_reducible rfl | decide); apply rfl) | (apply S.condQ; apply rfl; all_goals (intro _; try (exfalso; first | omega | with_reducible contradiction))) | (apply T.gcase; apply rfl; apply rfl; all_goals (intro _; try (exfalso; first | omega | with_reducible contradiction))) | (with_reducible apply T.ofRet) | fail)
        refine S.frontR none ?_
        refine S.loopE 1 [0, 3, 9] (fun R b' μ H' e => ∃ (i q g : Nat) (na : Option Addr) (nc : Nat) (names : List (List UInt8)), H' = .row na nc 9 1 names.length (names.map sV) :: R ∧ e = (12, .int .i64 q) :: (13, .slice na names.length nc) :: (14, .int .i64 i) :: b' ∧
          (i ≤ kk ∧ q ≤ v.length ∧ v.length - q < g ∧ g ≤ N + 1 ∧ names.length = i ∧ i ≤ q ∧ tkI v (takeK Lib.validD g (d - 1) (if (v.getD p default).kind = 7 then some names.reverse else none) (kk - i) (v.drop q)) = Q) ∧ μ = kk - i) rfl rfl ?_ _ _ ⟨0, p + 1, f, none, 0, [], rfl, rfl, ⟨Nat.zero_le _, h1, by omega, hN, rfl, by omega, hQ⟩, rfl⟩ (by repeat' first | exact trivial | refine And.intro rfl ?_)
        rintro _ _ _ ⟨i, q, g, na, nc, names, rfl, rfl, ⟨c1, c2, c3, c4, c5, c6, c7⟩, rfl⟩ ih
        by_cases c8 : i < kk
        · have hd1 := hdd (by omega)
          have io2 : ((32 - d : Nat) : Int) + 1 = ((32 - (d - 1) : Nat) : Int) := by omega
          obtain ⟨g', rfl⟩ : ∃ g', g = g' + 1 := ⟨g - 1, by omega⟩
          have c9 : kk - i = (kk - (i + 1)) + 1 := by omega
          rw [c9, takeK_one, isS_if, map_if] at c7
          repeat' (first | (apply T.addI; apply rfl; apply rfl; omega; apply rfl; rw [io2]) | (apply T.mv; apply rfl; apply rfl) | (apply T.asn; apply rfl; apply rfl) | (apply T.fieldAddrZ; apply rfl; apply rfl) | (apply T.load; apply rfl; apply rfl; infer_instance; apply rfl; apply rfl) | (apply T.lss; apply rfl; apply rfl; apply rfl) | (apply T.eql; apply rfl; apply rfl; apply rfl) | with_reducible refine Sr.nil ?_ | with_reducible refine S.seq ?_ | with_reducible refine S.block ?_ | with_reducible refine S.reg ?_ | with_reducible refine S.skip ?_ | (apply S.condQ; apply rfl; all_goals (intro _; try (exfalso; first | omega | with_reducible contradiction))) | fail)
          refine T.call rfl rfl (IH g' (p := q) (d := d - 1) (obj := decide ((v.getD p default).kind = 7)) (by omega) rfl hl htx c2 (by omega) (by omega)) ?_
          rintro _ _ ⟨rfl, hH⟩
          have hH2 := hH.symm
          subst hH2
          cases ht : take1 Lib.validD g' (d - 1) (decide ((v.getD p default).kind = 7)) (v.drop q) with
          | none =>
            rw [ht] at c7
            have c10 : Q = -1 := c7.symm
            subst c10
            rw [show tkI v none = -1 from rfl]
            repeat' (first | (apply T.mv; apply rfl; apply rfl) | (apply T.asn; apply rfl; apply rfl) | (apply T.lss; apply rfl; apply rfl; apply rfl) | (apply T.pickT; apply rfl; apply rfl; apply rfl) | with_reducible refine Sr.nil ?_ | with_reducible refine S.seq ?_ | with_reducible refine S.reg ?_ | (apply T.skip; apply rfl; (first | with_reducible rfl | decide); apply rfl) | (apply T.skipU; apply rfl; apply rfl) | (apply S.condTV; apply rfl; (first | with_reducible rfl | decide)) | (apply T.retW; apply rfl) | (with_reducible apply T.ofRet) | fail)
            exact ⟨_, PSub.drop (PSub.drop (PSub.refl _)), rfl, rfl⟩
          | some r' =>
            rw [ht] at c7
            dsimp only at c7
            have d1 := take1_len ht
            have d2 := take1_drop ht
            rw [List.length_drop] at d1
            have d3 : q < v.length := by omega
            have d4 : headN (v.drop q) = v.getD q default := by
              rw [List.drop_eq_getElem_cons d3]
              simp [headN, List.getD, d3]
            rw [d4] at c7
            obtain ⟨y1, y2⟩ := htx (v.getD q default) (by rw [List.getD_eq_getElem?_getD, List.getElem?_eq_getElem d3, Option.getD_some]; exact List.getElem_mem d3)
            rw [show tkI v (some r') = ((v.length - r'.length : Nat) : Int) from rfl]
            generalize hqq : v.length - r'.length = q' at *
            have hmm : names.map sV ++ [sV (v.getD q default).key] = (names ++ [(v.getD q default).key]).map sV := by rw [List.map_append]; rfl
            have hnl : (names ++ [(v.getD q default).key]).length = names.length + 1 := List.length_append
            by_cases k7 : (v.getD p default).kind = 7
            · repeat' (first | (apply T.mv; apply rfl; apply rfl) | (apply T.asn; apply rfl; apply rfl) | (apply T.fieldAddrZ; apply rfl; apply rfl) | (apply T.load; apply rfl; apply rfl; infer_instance; apply rfl; apply rfl) | (apply T.lss; apply rfl; apply rfl; apply rfl) | (apply T.eql; apply rfl; apply rfl; apply rfl) | (apply T.ixF; apply rfl; apply rfl; infer_instance; exact (fun _ => rfl); apply rfl; omega; omega; apply rfl) | (apply T.fieldAddrF; apply rfl; infer_instance; exact (fun _ => rfl); apply rfl; omega; apply rfl) | (apply T.loadF; apply rfl; apply rfl; infer_instance; exact (fun _ => rfl); apply rfl; exact getD_some (by omega); apply rfl; apply rfl) | with_reducible refine Sr.nil ?_ | with_reducible refine S.seq ?_ | with_reducible refine S.reg ?_ | (apply T.ungV; apply rfl; (first | with_reducible rfl | decide)) | (apply T.gcase; apply rfl; apply rfl; all_goals (intro _; try (exfalso; first | omega | with_reducible contradiction))) | (with_reducible apply T.ofRet) | fail)
              refine T.call rfl rfl (among_spec rfl (by omega)) ?_
              rintro _ _ ⟨rfl, hH⟩
              have hH2 := hH.symm
              subst hH2
              by_cases hin : (v.getD q default).key ∈ names
              · rw [if_pos (hasN_if.2 ⟨k7, hin⟩)] at c7
                have c10 : Q = -1 := c7.symm
                subst c10
                rw [decide_eq_true hin]
                repeat' (first | (apply T.asn; apply rfl; apply rfl) | (apply T.pickT; apply rfl; apply rfl; apply rfl) | (apply T.pickF; apply rfl; apply rfl; apply rfl) | with_reducible refine Sr.nil ?_ | with_reducible refine S.seq ?_ | with_reducible refine S.reg ?_ | (apply T.ungV; apply rfl; (first | with_reducible rfl | decide)) | (apply S.condTV; apply rfl; (first | with_reducible rfl | decide)) | (apply T.retW; apply rfl) | (with_reducible apply T.ofRet) | fail)
                exact ⟨_, PSub.drop (PSub.drop (PSub.refl _)), rfl, rfl⟩
              · rw [if_neg (fun h => hin (hasN_if.1 h).2)] at c7
                rw [decide_eq_false hin]
                repeat' (first | (apply T.appendK1; apply rfl; apply rfl; apply rfl; apply rfl; (constructor <;> omega); apply rfl; intro na2 nc2 Y hY) | (apply T.mv; apply rfl; apply rfl) | (apply T.asn; apply rfl; apply rfl) | (apply T.addI; apply rfl; apply rfl; omega; apply rfl) | (apply T.ixF; apply rfl; apply rfl; infer_instance; exact (fun _ => rfl); apply rfl; omega; omega; apply rfl) | (apply T.fieldAddrF; apply rfl; infer_instance; exact (fun _ => rfl); apply rfl; omega; apply rfl) | (apply T.loadF; apply rfl; apply rfl; infer_instance; exact (fun _ => rfl); apply rfl; exact getD_some (by omega); apply rfl; apply rfl) | (apply T.pickT; apply rfl; apply rfl; apply rfl) | (apply T.pickF; apply rfl; apply rfl; apply rfl) | (apply T.bs; apply rfl; apply rfl; apply rfl; apply rfl; apply rfl; apply rfl; intro nb) | with_reducible refine Sr.nil ?_ | with_reducible refine S.reg ?_ | with_reducible refine S.skip ?_ | with_reducible refine S.inBlock ?_ | (apply T.ungV; apply rfl; (first | with_reducible rfl | decide)) | (apply S.condFV; apply rfl; (first | with_reducible rfl | decide)) | (with_reducible apply T.ofRet) | fail)
                refine S.sublist (H' := .row na2 nc2 9 1 (names.length + 1) (names.map sV ++ [sV (v.getD q default).key]) :: _) ?_ (PSub.take pick_hd sub_app)
                rw [hmm, ← hnl]
                exact ih _ _ _ _ ⟨i + 1, q', g', na2, nc2, names ++ [(v.getD q default).key], rfl, rfl, ⟨c8, by omega, by omega, by omega, by omega, by omega, by rw [d2]; exact c7⟩, rfl⟩ (by omega) (by repeat' first | exact trivial | refine And.intro rfl ?_)
            · rw [if_neg (fun h => k7 (hasN_if.1 h).1)] at c7
              repeat' (first | (apply T.appendK1; apply rfl; apply rfl; apply rfl; apply rfl; (constructor <;> omega); apply rfl; intro na2 nc2 Y hY) | (apply T.mv; apply rfl; apply rfl) | (apply T.asn; apply rfl; apply rfl) | (apply T.fieldAddrZ; apply rfl; apply rfl) | (apply T.load; apply rfl; apply rfl; infer_instance; apply rfl; apply rfl) | (apply T.lss; apply rfl; apply rfl; apply rfl) | (apply T.eql; apply rfl; apply rfl; apply rfl) | (apply T.addI; apply rfl; apply rfl; omega; apply rfl) | (apply T.ixF; apply rfl; apply rfl; infer_instance; exact (fun _ => rfl); apply rfl; omega; omega; apply rfl) | (apply T.fieldAddrF; apply rfl; infer_instance; exact (fun _ => rfl); apply rfl; omega; apply rfl) | (apply T.loadF; apply rfl; apply rfl; infer_instance; exact (fun _ => rfl); apply rfl; exact getD_some (by omega); apply rfl; apply rfl) | (apply T.pickF; apply rfl; apply rfl; apply rfl) | (apply T.bs; apply rfl; apply rfl; apply rfl; apply rfl; apply rfl; apply rfl; intro nb) | with_reducible refine Sr.nil ?_ | with_reducible refine S.seq ?_ | with_reducible refine S.reg ?_ | with_reducible refine S.skip ?_ | with_reducible refine S.inBlock ?_ | (apply T.ungV; apply rfl; (first | with_reducible rfl | decide)) | (apply T.skip; apply rfl; (first | with_reducible rfl | decide); apply rfl) | (apply S.condFV; apply rfl; (first | with_reducible rfl | decide)) | (apply T.gcase; apply rfl; apply rfl; all_goals (intro _; try (exfalso; first | omega | with_reducible contradiction))) | (with_reducible apply T.ofRet) | fail)
              refine S.sublist (H' := .row na2 nc2 9 1 (names.length + 1) (names.map sV ++ [sV (v.getD q default).key]) :: _) ?_ (PSub.take pick_hd sub_app)
              rw [hmm, ← hnl]
              exact ih _ _ _ _ ⟨i + 1, q', g', na2, nc2, names ++ [(v.getD q default).key], rfl, rfl, ⟨c8, by omega, by omega, by omega, by omega, by omega, by rw [d2]; exact c7⟩, rfl⟩ (by omega) (by repeat' first | exact trivial | refine And.intro rfl ?_)
        · obtain rfl : i = kk := by omega
          rw [Nat.sub_self, takeK_zero] at c7
          have c10 : Q = (q : Int) := by
            rw [← c7]
            show ((v.length - (v.drop q).length : Nat) : Int) = _
            rw [List.length_drop]
            omega
          subst c10
          repeat' (first | (apply T.mv; apply rfl; apply rfl) | (apply T.asn; apply rfl; apply rfl) | (apply T.fieldAddrZ; apply rfl; apply rfl) | (apply T.load; apply rfl; apply rfl; infer_instance; apply rfl; apply rfl) | (apply T.lss; apply rfl; apply rfl; apply rfl) | with_reducible refine Sr.nil ?_ | with_reducible refine S.seq ?_ | with_reducible refine S.reg ?_ | (apply S.exit; apply rfl) | (apply S.condQ; apply rfl; all_goals (intro _; try (exfalso; first | omega | with_reducible contradiction))) | (apply T.retW; apply rfl) | fail)
          exact ⟨_, PSub.drop (PSub.drop (PSub.refl _)), rfl, rfl⟩
      · have hkz : kk = 0 := by
          have := hk3 (by unfold isRow; omega)
          omega
        repeat' (first | (apply T.mv; apply rfl; apply rfl) | (apply T.asn; apply rfl; apply rfl) | (apply T.len; apply rfl; apply rfl) | (apply T.geq; apply rfl; apply rfl; apply rfl) | (apply T.ixF; apply rfl; apply rfl; infer_instance; exact (fun _ => rfl); apply rfl; omega; omega; apply rfl) | (apply T.loadFN; apply rfl; apply rfl; infer_instance; exact (fun _ => rfl); apply rfl; exact getD_some (by omega); apply rfl) | (apply T.loadW; apply rfl; apply rfl; infer_instance; (first | rfl | (simp only [List.length_append, List.length_map, List.length_set, List.length_replicate, List.length_cons, List.length_nil]; first | done | omega)); apply rfl) | (apply T.storeW; apply rfl; apply rfl; infer_instance; (first | rfl | (simp only [List.length_append, List.length_map, List.length_set, List.length_replicate, List.length_cons, List.length_nil]; first | done | omega)); (first | rfl | (simp only [List.length_append, List.length_map, List.length_set, List.length_replicate, List.length_cons, List.length_nil]; first | done | omega)); (first | rfl | (repeat' first | apply all_nV | apply all_bV | apply all_iV | rfl | apply all_app))) | (apply T.alloc; apply rfl; intro nb) | with_reducible refine Sr.nil ?_ | with_reducible refine S.seq ?_ | with_reducible refine S.reg ?_ | with_reducible refine S.skip ?_ | (apply S.condQ; apply rfl; all_goals (intro _; try (exfalso; first | omega | with_reducible contradiction))) | fail)
        refine T.call rfl rfl (refPlain_spec x1) ?_
        rintro _ _ ⟨rfl, rfl⟩
        rw [hp1]
        repeat' (first | (apply T.asn; apply rfl; apply rfl) | (apply T.fieldAddrZ; apply rfl; apply rfl) | (apply T.load; apply rfl; apply rfl; infer_instance; apply rfl; apply rfl) | with_reducible refine Sr.nil ?_ | with_reducible refine S.seq ?_ | with_reducible refine S.reg ?_ | (with_reducible apply T.ofRet) | fail)
        refine T.call rfl rfl (refUtf_spec (by omega)) ?_
        rintro _ _ ⟨rfl, rfl⟩
        rw [hv1]
        repeat' (first | (apply T.mv; apply rfl; apply rfl) | (apply T.asn; apply rfl; apply rfl) | (apply T.fieldAddrZ; apply rfl; apply rfl) | (apply T.load; apply rfl; apply rfl; infer_instance; apply rfl; apply rfl) | (apply T.geq; apply rfl; apply rfl; apply rfl) | (apply T.addI; apply rfl; apply rfl; omega; apply rfl) | (apply T.notB; apply rfl; apply rfl) | (apply T.pickF; apply rfl; apply rfl; apply rfl) | with_reducible refine Sr.nil ?_ | with_reducible refine S.seq ?_ | with_reducible refine S.block ?_ | with_reducible refine S.reg ?_ | with_reducible refine S.skip ?_ | (apply T.ungV; apply rfl; (first | with_reducible rfl | decide)) | (apply T.skip; apply rfl; (first | with_reducible rfl | decide); apply rfl) | (apply S.condFV; apply rfl; (first | with_reducible rfl | decide)) | (apply T.gcase; apply rfl; apply rfl; all_goals (intro _; try (exfalso; first | omega | with_reducible contradiction))) | (with_reducible apply T.ofRet) | fail)
        refine S.frontR none ?_
        refine S.loopE 1 [0, 3, 9] (fun R b' μ H' e => ∃ (i q g : Nat) (na : Option Addr) (nc : Nat) (names : List (List UInt8)), H' = .row na nc 9 1 names.length (names.map sV) :: R ∧ e = (12, .int .i64 q) :: (13, .slice na names.length nc) :: (14, .int .i64 i) :: b' ∧
          (i ≤ kk ∧ q ≤ v.length ∧ v.length - q < g ∧ g ≤ N + 1 ∧ names.length = i ∧ i ≤ q ∧ tkI v (takeK Lib.validD g (d - 1) (if (v.getD p default).kind = 7 then some names.reverse else none) (kk - i) (v.drop q)) = Q) ∧ μ = kk - i) rfl rfl ?_ _ _ ⟨0, p + 1, f, none, 0, [], rfl, rfl, ⟨Nat.zero_le _, h1, by omega, hN, rfl, by omega, hQ⟩, rfl⟩ (by repeat' first | exact trivial | refine And.intro rfl ?_)
        rintro _ _ _ ⟨i, q, g, na, nc, names, rfl, rfl, ⟨c1, c2, c3, c4, c5, c6, c7⟩, rfl⟩ ih
        by_cases c8 : i < kk
        · exfalso; omega
        · obtain rfl : i = kk := by omega
          rw [Nat.sub_self, takeK_zero] at c7
          have c10 : Q = (q : Int) := by
            rw [← c7]
            show ((v.length - (v.drop q).length : Nat) : Int) = _
            rw [List.length_drop]
            omega
          subst c10
          repeat' (first | (apply T.mv; apply rfl; apply rfl) | (apply T.asn; apply rfl; apply rfl) | (apply T.fieldAddrZ; apply rfl; apply rfl) | (apply T.load; apply rfl; apply rfl; infer_instance; apply rfl; apply rfl) | (apply T.lss; apply rfl; apply rfl; apply rfl) | with_reducible refine Sr.nil ?_ | with_reducible refine S.seq ?_ | with_reducible refine S.reg ?_ | (apply S.exit; apply rfl) | (apply S.condQ; apply rfl; all_goals (intro _; try (exfalso; first | omega | with_reducible contradiction))) | (apply T.retW; apply rfl) | fail)
          exact ⟨_, PSub.drop (PSub.drop (PSub.refl _)), rfl, rfl⟩
end
end Go.Proofs.YtnimcchalinihaaDoor
/- The walk of the document's Shaped. -/
namespace Go.Proofs.YtnimcchalinihaaDoor
open Sg Go.IntWalk
set_option maxRecDepth 100000
set_option maxHeartbeats 4000000
section
variable {F : World} {M : List Nat} {H : List Res} {v : List Nd} {oa : Option Addr} {oc n : Nat}
theorem refShaped_spec [Rd F M H oa (v.flatMap ndV)] (hn : v.length = n) (hl : n ≤ 1000000) (htx : ∀ x ∈ v, x.text.length ≤ 1100000 ∧ x.key.length ≤ 1100000) :
    Meets Tryd.prog 20 [.slice oa n oc] F M H (fun e H' => e = .returned (.bool (shapedX Lib.validD v)) ∧ H' = H) := by
  subst hn
  refine Meets.enter Tryd.func20 rfl rfl ?_
  by_cases h0 : 0 < v.length
  · have h1 := shapedX_take1 Lib.validD v
    repeat' (first | (apply T.mv; apply rfl; apply rfl) | (apply T.asn; apply rfl; apply rfl) | (apply T.len; apply rfl; apply rfl) | (apply T.gtr; apply rfl; apply rfl; apply rfl) | with_reducible refine Sr.nil ?_ | with_reducible refine S.seq ?_ | with_reducible refine S.reg ?_ | (apply T.ungV; apply rfl; (first | with_reducible rfl | decide)) | (apply T.gcase; apply rfl; apply rfl; all_goals (intro _; try (exfalso; first | omega | with_reducible contradiction))) | fail)
    refine T.call rfl rfl (refTake_spec (oa := oa) v.length v.length (p := 0) (d := 32) (obj := false) (Nat.le_refl _) rfl hl htx (Nat.zero_le _) (by omega) (Nat.le_refl _)) ?_
    rintro _ _ ⟨rfl, rfl⟩
    rw [List.drop_zero]
    cases ht : take1 Lib.validD v.length 32 false v with
    | none =>
      rw [ht] at h1
      rw [h1, show tkI v none = -1 from rfl]
      repeat' (first | (apply T.mv; apply rfl; apply rfl) | (apply T.asn; apply rfl; apply rfl) | (apply T.len; apply rfl; apply rfl) | (apply T.eql; apply rfl; apply rfl; apply rfl) | (apply T.pickT; apply rfl; apply rfl; apply rfl) | with_reducible refine Sr.nil ?_ | (apply T.ungV; apply rfl; (first | with_reducible rfl | decide)) | (apply T.retW; apply rfl) | (with_reducible apply T.ofRet) | fail)
      exact ⟨_, PSub.refl _, by rw [decide_eq_false (by omega)], rfl⟩
    | some r =>
      rw [ht] at h1
      have h2 := take1_len ht
      rw [show tkI v (some r) = ((v.length - r.length : Nat) : Int) from rfl]
      have h3 : shapedX Lib.validD v = decide (((v.length - r.length : Nat) : Int) = (v.length : Nat)) := by
        rw [h1]
        cases r with
        | nil => simp
        | cons a r =>
          simp only [List.length_cons] at h2 ⊢
          exact (decide_eq_false (by omega)).symm
      repeat' (first | (apply T.mv; apply rfl; apply rfl) | (apply T.asn; apply rfl; apply rfl) | (apply T.len; apply rfl; apply rfl) | (apply T.eql; apply rfl; apply rfl; apply rfl) | (apply T.pickT; apply rfl; apply rfl; apply rfl) | with_reducible refine Sr.nil ?_ | (apply T.ungV; apply rfl; (first | with_reducible rfl | decide)) | (apply T.retW; apply rfl) | (with_reducible apply T.ofRet) | fail)
      exact ⟨_, PSub.refl _, by rw [h3], rfl⟩
  · have h1 : v = [] := List.eq_nil_of_length_eq_zero (by omega)
    subst h1
    repeat' (first | (apply T.mv; apply rfl; apply rfl) | (apply T.asn; apply rfl; apply rfl) | (apply T.len; apply rfl; apply rfl) | (apply T.gtr; apply rfl; apply rfl; apply rfl) | (apply T.pickF; apply rfl; apply rfl; apply rfl) | with_reducible refine Sr.nil ?_ | with_reducible refine S.seq ?_ | with_reducible refine S.reg ?_ | (apply T.skip; apply rfl; (first | with_reducible rfl | decide); apply rfl) | (apply T.retW; apply rfl) | fail)
    exact ⟨_, PSub.refl _, rfl, rfl⟩
end
end Go.Proofs.YtnimcchalinihaaDoor
/- The walks of the document's looks at nodes: what stands behind a value, what stands in it. -/
namespace Go.Proofs.YtnimcchalinihaaDoor
open Sg Go.IntWalk
set_option maxRecDepth 100000
set_option maxHeartbeats 4000000
section
variable {F : World} {M : List Nat} {H : List Res} {v : List Nd} {p : Nat} {oa : Option Addr} {oc n : Nat}
theorem refBehind_spec : ∀ (L : Nat) {x r : List Nd} {p : Nat} {H : List Res} [Rd F M H oa (v.flatMap ndV)], x.length ≤ L → v.length = n → n ≤ 1000000 → Fo 1 x → v.drop p = x ++ r →
    Meets Tryd.prog 88 [.slice oa n oc, .int .i64 p] F M H (fun e H' => e = .returned (.int .i64 (p + x.length : Nat)) ∧ H' = H) := by
  intro L
  induction L with
  | zero =>
    intro x r p H _ hL hn hl hx hd
    have := hx.pos
    omega
  | succ L IH =>
    intro x r p H _ hL hn hl hx hd
    subst hn
    refine Meets.enter Tryd.func88 rfl rfl ?_
    obtain ⟨nn, xs, rfl, ha⟩ := At.of_fo hd hx
    obtain ⟨g1, g2⟩ := drop_head ha.drop
    have g3 : (v.getD p default).kids = (xs.length : Int) := by rw [g1, ha.kids]
    have h0 := drop_le hd hx.pos
    have hxl : (nn :: xs.flatten).length = xs.flatten.length + 1 := rfl
    have hxs := (Fo.of ha.fo).le
    have hxb : xs.length ≤ 1000000 := by rw [hxl] at h0; omega
    rw [hxl] at hL h0 ⊢
    repeat' (first | (apply T.mv; apply rfl; apply rfl) | (apply T.asn; apply rfl; apply rfl) | (apply T.len; apply rfl; apply rfl) | (apply T.lss; apply rfl; apply rfl; apply rfl) | (apply T.geq; apply rfl; apply rfl; apply rfl) | (apply T.addI; apply rfl; apply rfl; omega; apply rfl) | (apply T.pickF; apply rfl; apply rfl; apply rfl) | with_reducible refine Sr.nil ?_ | with_reducible refine S.seq ?_ | with_reducible refine S.block ?_ | with_reducible refine S.reg ?_ | with_reducible refine S.skip ?_ | (apply T.ungV; apply rfl; (first | with_reducible rfl | decide)) | (apply S.condQ; apply rfl; all_goals (intro _; try (exfalso; first | omega | with_reducible contradiction))) | (apply T.gcase; apply rfl; apply rfl; all_goals (intro _; try (exfalso; first | omega | with_reducible contradiction))) | fail)
    refine S.loopE 0 [0, 1] (fun R b' μ H' e => ∃ (i q : Nat), H' = R ∧ e = (5, .int .i64 q) :: (6, .int .i64 i) :: b' ∧ (i ≤ xs.length ∧ q = p + 1 + (xs.take i).flatten.length) ∧ μ = xs.length - i) rfl rfl ?_ _ _ ⟨0, p + 1, rfl, rfl, ⟨Nat.zero_le _, rfl⟩, rfl⟩ (by repeat' first | exact trivial | refine And.intro rfl ?_)
    rintro _ _ _ ⟨i, q, rfl, rfl, ⟨h1, h3⟩, rfl⟩ ih
    by_cases h4 : i < xs.length
    · have hk := ha.kid h4
      rw [← h3] at hk
      have hx2 := ha.fo _ (List.getElem_mem h4)
      have ht := take_flat_succ h4
      have hle : xs[i].length ≤ xs.flatten.length := by
        have h5 : xs.flatten = (xs.take i).flatten ++ (xs.drop i).flatten := by rw [← List.flatten_append, List.take_append_drop]
        rw [h5, List.drop_eq_getElem_cons h4, List.flatten_cons, List.length_append, List.length_append]
        omega
      repeat' (first | (apply T.mv; apply rfl; apply rfl) | (apply T.lss; apply rfl; apply rfl; apply rfl) | (apply T.geq; apply rfl; apply rfl; apply rfl) | (apply T.ixF; apply rfl; apply rfl; infer_instance; exact (fun _ => rfl); apply rfl; omega; omega; apply rfl) | (apply T.fieldAddrF; apply rfl; infer_instance; exact (fun _ => rfl); apply rfl; omega; apply rfl) | (apply T.loadF; apply rfl; apply rfl; infer_instance; exact (fun _ => rfl); apply rfl; exact getD_some (by omega); apply rfl; apply rfl) | (apply T.pickT; apply rfl; apply rfl; apply rfl) | with_reducible refine Sr.nil ?_ | with_reducible refine S.seq ?_ | with_reducible refine S.block ?_ | with_reducible refine S.reg ?_ | with_reducible refine S.skip ?_ | (apply T.ungV; apply rfl; (first | with_reducible rfl | decide)) | (apply S.condQ; apply rfl; all_goals (intro _; try (exfalso; first | omega | with_reducible contradiction))) | (apply T.gcase; apply rfl; apply rfl; all_goals (intro _; try (exfalso; first | omega | with_reducible contradiction))) | fail)
      refine T.call rfl rfl (IH (by omega) rfl hl hx2 hk) ?_
      rintro _ _ ⟨rfl, hH⟩
      have hH2 := hH.symm
      subst hH2
      repeat' (first | (apply T.mv; apply rfl; apply rfl) | (apply T.asn; apply rfl; apply rfl) | (apply T.addI; apply rfl; apply rfl; omega; apply rfl) | with_reducible refine Sr.nil ?_ | with_reducible refine S.reg ?_ | with_reducible refine S.inBlock ?_ | (with_reducible apply T.ofRet) | fail)
      exact ih _ _ _ _ ⟨i + 1, q + xs[i].length, rfl, rfl, ⟨h4, by omega⟩, rfl⟩ (by omega) (by repeat' first | exact trivial | refine And.intro rfl ?_)
    · obtain rfl : i = xs.length := by omega
      rw [List.take_length] at h3
      repeat' (first | (apply T.mv; apply rfl; apply rfl) | (apply T.asn; apply rfl; apply rfl) | (apply T.lss; apply rfl; apply rfl; apply rfl) | (apply T.ixF; apply rfl; apply rfl; infer_instance; exact (fun _ => rfl); apply rfl; omega; omega; apply rfl) | (apply T.fieldAddrF; apply rfl; infer_instance; exact (fun _ => rfl); apply rfl; omega; apply rfl) | (apply T.loadF; apply rfl; apply rfl; infer_instance; exact (fun _ => rfl); apply rfl; exact getD_some (by omega); apply rfl; apply rfl) | (apply T.pickF; apply rfl; apply rfl; apply rfl) | with_reducible refine Sr.nil ?_ | with_reducible refine S.seq ?_ | with_reducible refine S.reg ?_ | (apply S.exit; apply rfl) | (apply T.skip; apply rfl; (first | with_reducible rfl | decide); apply rfl) | (apply S.condFV; apply rfl; (first | with_reducible rfl | decide)) | (apply T.gcase; apply rfl; apply rfl; all_goals (intro _; try (exfalso; first | omega | with_reducible contradiction))) | (apply T.retW; apply rfl) | fail)
      all_goals exact ⟨_, PSub.refl _, by rw [h3]; congr 3; omega, rfl⟩
theorem refKids_spec {nn : Nd} {xs : List (List Nd)} {r : List Nd} [Rd F M H oa (v.flatMap ndV)] (hn : v.length = n) (hl : n ≤ 1000000) (ha : At v p nn xs r) :
    Meets Tryd.prog 60 [.slice oa n oc, .int .i64 p] F M H (fun e H' => ∃ ka kc, e = .returned (.slice ka xs.length kc) ∧ H' = .row ka kc 3 1 xs.length ((offs (p + 1) xs).map nV) :: H) := by
  subst hn
  refine Meets.enter Tryd.func60 rfl rfl ?_
  obtain ⟨g1, g2⟩ := drop_head ha.drop
  have g3 : (v.getD p default).kids = (xs.length : Int) := by rw [g1, ha.kids]
  have g4 : xs.length < v.length := by
    have h1 := (Fo.of ha.fo).le
    have h2 := congrArg List.length ha.drop
    simp only [List.length_drop, List.length_cons, List.length_append] at h2
    omega
  refine S.nilrow 3 1 ?_
  repeat' (first | (apply T.mv; apply rfl; apply rfl) | (apply T.asn; apply rfl; apply rfl) | (apply T.len; apply rfl; apply rfl) | (apply T.lss; apply rfl; apply rfl; apply rfl) | (apply T.geq; apply rfl; apply rfl; apply rfl) | (apply T.addI; apply rfl; apply rfl; omega; apply rfl) | (apply T.pickF; apply rfl; apply rfl; apply rfl) | with_reducible refine Sr.nil ?_ | with_reducible refine S.seq ?_ | with_reducible refine S.block ?_ | with_reducible refine S.reg ?_ | with_reducible refine S.skip ?_ | (apply T.ungV; apply rfl; (first | with_reducible rfl | decide)) | (apply S.condQ; apply rfl; all_goals (intro _; try (exfalso; first | omega | with_reducible contradiction))) | (apply T.gcase; apply rfl; apply rfl; all_goals (intro _; try (exfalso; first | omega | with_reducible contradiction))) | fail)
  refine S.frontR none ?_
  refine S.loopE 1 [0, 1] (fun R b' μ H' e => ∃ (i : Nat) (ka : Option Addr) (kc m : Nat) (q : Nat), H' = .row ka kc 3 1 m ((offs (p + 1) (xs.take i)).map nV) :: R ∧ e = (5, .slice ka m kc) :: (6, .int .i64 q) :: (7, .int .i64 i) :: b' ∧ (i ≤ xs.length ∧ m = i ∧ q = p + 1 + (xs.take i).flatten.length) ∧ μ = xs.length - i) rfl rfl ?_ _ _ ⟨0, none, 0, 0, p + 1, rfl, rfl, ⟨Nat.zero_le _, rfl, rfl⟩, rfl⟩ (by repeat' first | exact trivial | refine And.intro rfl ?_)
  rintro _ _ _ ⟨i, ka, kc, m, q, rfl, rfl, ⟨h1, h2, h3⟩, rfl⟩ ih
  by_cases h4 : i < xs.length
  · have hk := ha.kid h4
    rw [← h3] at hk
    have hx := ha.fo _ (List.getElem_mem h4)
    have hq := drop_le hk hx.pos
    have hxp := hx.pos
    have hs := offs_snoc (p + 1) (xs.take i) xs[i]
    rw [← List.take_succ_eq_append_getElem h4, ← h3] at hs
    have ht := take_flat_succ h4
    subst h2
    repeat' (first | (apply T.mv; apply rfl; apply rfl) | (apply T.asn; apply rfl; apply rfl) | (apply T.len; apply rfl; apply rfl) | (apply T.lss; apply rfl; apply rfl; apply rfl) | (apply T.geq; apply rfl; apply rfl; apply rfl) | (apply T.ixF; apply rfl; apply rfl; infer_instance; exact (fun _ => rfl); apply rfl; omega; omega; apply rfl) | (apply T.fieldAddrF; apply rfl; infer_instance; exact (fun _ => rfl); apply rfl; omega; apply rfl) | (apply T.loadF; apply rfl; apply rfl; infer_instance; exact (fun _ => rfl); apply rfl; exact getD_some (by omega); apply rfl; apply rfl) | (apply T.pickT; apply rfl; apply rfl; apply rfl) | (apply T.bs; apply rfl; apply rfl; apply rfl; apply rfl; apply rfl; apply rfl; intro nb) | (apply T.appendN; apply rfl; apply rfl; infer_instance; apply rfl; (constructor <;> omega); apply rfl; intro na nc) | with_reducible refine Sr.nil ?_ | with_reducible refine S.seq ?_ | with_reducible refine S.block ?_ | with_reducible refine S.reg ?_ | with_reducible refine S.skip ?_ | (apply T.ungV; apply rfl; (first | with_reducible rfl | decide)) | (apply S.condQ; apply rfl; all_goals (intro _; try (exfalso; first | omega | with_reducible contradiction))) | (apply T.gcase; apply rfl; apply rfl; all_goals (intro _; try (exfalso; first | omega | with_reducible contradiction))) | fail)
    refine T.call rfl rfl (refBehind_spec _ (Nat.le_refl _) rfl (by omega) hx hk) ?_
    rintro _ _ ⟨rfl, rfl⟩
    have hmap : (offs (p + 1) (xs.take m)).map nV ++ [nV q] = (offs (p + 1) (xs.take (m + 1))).map nV := by rw [hs]; simp
    repeat' (first | (apply T.mv; apply rfl; apply rfl) | (apply T.asn; apply rfl; apply rfl) | (apply T.addI; apply rfl; apply rfl; omega; apply rfl) | with_reducible refine Sr.nil ?_ | with_reducible refine S.reg ?_ | with_reducible refine S.inBlock ?_ | (with_reducible apply T.ofRet) | fail)
    exact ih _ _ _ _ ⟨m + 1, na, nc, m + 1, q + xs[m].length, by rw [hs], rfl, ⟨h4, rfl, by omega⟩, rfl⟩ (by omega) (by repeat' first | exact trivial | refine And.intro rfl ?_)
  · obtain rfl : i = xs.length := by omega
    rw [List.take_length]
    subst h2
    repeat' (first | (apply T.mv; apply rfl; apply rfl) | (apply T.asn; apply rfl; apply rfl) | (apply T.lss; apply rfl; apply rfl; apply rfl) | (apply T.ixF; apply rfl; apply rfl; infer_instance; exact (fun _ => rfl); apply rfl; omega; omega; apply rfl) | (apply T.fieldAddrF; apply rfl; infer_instance; exact (fun _ => rfl); apply rfl; omega; apply rfl) | (apply T.loadF; apply rfl; apply rfl; infer_instance; exact (fun _ => rfl); apply rfl; exact getD_some (by omega); apply rfl; apply rfl) | (apply T.pickF; apply rfl; apply rfl; apply rfl) | with_reducible refine Sr.nil ?_ | with_reducible refine S.seq ?_ | with_reducible refine S.reg ?_ | (apply S.exit; apply rfl) | (apply T.skip; apply rfl; (first | with_reducible rfl | decide); apply rfl) | (apply S.condFV; apply rfl; (first | with_reducible rfl | decide)) | (apply T.gcase; apply rfl; apply rfl; all_goals (intro _; try (exfalso; first | omega | with_reducible contradiction))) | (apply T.retW; apply rfl) | fail)
    all_goals exact ⟨_, PSub.refl _, _, _, rfl, rfl⟩
end
end Go.Proofs.YtnimcchalinihaaDoor
/- The walks of the document's printing of texts and values. -/
namespace Go.Proofs.YtnimcchalinihaaDoor
open Sg Go.IntWalk
set_option maxRecDepth 100000
set_option maxHeartbeats 4000000
section
variable {F : World} {M : List Nat} {H : List Res} {v : List Nd} {oa : Option Addr} {oc n : Nat} {s : List UInt8}
theorem hexL_g : ∀ k : Fin 16, hexL.getD k.val 0 = hexD k.val := by decide
theorem refQuoted_spec (hl : s.length ≤ 10000000) : Meets Tryd.prog 59 [sV s] F M H (fun e H' => e = .returned (sV (quoS s)) ∧ H' = H) := by
  refine Meets.enter Tryd.func59 rfl rfl ?_
  repeat' (first | (apply T.asn; apply rfl; apply rfl) | (apply T.bs; apply rfl; apply rfl; apply rfl; apply rfl; apply rfl; apply rfl; intro nb) | with_reducible refine Sr.nil ?_ | with_reducible refine S.seq ?_ | with_reducible refine S.block ?_ | with_reducible refine S.reg ?_ | fail)
  refine S.rowOfN (n := 1) (sz := 1) rfl (by decide) ?_
  refine S.loopE 1 [0, 3] (fun R b' μ H' e => ∃ (i : Nat) (ba : Option Addr) (bc : Nat) (ys : List UInt8), H' = .row ba bc 5 1 ys.length (ys.map bV) :: R ∧ e = (4, .slice ba ys.length bc) :: (5, .int .i64 i) :: b' ∧ (i ≤ s.length ∧ ys = 34 :: (s.take i).flatMap qB) ∧ μ = s.length - i) rfl rfl ?_ _ _ ⟨0, _, 1, [34], rfl, rfl, ⟨Nat.zero_le _, rfl⟩, rfl⟩ (by repeat' first | exact trivial | refine And.intro rfl ?_)
  rintro _ _ _ ⟨i, ba, bc, ys, rfl, rfl, ⟨h1, h2⟩, rfl⟩ ih
  have hyl : ys.length ≤ 6 * i + 1 := by
    have g1 := flatMap_len qB_len (s.take i)
    have g3 : (s.take i).length ≤ i := List.length_take_le ..
    rw [h2, List.length_cons]
    omega
  by_cases h3 : i < s.length
  · have hq := flat_next h3
    have l1 : ∀ a : UInt8, (ys ++ [a]).length = ys.length + 1 := fun _ => List.length_append
    have l2 : ∀ a b : UInt8, (ys ++ [a, b]).length = ys.length + 2 := fun _ _ => List.length_append
    have l6 : ∀ a b c d e f : UInt8, (ys ++ [a, b, c, d, e, f]).length = ys.length + 6 := fun _ _ _ _ _ _ => List.length_append
    have hlt := (s.getD i 0).toNat_lt
    generalize hc : s.getD i 0 = ch at *
    by_cases c1 : ch.toNat = 34 ∨ ch.toNat = 92
    · have hqb : qB ch = [92, ch] := by unfold qB; rw [if_pos c1]
      repeat' (first | (apply T.sidx; apply rfl; apply rfl; omega; apply rfl; rw [hc]) | (apply Sr.same; refine T.appendL (g := bV) (us := [92, ch]) rfl rfl inferInstance rfl (fun _ => rfl) rfl (by constructor <;> omega) rfl ?_; intro na nc) | (apply T.slen; apply rfl; apply rfl) | (apply T.mv; apply rfl; apply rfl) | (apply T.asn; apply rfl; apply rfl) | (apply T.lss; apply rfl; apply rfl; apply rfl) | (apply T.eql; apply rfl; apply rfl; apply rfl) | (apply T.addI; apply rfl; apply rfl; omega; apply rfl) | (apply T.pickT; apply rfl; apply rfl; apply rfl) | (apply T.pickF; apply rfl; apply rfl; apply rfl) | (apply T.convI64; apply rfl; omega; apply rfl) | (apply T.bs; apply rfl; apply rfl; apply rfl; apply rfl; apply rfl; apply rfl; intro nb) | with_reducible refine Sr.nil ?_ | with_reducible refine S.seq ?_ | with_reducible refine S.block ?_ | with_reducible refine S.reg ?_ | with_reducible refine S.skip ?_ | with_reducible refine S.inBlock ?_ | (apply T.ungV; apply rfl; (first | with_reducible rfl | decide)) | (apply T.skip; apply rfl; (first | with_reducible rfl | decide); apply rfl) | (apply S.condTV; apply rfl; (first | with_reducible rfl | decide)) | (apply S.condQ; apply rfl; all_goals (intro _; try (exfalso; first | omega | with_reducible contradiction))) | (apply T.gcase; apply rfl; apply rfl; all_goals (intro _; try (exfalso; first | omega | with_reducible contradiction))) | fail)
      all_goals
        rw [← l2 92 ch]
        exact ih _ _ _ _ ⟨i + 1, na, nc, ys ++ [92, ch], rfl, rfl, ⟨h3, by rw [h2, hq, hqb]; rfl⟩, rfl⟩ (by omega) (by repeat' first | exact trivial | refine And.intro rfl ?_)
    by_cases c2 : ch.toNat = 8
    · have hqb : qB ch = [92, 98] := by unfold qB; rw [if_neg c1, if_pos c2]
      repeat' (first | (apply T.sidx; apply rfl; apply rfl; omega; apply rfl; rw [hc]) | (apply Sr.same; refine T.appendL (g := bV) (us := [92, 98]) rfl rfl inferInstance rfl (fun _ => rfl) rfl (by constructor <;> omega) rfl ?_; intro na nc) | (apply T.slen; apply rfl; apply rfl) | (apply T.mv; apply rfl; apply rfl) | (apply T.asn; apply rfl; apply rfl) | (apply T.lss; apply rfl; apply rfl; apply rfl) | (apply T.eql; apply rfl; apply rfl; apply rfl) | (apply T.addI; apply rfl; apply rfl; omega; apply rfl) | (apply T.pickF; apply rfl; apply rfl; apply rfl) | (apply T.convI64; apply rfl; omega; apply rfl) | (apply T.bs; apply rfl; apply rfl; apply rfl; apply rfl; apply rfl; apply rfl; intro nb) | with_reducible refine Sr.nil ?_ | with_reducible refine S.seq ?_ | with_reducible refine S.block ?_ | with_reducible refine S.reg ?_ | with_reducible refine S.skip ?_ | with_reducible refine S.inBlock ?_ | (apply T.ungV; apply rfl; (first | with_reducible rfl | decide)) | (apply S.condQ; apply rfl; all_goals (intro _; try (exfalso; first | omega | with_reducible contradiction))) | (apply T.gcase; apply rfl; apply rfl; all_goals (intro _; try (exfalso; first | omega | with_reducible contradiction))) | fail)
      all_goals
        rw [← l2 92 98]
        exact ih _ _ _ _ ⟨i + 1, na, nc, ys ++ [92, 98], rfl, rfl, ⟨h3, by rw [h2, hq, hqb]; rfl⟩, rfl⟩ (by omega) (by repeat' first | exact trivial | refine And.intro rfl ?_)
    by_cases c3 : ch.toNat = 12
    · have hqb : qB ch = [92, 102] := by unfold qB; rw [if_neg c1, if_neg c2, if_pos c3]
      repeat' (first | (apply T.sidx; apply rfl; apply rfl; omega; apply rfl; rw [hc]) | (apply Sr.same; refine T.appendL (g := bV) (us := [92, 102]) rfl rfl inferInstance rfl (fun _ => rfl) rfl (by constructor <;> omega) rfl ?_; intro na nc) | (apply T.slen; apply rfl; apply rfl) | (apply T.mv; apply rfl; apply rfl) | (apply T.asn; apply rfl; apply rfl) | (apply T.lss; apply rfl; apply rfl; apply rfl) | (apply T.eql; apply rfl; apply rfl; apply rfl) | (apply T.addI; apply rfl; apply rfl; omega; apply rfl) | (apply T.pickF; apply rfl; apply rfl; apply rfl) | (apply T.convI64; apply rfl; omega; apply rfl) | (apply T.bs; apply rfl; apply rfl; apply rfl; apply rfl; apply rfl; apply rfl; intro nb) | with_reducible refine Sr.nil ?_ | with_reducible refine S.seq ?_ | with_reducible refine S.block ?_ | with_reducible refine S.reg ?_ | with_reducible refine S.skip ?_ | with_reducible refine S.inBlock ?_ | (apply T.ungV; apply rfl; (first | with_reducible rfl | decide)) | (apply S.condQ; apply rfl; all_goals (intro _; try (exfalso; first | omega | with_reducible contradiction))) | (apply T.gcase; apply rfl; apply rfl; all_goals (intro _; try (exfalso; first | omega | with_reducible contradiction))) | fail)
      all_goals
        rw [← l2 92 102]
        exact ih _ _ _ _ ⟨i + 1, na, nc, ys ++ [92, 102], rfl, rfl, ⟨h3, by rw [h2, hq, hqb]; rfl⟩, rfl⟩ (by omega) (by repeat' first | exact trivial | refine And.intro rfl ?_)
    by_cases c4 : ch.toNat = 10
    · have hqb : qB ch = [92, 110] := by unfold qB; rw [if_neg c1, if_neg c2, if_neg c3, if_pos c4]
      repeat' (first | (apply T.sidx; apply rfl; apply rfl; omega; apply rfl; rw [hc]) | (apply Sr.same; refine T.appendL (g := bV) (us := [92, 110]) rfl rfl inferInstance rfl (fun _ => rfl) rfl (by constructor <;> omega) rfl ?_; intro na nc) | (apply T.slen; apply rfl; apply rfl) | (apply T.mv; apply rfl; apply rfl) | (apply T.asn; apply rfl; apply rfl) | (apply T.lss; apply rfl; apply rfl; apply rfl) | (apply T.eql; apply rfl; apply rfl; apply rfl) | (apply T.addI; apply rfl; apply rfl; omega; apply rfl) | (apply T.pickF; apply rfl; apply rfl; apply rfl) | (apply T.convI64; apply rfl; omega; apply rfl) | (apply T.bs; apply rfl; apply rfl; apply rfl; apply rfl; apply rfl; apply rfl; intro nb) | with_reducible refine Sr.nil ?_ | with_reducible refine S.seq ?_ | with_reducible refine S.block ?_ | with_reducible refine S.reg ?_ | with_reducible refine S.skip ?_ | with_reducible refine S.inBlock ?_ | (apply T.ungV; apply rfl; (first | with_reducible rfl | decide)) | (apply S.condQ; apply rfl; all_goals (intro _; try (exfalso; first | omega | with_reducible contradiction))) | (apply T.gcase; apply rfl; apply rfl; all_goals (intro _; try (exfalso; first | omega | with_reducible contradiction))) | fail)
      all_goals
        rw [← l2 92 110]
        exact ih _ _ _ _ ⟨i + 1, na, nc, ys ++ [92, 110], rfl, rfl, ⟨h3, by rw [h2, hq, hqb]; rfl⟩, rfl⟩ (by omega) (by repeat' first | exact trivial | refine And.intro rfl ?_)
    by_cases c5 : ch.toNat = 13
    · have hqb : qB ch = [92, 114] := by unfold qB; rw [if_neg c1, if_neg c2, if_neg c3, if_neg c4, if_pos c5]
      repeat' (first | (apply T.sidx; apply rfl; apply rfl; omega; apply rfl; rw [hc]) | (apply Sr.same; refine T.appendL (g := bV) (us := [92, 114]) rfl rfl inferInstance rfl (fun _ => rfl) rfl (by constructor <;> omega) rfl ?_; intro na nc) | (apply T.slen; apply rfl; apply rfl) | (apply T.mv; apply rfl; apply rfl) | (apply T.asn; apply rfl; apply rfl) | (apply T.lss; apply rfl; apply rfl; apply rfl) | (apply T.eql; apply rfl; apply rfl; apply rfl) | (apply T.addI; apply rfl; apply rfl; omega; apply rfl) | (apply T.pickF; apply rfl; apply rfl; apply rfl) | (apply T.convI64; apply rfl; omega; apply rfl) | (apply T.bs; apply rfl; apply rfl; apply rfl; apply rfl; apply rfl; apply rfl; intro nb) | with_reducible refine Sr.nil ?_ | with_reducible refine S.seq ?_ | with_reducible refine S.block ?_ | with_reducible refine S.reg ?_ | with_reducible refine S.skip ?_ | with_reducible refine S.inBlock ?_ | (apply T.ungV; apply rfl; (first | with_reducible rfl | decide)) | (apply S.condQ; apply rfl; all_goals (intro _; try (exfalso; first | omega | with_reducible contradiction))) | (apply T.gcase; apply rfl; apply rfl; all_goals (intro _; try (exfalso; first | omega | with_reducible contradiction))) | fail)
      all_goals
        rw [← l2 92 114]
        exact ih _ _ _ _ ⟨i + 1, na, nc, ys ++ [92, 114], rfl, rfl, ⟨h3, by rw [h2, hq, hqb]; rfl⟩, rfl⟩ (by omega) (by repeat' first | exact trivial | refine And.intro rfl ?_)
    by_cases c6 : ch.toNat = 9
    · have hqb : qB ch = [92, 116] := by unfold qB; rw [if_neg c1, if_neg c2, if_neg c3, if_neg c4, if_neg c5, if_pos c6]
      repeat' (first | (apply T.sidx; apply rfl; apply rfl; omega; apply rfl; rw [hc]) | (apply Sr.same; refine T.appendL (g := bV) (us := [92, 116]) rfl rfl inferInstance rfl (fun _ => rfl) rfl (by constructor <;> omega) rfl ?_; intro na nc) | (apply T.slen; apply rfl; apply rfl) | (apply T.mv; apply rfl; apply rfl) | (apply T.asn; apply rfl; apply rfl) | (apply T.lss; apply rfl; apply rfl; apply rfl) | (apply T.eql; apply rfl; apply rfl; apply rfl) | (apply T.addI; apply rfl; apply rfl; omega; apply rfl) | (apply T.pickF; apply rfl; apply rfl; apply rfl) | (apply T.convI64; apply rfl; omega; apply rfl) | (apply T.bs; apply rfl; apply rfl; apply rfl; apply rfl; apply rfl; apply rfl; intro nb) | with_reducible refine Sr.nil ?_ | with_reducible refine S.seq ?_ | with_reducible refine S.block ?_ | with_reducible refine S.reg ?_ | with_reducible refine S.skip ?_ | with_reducible refine S.inBlock ?_ | (apply T.ungV; apply rfl; (first | with_reducible rfl | decide)) | (apply S.condQ; apply rfl; all_goals (intro _; try (exfalso; first | omega | with_reducible contradiction))) | (apply T.gcase; apply rfl; apply rfl; all_goals (intro _; try (exfalso; first | omega | with_reducible contradiction))) | fail)
      all_goals
        rw [← l2 92 116]
        exact ih _ _ _ _ ⟨i + 1, na, nc, ys ++ [92, 116], rfl, rfl, ⟨h3, by rw [h2, hq, hqb]; rfl⟩, rfl⟩ (by omega) (by repeat' first | exact trivial | refine And.intro rfl ?_)
    by_cases c7 : ch.toNat < 32
    · have hqb : qB ch = [92, 117, 48, 48, hexD (ch.toNat / 16), hexD (ch.toNat % 16)] := by unfold qB; rw [if_neg c1, if_neg c2, if_neg c3, if_neg c4, if_neg c5, if_neg c6, if_pos c7]
      have x1 : hexL.getD (ch.toNat / 16) 0 = hexD (ch.toNat / 16) := hexL_g ⟨ch.toNat / 16, by omega⟩
      have x2 : hexL.getD (ch.toNat % 16) 0 = hexD (ch.toNat % 16) := hexL_g ⟨ch.toNat % 16, by omega⟩
      have q1 : (ch.toNat : Int) / 16 = ((ch.toNat / 16 : Nat) : Int) := by omega
      have q2 : (ch.toNat : Int) % 16 = ((ch.toNat % 16 : Nat) : Int) := by omega
      repeat' (first | (apply T.sidx; apply rfl; apply rfl; omega; apply rfl; rw [hc]) | (apply T.slen; apply rfl; apply rfl) | (apply T.mv; apply rfl; apply rfl) | (apply T.asn; apply rfl; apply rfl) | (apply T.lss; apply rfl; apply rfl; apply rfl) | (apply T.eql; apply rfl; apply rfl; apply rfl) | (apply T.pickF; apply rfl; apply rfl; apply rfl) | (apply T.convI64; apply rfl; omega; apply rfl) | with_reducible refine Sr.nil ?_ | with_reducible refine S.seq ?_ | with_reducible refine S.block ?_ | with_reducible refine S.reg ?_ | with_reducible refine S.skip ?_ | (apply T.ungV; apply rfl; (first | with_reducible rfl | decide)) | (apply S.condQ; apply rfl; all_goals (intro _; try (exfalso; first | omega | with_reducible contradiction))) | (apply T.gcase; apply rfl; apply rfl; all_goals (intro _; try (exfalso; first | omega | with_reducible contradiction))) | fail)
      (apply S.draw; (case Hs => exact []); (case es => exact  [9, 10]); (case n => exact  12); (case hn => rfl))
      repeat' (first | (apply Sr.same; refine T.quoI64 (m := ch.toNat) (n := 16) rfl rfl (by omega) (by omega) rfl ?_) | (apply Sr.same; refine T.remI64 (m := ch.toNat) (n := 16) rfl rfl (by omega) rfl ?_) | (apply Sr.same; refine T.sidx (a := hexL) (i := ch.toNat / 16) rfl rfl (by show _ < 16; omega) rfl ?_; rw [x1]) | (apply Sr.same; refine T.sidx (a := hexL) (i := ch.toNat % 16) rfl rfl (by show _ < 16; omega) rfl ?_; rw [x2]) | (apply Sr.same; refine T.appendL (g := bV) (us := [92, 117, 48, 48, hexD (ch.toNat / 16), hexD (ch.toNat % 16)]) rfl rfl inferInstance rfl (fun _ => rfl) rfl (by constructor <;> omega) rfl ?_; intro na nc) | (apply T.mv; apply rfl; apply rfl) | (apply T.asn; apply rfl; apply rfl) | (apply T.addI; apply rfl; apply rfl; omega; apply rfl) | (apply T.bs; apply rfl; apply rfl; apply rfl; apply rfl; apply rfl; apply rfl; intro nb) | with_reducible refine Sr.nil ?_ | with_reducible refine S.reg ?_ | with_reducible refine S.inBlock ?_ | (apply SA.qn; apply rfl; apply rfl; apply rfl; apply rfl; kernel_rfl) | (apply SA.qz; apply rfl; apply rfl; apply rfl; apply rfl; kernel_rfl) | (apply SA.en; apply rfl; apply rfl; kernel_rfl) | (apply SA.done; apply rfl; kernel_rfl) | (apply SK.intro; (first | exact fun _ h => h | exact fun _ h => St.psub h (by ((repeat (first | dsimp only [List.set_cons_zero] | dsimp only [List.set_cons_succ])); repeat' first | exact PSub.refl _ | exact PSub.nil | (apply PSub.take; (repeat' first | (with_reducible exact pick_hd) | (with_reducible apply pick_tl))) | (with_reducible apply PSub.drop) | ((apply PSub.take); (repeat' first | exact pick_hd | (apply pick_tl))))))) | fail)
      skip
      rw [← l6 92 117 48 48 (hexD (ch.toNat / 16)) (hexD (ch.toNat % 16))]
      exact ih _ _ _ _ ⟨i + 1, na, nc, ys ++ [92, 117, 48, 48, hexD (ch.toNat / 16), hexD (ch.toNat % 16)], rfl, rfl, ⟨h3, by rw [h2, hq, hqb]; rfl⟩, rfl⟩ (by omega) (by repeat' first | exact trivial | refine And.intro rfl ?_)
    have hqb : qB ch = [ch] := by unfold qB; rw [if_neg c1, if_neg c2, if_neg c3, if_neg c4, if_neg c5, if_neg c6, if_neg c7]
    repeat' (first | (apply T.sidx; apply rfl; apply rfl; omega; apply rfl; rw [hc]) | (apply Sr.same; refine T.appendL (g := bV) (us := [ch]) rfl rfl inferInstance rfl (fun _ => rfl) rfl (by constructor <;> omega) rfl ?_; intro na nc) | (apply T.slen; apply rfl; apply rfl) | (apply T.mv; apply rfl; apply rfl) | (apply T.asn; apply rfl; apply rfl) | (apply T.lss; apply rfl; apply rfl; apply rfl) | (apply T.eql; apply rfl; apply rfl; apply rfl) | (apply T.addI; apply rfl; apply rfl; omega; apply rfl) | (apply T.pickF; apply rfl; apply rfl; apply rfl) | (apply T.convI64; apply rfl; omega; apply rfl) | (apply T.bs; apply rfl; apply rfl; apply rfl; apply rfl; apply rfl; apply rfl; intro nb) | with_reducible refine Sr.nil ?_ | with_reducible refine S.seq ?_ | with_reducible refine S.block ?_ | with_reducible refine S.reg ?_ | with_reducible refine S.skip ?_ | with_reducible refine S.inBlock ?_ | (apply T.ungV; apply rfl; (first | with_reducible rfl | decide)) | (apply S.condQ; apply rfl; all_goals (intro _; try (exfalso; first | omega | with_reducible contradiction))) | (apply T.gcase; apply rfl; apply rfl; all_goals (intro _; try (exfalso; first | omega | with_reducible contradiction))) | fail)
    all_goals
      rw [← l1 ch]
      exact ih _ _ _ _ ⟨i + 1, na, nc, ys ++ [ch], rfl, rfl, ⟨h3, by rw [h2, hq, hqb]; rfl⟩, rfl⟩ (by omega) (by repeat' first | exact trivial | refine And.intro rfl ?_)
  · obtain rfl : i = s.length := by omega
    rw [List.take_length] at h2
    have l1 : ∀ a : UInt8, (ys ++ [a]).length = ys.length + 1 := fun _ => List.length_append
    have h12 : ys ++ [34] = quoS s := by rw [h2, quoS]; rfl
    repeat' (first | (apply Sr.same; refine T.appendL (g := bV) (us := [34]) rfl rfl inferInstance rfl (fun _ => rfl) rfl (by constructor <;> omega) rfl ?_; intro na nc) | (apply T.convS; apply rfl; infer_instance; exact l1 34; apply rfl) | (apply T.slen; apply rfl; apply rfl) | (apply T.mv; apply rfl; apply rfl) | (apply T.asn; apply rfl; apply rfl) | (apply T.lss; apply rfl; apply rfl; apply rfl) | (apply T.bs; apply rfl; apply rfl; apply rfl; apply rfl; apply rfl; apply rfl; intro nb) | with_reducible refine Sr.nil ?_ | with_reducible refine S.seq ?_ | with_reducible refine S.reg ?_ | (apply S.exit; apply rfl) | (apply S.condQ; apply rfl; all_goals (intro _; try (exfalso; first | omega | with_reducible contradiction))) | (apply T.retW; apply rfl) | fail)
    exact ⟨_, PSub.drop (PSub.refl _), by rw [← h12], rfl⟩
end
end Go.Proofs.YtnimcchalinihaaDoor
