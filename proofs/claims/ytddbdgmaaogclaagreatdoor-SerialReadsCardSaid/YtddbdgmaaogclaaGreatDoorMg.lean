/- Texts put together by a program: JrfF JrfG RowN JrfH Tree TreeB TreeC TreeD. -/
import Derived.Test.YtddbdgmaaogclaaGreatDoorMf
import Derived.Test.YtddbdgmaaogclaaGreatDoorMd
import Derived.Test.YtddbdgmaaogclaaGreatDoorMa
/- The walks of the document's reader of JSON: escapes of digits. -/
namespace Go.Proofs.YtddbdgmaaogclaaGreatDoor
open Sg Go.IntWalk
set_option maxRecDepth 100000
set_option maxHeartbeats 4000000
/-- What is still to come of a second half. -/
def remX (t : List UInt8) (fr hi a i : Nat) : Gt (List UInt8) :=
  let K : Nat → Gt (List UInt8) := fun d => (fourX t true fr 4 d 0).bind fun e lo => Gt.ok e (utfL (65536 + 1024 * (hi - 55296) + lo - 56320))
  if i = 0 then (signX t fr a 92).bind fun b _ => (signX t fr b 117).bind fun d _ => K d else if i = 1 then (signX t fr (a + 1) 117).bind fun d _ => K d else K (a + 2)
theorem bind_bind {α β γ : Type} (g : Gt α) (f : Nat → α → Gt β) (k : Nat → β → Gt γ) : (g.bind f).bind k = g.bind fun a v => (f a v).bind k := by
  cases g <;> rfl
theorem rem_step {t : List UInt8} {fr hi a i : Nat} (h : a + i < t.length) (hi2 : i < 2) : remX t fr hi a i = if bAt t (a + i) = (if i = 0 then 92 else 117) then remX t fr hi a (i + 1) else .bad 33 fr := by
  rcases (by omega : i = 0 ∨ i = 1) with rfl | rfl
  · unfold remX
    have e92 : (92 : UInt8).toNat = 92 := rfl
    rw [signX_at (p := a) (by omega), e92]
    simp only [if_true, Nat.add_zero, Nat.zero_add, Nat.one_ne_zero, if_false]
    by_cases hb : bAt t a = 92
    · rw [if_pos hb, if_pos hb]
      rfl
    · rw [if_neg hb, if_neg hb]
      rfl
  · unfold remX
    have e117 : (117 : UInt8).toNat = 117 := rfl
    rw [signX_at (p := a + 1) (by omega), e117]
    simp only [if_true, Nat.one_ne_zero, if_false, (by decide : ¬ (1 + 1 = 0)), (by decide : ¬ (1 + 1 = 1))]
    by_cases hb : bAt t (a + 1) = 117
    · rw [if_pos hb, if_pos hb]
      rfl
    · rw [if_neg hb, if_neg hb]
      rfl
theorem rem_end {t : List UInt8} {fr hi a i : Nat} (h : ¬ a + i < t.length) (ha : a + i ≤ t.length) (hi2 : i < 2) : remX t fr hi a i = .bad 31 t.length := by
  rcases (by omega : i = 0 ∨ i = 1) with rfl | rfl
  · unfold remX
    rw [signX_end (p := a) (by omega), show t.length = a by omega]
    rfl
  · unfold remX
    rw [signX_end (p := a + 1) (by omega), show t.length = a + 1 by omega]
    rfl
section
variable {F : World} {M : List Nat} {H : List Res} {t : List UInt8} {p : Nat}
theorem escape_point (hp : p < t.length) (hl : t.length ≤ 1000000000) (h117 : bAt t (p + 1) = 117) : Meets Tryz.prog 174 [sV t, .int .i64 p] F M H (fun e H' => GoE ((escX t p).bind fun a u => .ok a (utfL u)) e ∧ H' = H) := by
  have h6 : p + 1 < t.length := bAt_lt_of (by omega)
  rw [escX_at h6, if_pos h117]
  unfold pointX
  refine Meets.enter Tryz.func174 rfl rfl ?_
  have e1 : (p : Int) + 1 = ((p + 1 : Nat) : Int) := by omega
  have e2 : (p : Int) + 2 = ((p + 2 : Nat) : Int) := by omega
  repeat' (first | (apply T.addI; apply rfl; apply rfl; omega; apply rfl; first | rw [e1] | rw [e2]) | (apply T.mv; apply rfl; apply rfl) | (apply T.alloc; apply rfl; intro nb) | with_reducible refine Sr.nil ?_ | with_reducible refine S.seq ?_ | with_reducible refine S.reg ?_ | fail)
  refine T.call rfl rfl byteAt_spec ?_
  rintro _ _ ⟨rfl, rfl⟩
  rw [byteI_lt h6, h117]
  repeat' (first | (apply T.addI; apply rfl; apply rfl; omega; apply rfl; first | rw [e1] | rw [e2]) | (apply T.mv; apply rfl; apply rfl) | (apply T.asn; apply rfl; apply rfl) | (apply T.eql; apply rfl; apply rfl; apply rfl) | with_reducible refine Sr.nil ?_ | with_reducible refine S.seq ?_ | with_reducible refine S.block ?_ | with_reducible refine S.reg ?_ | (apply S.condTV; apply rfl; (first | with_reducible rfl | decide)) | (apply S.condFV; apply rfl; (first | with_reducible rfl | decide)) | (with_reducible apply T.ofRet) | fail)
  refine T.call rfl rfl (four_spec (low := false) (L := 0) (fr := p) (p := p + 2) rfl (by omega) hl) ?_
  cases hx : fourX t false p 4 (p + 2) 0 with
  | bad c b =>
    have hc := fourX_code hx
    rintro _ _ ⟨rfl, rfl⟩
    repeat' (first | (apply T.mv; apply rfl; apply rfl) | (apply T.asn; apply rfl; apply rfl) | (apply T.fieldAddrZ; apply rfl; apply rfl) | (apply T.load; apply rfl; apply rfl; infer_instance; apply rfl; apply rfl) | (apply T.neq; apply rfl; apply rfl; apply rfl) | (apply T.extract; apply rfl; apply rfl; apply rfl) | (apply T.pickT; apply rfl; apply rfl; apply rfl) | (apply T.storeW; apply rfl; apply rfl; infer_instance; (first | rfl | (simp only [List.length_append, List.length_map, List.length_set, List.length_replicate, List.length_cons, List.length_nil]; first | done | omega)); (first | rfl | (simp only [List.length_append, List.length_map, List.length_set, List.length_replicate, List.length_cons, List.length_nil]; first | done | omega)); (first | rfl | (repeat' first | apply all_nV | apply all_bV | apply all_iV | rfl | apply all_app))) | (apply T.alloc; apply rfl; intro nb) | with_reducible refine Sr.nil ?_ | with_reducible refine S.seq ?_ | with_reducible refine S.reg ?_ | (apply T.skip; apply rfl; (first | with_reducible rfl | decide); apply rfl) | (apply S.condTV; apply rfl; (first | with_reducible rfl | decide)) | (apply T.gcase; apply rfl; apply rfl; all_goals (intro _; try (exfalso; first | omega | with_reducible contradiction))) | (with_reducible apply T.ofRet) | fail)
    refine T.call rfl rfl (utf_spec (u := 0) (by decide)) ?_
    rintro _ _ ⟨rfl, rfl⟩
    repeat' (first | (apply T.fieldAddrZ; apply rfl; apply rfl) | (apply T.loadW; apply rfl; apply rfl; infer_instance; (first | rfl | (simp only [List.length_append, List.length_map, List.length_set, List.length_replicate, List.length_cons, List.length_nil]; first | done | omega)); apply rfl) | (apply T.storeW; apply rfl; apply rfl; infer_instance; (first | rfl | (simp only [List.length_append, List.length_map, List.length_set, List.length_replicate, List.length_cons, List.length_nil]; first | done | omega)); (first | rfl | (simp only [List.length_append, List.length_map, List.length_set, List.length_replicate, List.length_cons, List.length_nil]; first | done | omega)); (first | rfl | (repeat' first | apply all_nV | apply all_bV | apply all_iV | rfl | apply all_app))) | (apply T.store; apply rfl; apply rfl; infer_instance; (first | decide | (simp; omega) | simp); apply rfl) | with_reducible refine Sr.nil ?_ | with_reducible refine S.seq ?_ | with_reducible refine S.reg ?_ | (with_reducible apply T.ofRet) | (apply T.retC; apply rfl; ((repeat' first | apply RV.nil | (apply RV.tmp; apply rfl) | (apply RV.cellW; apply rfl; apply rfl; infer_instance; (first | rfl | (simp only [List.length_append, List.length_map, List.length_set, List.length_replicate, List.length_cons, List.length_nil]; first | done | omega))) | (apply RV.cellP; apply rfl; apply rfl; infer_instance; apply rfl))); apply rfl) | fail)
    exact ⟨_, PSub.drop (PSub.drop (PSub.refl _)), ⟨utfL 0, rfl⟩, rfl⟩
  | ok a hi =>
    obtain ⟨g1, g2⟩ := four_high hx
    have hfa := fourX_fits (t := t) (low := false) (fr := p) (k := 4) (p := p + 2) (u := 0) (by omega) a hi hx
    rintro _ _ ⟨rfl, rfl⟩
    simp only [Gt.bind]
    by_cases hs : hi < 55296 ∨ 57343 < hi
    · rw [if_pos hs]
      by_cases hs1 : hi < 55296
      · repeat' (first | (apply T.mv; apply rfl; apply rfl) | (apply T.asn; apply rfl; apply rfl) | (apply T.fieldAddrZ; apply rfl; apply rfl) | (apply T.load; apply rfl; apply rfl; infer_instance; apply rfl; apply rfl) | (apply T.lss; apply rfl; apply rfl; apply rfl) | (apply T.neq; apply rfl; apply rfl; apply rfl) | (apply T.extract; apply rfl; apply rfl; apply rfl) | (apply T.pickT; apply rfl; apply rfl; apply rfl) | (apply T.pickF; apply rfl; apply rfl; apply rfl) | (apply T.storeW; apply rfl; apply rfl; infer_instance; (first | rfl | (simp only [List.length_append, List.length_map, List.length_set, List.length_replicate, List.length_cons, List.length_nil]; first | done | omega)); (first | rfl | (simp only [List.length_append, List.length_map, List.length_set, List.length_replicate, List.length_cons, List.length_nil]; first | done | omega)); (first | rfl | (repeat' first | apply all_nV | apply all_bV | apply all_iV | rfl | apply all_app))) | (apply T.alloc; apply rfl; intro nb) | with_reducible refine Sr.nil ?_ | with_reducible refine S.seq ?_ | with_reducible refine S.reg ?_ | (apply T.ungV; apply rfl; (first | with_reducible rfl | decide)) | (apply T.skip; apply rfl; (first | with_reducible rfl | decide); apply rfl) | (apply S.condTV; apply rfl; (first | with_reducible rfl | decide)) | (apply T.gcase; apply rfl; apply rfl; all_goals (intro _; try (exfalso; first | omega | with_reducible contradiction))) | (with_reducible apply T.ofRet) | fail)
        refine T.call rfl rfl (utf_spec (u := hi) (by omega)) ?_
        rintro _ _ ⟨rfl, rfl⟩
        repeat' (first | (apply T.fieldAddrZ; apply rfl; apply rfl) | (apply T.loadW; apply rfl; apply rfl; infer_instance; (first | rfl | (simp only [List.length_append, List.length_map, List.length_set, List.length_replicate, List.length_cons, List.length_nil]; first | done | omega)); apply rfl) | (apply T.storeW; apply rfl; apply rfl; infer_instance; (first | rfl | (simp only [List.length_append, List.length_map, List.length_set, List.length_replicate, List.length_cons, List.length_nil]; first | done | omega)); (first | rfl | (simp only [List.length_append, List.length_map, List.length_set, List.length_replicate, List.length_cons, List.length_nil]; first | done | omega)); (first | rfl | (repeat' first | apply all_nV | apply all_bV | apply all_iV | rfl | apply all_app))) | (apply T.store; apply rfl; apply rfl; infer_instance; (first | decide | (simp; omega) | simp); apply rfl) | with_reducible refine Sr.nil ?_ | with_reducible refine S.seq ?_ | with_reducible refine S.reg ?_ | (with_reducible apply T.ofRet) | (apply T.retC; apply rfl; ((repeat' first | apply RV.nil | (apply RV.tmp; apply rfl) | (apply RV.cellW; apply rfl; apply rfl; infer_instance; (first | rfl | (simp only [List.length_append, List.length_map, List.length_set, List.length_replicate, List.length_cons, List.length_nil]; first | done | omega))) | (apply RV.cellP; apply rfl; apply rfl; infer_instance; apply rfl))); apply rfl) | fail)
        exact ⟨_, PSub.drop (PSub.drop (PSub.refl _)), rfl, rfl⟩
      · have hs2 := hs.resolve_left hs1
        repeat' (first | (apply T.mv; apply rfl; apply rfl) | (apply T.asn; apply rfl; apply rfl) | (apply T.fieldAddrZ; apply rfl; apply rfl) | (apply T.load; apply rfl; apply rfl; infer_instance; apply rfl; apply rfl) | (apply T.lss; apply rfl; apply rfl; apply rfl) | (apply T.gtr; apply rfl; apply rfl; apply rfl) | (apply T.neq; apply rfl; apply rfl; apply rfl) | (apply T.extract; apply rfl; apply rfl; apply rfl) | (apply T.pickF; apply rfl; apply rfl; apply rfl) | (apply T.storeW; apply rfl; apply rfl; infer_instance; (first | rfl | (simp only [List.length_append, List.length_map, List.length_set, List.length_replicate, List.length_cons, List.length_nil]; first | done | omega)); (first | rfl | (simp only [List.length_append, List.length_map, List.length_set, List.length_replicate, List.length_cons, List.length_nil]; first | done | omega)); (first | rfl | (repeat' first | apply all_nV | apply all_bV | apply all_iV | rfl | apply all_app))) | (apply T.alloc; apply rfl; intro nb) | with_reducible refine Sr.nil ?_ | with_reducible refine S.seq ?_ | with_reducible refine S.reg ?_ | (apply T.ungV; apply rfl; (first | with_reducible rfl | decide)) | (apply S.condQ; apply rfl; all_goals (intro _; try (exfalso; first | omega | with_reducible contradiction))) | (apply T.gcase; apply rfl; apply rfl; all_goals (intro _; try (exfalso; first | omega | with_reducible contradiction))) | (with_reducible apply T.ofRet) | fail)
        refine T.call rfl rfl (utf_spec (u := hi) (by omega)) ?_
        rintro _ _ ⟨rfl, rfl⟩
        repeat' (first | (apply T.fieldAddrZ; apply rfl; apply rfl) | (apply T.loadW; apply rfl; apply rfl; infer_instance; (first | rfl | (simp only [List.length_append, List.length_map, List.length_set, List.length_replicate, List.length_cons, List.length_nil]; first | done | omega)); apply rfl) | (apply T.storeW; apply rfl; apply rfl; infer_instance; (first | rfl | (simp only [List.length_append, List.length_map, List.length_set, List.length_replicate, List.length_cons, List.length_nil]; first | done | omega)); (first | rfl | (simp only [List.length_append, List.length_map, List.length_set, List.length_replicate, List.length_cons, List.length_nil]; first | done | omega)); (first | rfl | (repeat' first | apply all_nV | apply all_bV | apply all_iV | rfl | apply all_app))) | (apply T.store; apply rfl; apply rfl; infer_instance; (first | decide | (simp; omega) | simp); apply rfl) | with_reducible refine Sr.nil ?_ | with_reducible refine S.seq ?_ | with_reducible refine S.reg ?_ | (with_reducible apply T.ofRet) | (apply T.retC; apply rfl; ((repeat' first | apply RV.nil | (apply RV.tmp; apply rfl) | (apply RV.cellW; apply rfl; apply rfl; infer_instance; (first | rfl | (simp only [List.length_append, List.length_map, List.length_set, List.length_replicate, List.length_cons, List.length_nil]; first | done | omega))) | (apply RV.cellP; apply rfl; apply rfl; infer_instance; apply rfl))); apply rfl) | fail)
        exact ⟨_, PSub.drop (PSub.drop (PSub.refl _)), rfl, rfl⟩
    · rw [if_neg hs]
      have hs1 : ¬ hi < 55296 := fun h => hs (.inl h)
      have hs2 : ¬ 57343 < hi := fun h => hs (.inr h)
      clear hs
      have hQ0 : remX t p hi a 0 = (((signX t p a 92).bind fun b _ => (signX t p b 117).bind fun d _ => (fourX t true p 4 d 0).bind fun e lo => Gt.ok e (65536 + 1024 * (hi - 55296) + lo - 56320)).bind fun a u => Gt.ok a (utfL u)) := by
        rw [bind_bind]
        simp only [bind_bind]
        rfl
      have hQ1 := hQ0
      simp only [Gt.bind] at hQ1
      rw [← hQ1]
      clear hQ0 hQ1
      generalize hQ : remX t p hi a 0 = Q
      repeat' (first | (apply T.mv; apply rfl; apply rfl) | (apply T.asn; apply rfl; apply rfl) | (apply T.fieldAddrZ; apply rfl; apply rfl) | (apply T.load; apply rfl; apply rfl; infer_instance; apply rfl; apply rfl) | (apply T.lss; apply rfl; apply rfl; apply rfl) | (apply T.gtr; apply rfl; apply rfl; apply rfl) | (apply T.neq; apply rfl; apply rfl; apply rfl) | (apply T.extract; apply rfl; apply rfl; apply rfl) | (apply T.pickF; apply rfl; apply rfl; apply rfl) | (apply T.storeW; apply rfl; apply rfl; infer_instance; (first | rfl | (simp only [List.length_append, List.length_map, List.length_set, List.length_replicate, List.length_cons, List.length_nil]; first | done | omega)); (first | rfl | (simp only [List.length_append, List.length_map, List.length_set, List.length_replicate, List.length_cons, List.length_nil]; first | done | omega)); (first | rfl | (repeat' first | apply all_nV | apply all_bV | apply all_iV | rfl | apply all_app))) | (apply T.alloc; apply rfl; intro nb) | with_reducible refine Sr.nil ?_ | with_reducible refine S.seq ?_ | with_reducible refine S.block ?_ | with_reducible refine S.reg ?_ | with_reducible refine S.skip ?_ | (apply T.ungV; apply rfl; (first | with_reducible rfl | decide)) | (apply S.condQ; apply rfl; all_goals (intro _; try (exfalso; first | omega | with_reducible contradiction))) | (apply T.gcase; apply rfl; apply rfl; all_goals (intro _; try (exfalso; first | omega | with_reducible contradiction))) | (with_reducible apply T.ofRet) | fail)
      refine S.loopE 0 [0, 1, 4, 6, 7, 8] (fun R b' μ H' e => ∃ i : Nat, H' = R ∧ e = (9, .int .i64 i) :: b' ∧ (i ≤ 2 ∧ a + i ≤ t.length ∧ remX t p hi a i = Q) ∧ μ = 2 - i) rfl rfl ?_ _ _ ⟨0, rfl, rfl, ⟨by omega, by omega, hQ⟩, rfl⟩ (by repeat' first | exact trivial | refine And.intro rfl ?_)
      rintro _ _ _ ⟨i, rfl, rfl, ⟨k1, k2, k3⟩, rfl⟩ ih
      by_cases k4 : i < 2
      · have e3 : (a : Int) + (i : Int) = ((a + i : Nat) : Int) := by omega
        repeat' (first | (apply T.addI; apply rfl; apply rfl; omega; apply rfl; rw [e3]) | (apply T.mv; apply rfl; apply rfl) | (apply T.fieldAddrZ; apply rfl; apply rfl) | (apply T.load; apply rfl; apply rfl; infer_instance; apply rfl; apply rfl) | (apply T.lss; apply rfl; apply rfl; apply rfl) | with_reducible refine Sr.nil ?_ | with_reducible refine S.seq ?_ | with_reducible refine S.block ?_ | with_reducible refine S.reg ?_ | with_reducible refine S.skip ?_ | (apply S.condQ; apply rfl; all_goals (intro _; try (exfalso; first | omega | with_reducible contradiction))) | fail)
        refine T.call rfl rfl byteAt_spec ?_
        rintro _ _ ⟨rfl, rfl⟩
        by_cases k5 : a + i < t.length
        · rw [byteI_lt k5]
          rw [rem_step k5 k4] at k3
          by_cases k6 : bAt t (a + i) = if i = 0 then 92 else 117
          · rw [if_pos k6] at k3
            have k7 : (i = 0 → bAt t (a + i) = 92) ∧ (i = 1 → bAt t (a + i) = 117) := ⟨fun e => by rw [k6, if_pos e], fun e => by rw [k6, if_neg (by omega)]⟩
            clear k6
            repeat' (first | (apply T.mv; apply rfl; apply rfl) | (apply T.asn; apply rfl; apply rfl) | (apply T.lss; apply rfl; apply rfl; apply rfl) | (apply T.eql; apply rfl; apply rfl; apply rfl) | (apply T.neq; apply rfl; apply rfl; apply rfl) | (apply T.addI; apply rfl; apply rfl; omega; apply rfl) | (apply T.pickT; apply rfl; apply rfl; apply rfl) | (apply T.pickF; apply rfl; apply rfl; apply rfl) | with_reducible refine Sr.nil ?_ | with_reducible refine S.seq ?_ | with_reducible refine S.reg ?_ | with_reducible refine S.skip ?_ | with_reducible refine S.inBlock ?_ | (apply T.ungV; apply rfl; (first | with_reducible rfl | decide)) | (apply T.skip; apply rfl; (first | with_reducible rfl | decide); apply rfl) | (apply S.condFV; apply rfl; (first | with_reducible rfl | decide)) | (apply S.condQ; apply rfl; all_goals (intro _; try (exfalso; first | omega | with_reducible contradiction))) | (apply T.gcase; apply rfl; apply rfl; all_goals (intro _; try (exfalso; first | omega | with_reducible contradiction))) | (with_reducible apply T.ofRet) | fail)
            all_goals exact ih _ _ _ _ ⟨i + 1, rfl, rfl, ⟨by omega, by omega, k3⟩, rfl⟩ (by omega) (by repeat' first | exact trivial | refine And.intro rfl ?_)
          · rw [if_neg k6] at k3
            have k7 : (i = 0 → ¬ bAt t (a + i) = 92) ∧ (i = 1 → ¬ bAt t (a + i) = 117) := ⟨fun e => by rw [if_pos e] at k6; exact k6, fun e => by rw [if_neg (by omega)] at k6; exact k6⟩
            clear k6
            rw [← k3]
            repeat' (first | (apply T.mv; apply rfl; apply rfl) | (apply T.asn; apply rfl; apply rfl) | (apply T.lss; apply rfl; apply rfl; apply rfl) | (apply T.eql; apply rfl; apply rfl; apply rfl) | (apply T.neq; apply rfl; apply rfl; apply rfl) | (apply T.pickT; apply rfl; apply rfl; apply rfl) | (apply T.pickF; apply rfl; apply rfl; apply rfl) | with_reducible refine Sr.nil ?_ | with_reducible refine S.seq ?_ | with_reducible refine S.reg ?_ | with_reducible refine S.skip ?_ | (apply T.ungV; apply rfl; (first | with_reducible rfl | decide)) | (apply T.skip; apply rfl; (first | with_reducible rfl | decide); apply rfl) | (apply T.skipU; apply rfl; apply rfl) | (apply S.condTV; apply rfl; (first | with_reducible rfl | decide)) | (apply S.condQ; apply rfl; all_goals (intro _; try (exfalso; first | omega | with_reducible contradiction))) | (apply T.gcase; apply rfl; apply rfl; all_goals (intro _; try (exfalso; first | omega | with_reducible contradiction))) | (with_reducible apply T.ofRet) | fail)
            all_goals
              refine T.call rfl rfl fault_spec ?_
              rintro _ _ ⟨rfl, rfl⟩
              repeat' (first | (apply T.storeW; apply rfl; apply rfl; infer_instance; (first | rfl | (simp only [List.length_append, List.length_map, List.length_set, List.length_replicate, List.length_cons, List.length_nil]; first | done | omega)); (first | rfl | (simp only [List.length_append, List.length_map, List.length_set, List.length_replicate, List.length_cons, List.length_nil]; first | done | omega)); (first | rfl | (repeat' first | apply all_nV | apply all_bV | apply all_iV | rfl | apply all_app))) | with_reducible refine Sr.nil ?_ | (with_reducible apply T.ofRet) | (apply T.retC; apply rfl; ((repeat' first | apply RV.nil | (apply RV.tmp; apply rfl) | (apply RV.cellW; apply rfl; apply rfl; infer_instance; (first | rfl | (simp only [List.length_append, List.length_map, List.length_set, List.length_replicate, List.length_cons, List.length_nil]; first | done | omega))) | (apply RV.cellP; apply rfl; apply rfl; infer_instance; apply rfl))); apply rfl) | fail)
              exact ⟨_, PSub.drop (PSub.drop (PSub.refl _)), ⟨[], rfl⟩, rfl⟩
        · rw [byteI_ge k5]
          rw [rem_end k5 k2 k4] at k3
          rw [← k3]
          repeat' (first | (apply T.slen; apply rfl; apply rfl) | (apply T.mv; apply rfl; apply rfl) | (apply T.asn; apply rfl; apply rfl) | (apply T.lss; apply rfl; apply rfl; apply rfl) | with_reducible refine Sr.nil ?_ | with_reducible refine S.seq ?_ | with_reducible refine S.reg ?_ | (apply S.condTV; apply rfl; (first | with_reducible rfl | decide)) | (with_reducible apply T.ofRet) | fail)
          refine T.call rfl rfl fault_spec ?_
          rintro _ _ ⟨rfl, rfl⟩
          repeat' (first | (apply T.storeW; apply rfl; apply rfl; infer_instance; (first | rfl | (simp only [List.length_append, List.length_map, List.length_set, List.length_replicate, List.length_cons, List.length_nil]; first | done | omega)); (first | rfl | (simp only [List.length_append, List.length_map, List.length_set, List.length_replicate, List.length_cons, List.length_nil]; first | done | omega)); (first | rfl | (repeat' first | apply all_nV | apply all_bV | apply all_iV | rfl | apply all_app))) | with_reducible refine Sr.nil ?_ | (with_reducible apply T.ofRet) | (apply T.retC; apply rfl; ((repeat' first | apply RV.nil | (apply RV.tmp; apply rfl) | (apply RV.cellW; apply rfl; apply rfl; infer_instance; (first | rfl | (simp only [List.length_append, List.length_map, List.length_set, List.length_replicate, List.length_cons, List.length_nil]; first | done | omega))) | (apply RV.cellP; apply rfl; apply rfl; infer_instance; apply rfl))); apply rfl) | fail)
          exact ⟨_, PSub.drop (PSub.drop (PSub.refl _)), ⟨[], rfl⟩, rfl⟩
      · obtain rfl : i = 2 := by omega
        have e4 : (a : Int) + 2 = ((a + 2 : Nat) : Int) := by omega
        have k8 : remX t p hi a 2 = (fourX t true p 4 (a + 2) 0).bind fun e lo => Gt.ok e (utfL (65536 + 1024 * (hi - 55296) + lo - 56320)) := rfl
        rw [k8] at k3
        clear k8
        repeat' (first | (apply T.addI; apply rfl; apply rfl; omega; apply rfl; rw [e4]) | (apply T.mv; apply rfl; apply rfl) | (apply T.fieldAddrZ; apply rfl; apply rfl) | (apply T.load; apply rfl; apply rfl; infer_instance; apply rfl; apply rfl) | (apply T.lss; apply rfl; apply rfl; apply rfl) | with_reducible refine Sr.nil ?_ | with_reducible refine S.seq ?_ | with_reducible refine S.reg ?_ | (apply S.exit; apply rfl) | (apply S.condFV; apply rfl; (first | with_reducible rfl | decide)) | fail)
        refine T.call rfl rfl (four_spec (low := true) (L := 2) (fr := p) (p := a + 2) rfl (by omega) hl) ?_
        cases hy : fourX t true p 4 (a + 2) 0 with
        | bad c b =>
          rw [hy] at k3
          rw [← k3]
          have e5 : 65536 + 1024 * ((hi : Int) - 55296) + 0 - 56320 = ((9216 + 1024 * (hi - 55296) : Nat) : Int) := by omega
          rintro _ _ ⟨rfl, rfl⟩
          repeat' (first | (apply T.subI; apply rfl; apply rfl; omega; apply rfl; first | rw [e5] | skip) | (apply T.mv; apply rfl; apply rfl) | (apply T.asn; apply rfl; apply rfl) | (apply T.addI; apply rfl; apply rfl; omega; apply rfl) | (apply T.mulI; apply rfl; apply rfl; omega; apply rfl) | (apply T.extract; apply rfl; apply rfl; apply rfl) | (apply T.storeW; apply rfl; apply rfl; infer_instance; (first | rfl | (simp only [List.length_append, List.length_map, List.length_set, List.length_replicate, List.length_cons, List.length_nil]; first | done | omega)); (first | rfl | (simp only [List.length_append, List.length_map, List.length_set, List.length_replicate, List.length_cons, List.length_nil]; first | done | omega)); (first | rfl | (repeat' first | apply all_nV | apply all_bV | apply all_iV | rfl | apply all_app))) | (apply T.alloc; apply rfl; intro nb) | with_reducible refine Sr.nil ?_ | with_reducible refine S.seq ?_ | with_reducible refine S.reg ?_ | (with_reducible apply T.ofRet) | fail)
          refine T.call rfl rfl (utf_spec (u := 9216 + 1024 * (hi - 55296)) (by omega)) ?_
          rintro _ _ ⟨rfl, rfl⟩
          repeat' (first | (apply T.fieldAddrZ; apply rfl; apply rfl) | (apply T.loadW; apply rfl; apply rfl; infer_instance; (first | rfl | (simp only [List.length_append, List.length_map, List.length_set, List.length_replicate, List.length_cons, List.length_nil]; first | done | omega)); apply rfl) | (apply T.storeW; apply rfl; apply rfl; infer_instance; (first | rfl | (simp only [List.length_append, List.length_map, List.length_set, List.length_replicate, List.length_cons, List.length_nil]; first | done | omega)); (first | rfl | (simp only [List.length_append, List.length_map, List.length_set, List.length_replicate, List.length_cons, List.length_nil]; first | done | omega)); (first | rfl | (repeat' first | apply all_nV | apply all_bV | apply all_iV | rfl | apply all_app))) | (apply T.store; apply rfl; apply rfl; infer_instance; (first | decide | (simp; omega) | simp); apply rfl) | with_reducible refine Sr.nil ?_ | with_reducible refine S.seq ?_ | with_reducible refine S.reg ?_ | (with_reducible apply T.ofRet) | (apply T.retC; apply rfl; ((repeat' first | apply RV.nil | (apply RV.tmp; apply rfl) | (apply RV.cellW; apply rfl; apply rfl; infer_instance; (first | rfl | (simp only [List.length_append, List.length_map, List.length_set, List.length_replicate, List.length_cons, List.length_nil]; first | done | omega))) | (apply RV.cellP; apply rfl; apply rfl; infer_instance; apply rfl))); apply rfl) | fail)
          exact ⟨_, PSub.drop (PSub.drop (PSub.drop (PSub.refl _))), ⟨_, rfl⟩, rfl⟩
        | ok e lo =>
          rw [hy] at k3
          rw [← k3]
          obtain ⟨q1, q2⟩ := four_low hy
          have e5 : 65536 + 1024 * ((hi : Int) - 55296) + (lo : Int) - 56320 = ((65536 + 1024 * (hi - 55296) + lo - 56320 : Nat) : Int) := by omega
          rintro _ _ ⟨rfl, rfl⟩
          repeat' (first | (apply T.subI; apply rfl; apply rfl; omega; apply rfl; first | rw [e5] | skip) | (apply T.mv; apply rfl; apply rfl) | (apply T.asn; apply rfl; apply rfl) | (apply T.addI; apply rfl; apply rfl; omega; apply rfl) | (apply T.mulI; apply rfl; apply rfl; omega; apply rfl) | (apply T.extract; apply rfl; apply rfl; apply rfl) | (apply T.storeW; apply rfl; apply rfl; infer_instance; (first | rfl | (simp only [List.length_append, List.length_map, List.length_set, List.length_replicate, List.length_cons, List.length_nil]; first | done | omega)); (first | rfl | (simp only [List.length_append, List.length_map, List.length_set, List.length_replicate, List.length_cons, List.length_nil]; first | done | omega)); (first | rfl | (repeat' first | apply all_nV | apply all_bV | apply all_iV | rfl | apply all_app))) | (apply T.alloc; apply rfl; intro nb) | with_reducible refine Sr.nil ?_ | with_reducible refine S.seq ?_ | with_reducible refine S.reg ?_ | (with_reducible apply T.ofRet) | fail)
          refine T.call rfl rfl (utf_spec (u := 65536 + 1024 * (hi - 55296) + lo - 56320) (by omega)) ?_
          rintro _ _ ⟨rfl, rfl⟩
          repeat' (first | (apply T.fieldAddrZ; apply rfl; apply rfl) | (apply T.loadW; apply rfl; apply rfl; infer_instance; (first | rfl | (simp only [List.length_append, List.length_map, List.length_set, List.length_replicate, List.length_cons, List.length_nil]; first | done | omega)); apply rfl) | (apply T.storeW; apply rfl; apply rfl; infer_instance; (first | rfl | (simp only [List.length_append, List.length_map, List.length_set, List.length_replicate, List.length_cons, List.length_nil]; first | done | omega)); (first | rfl | (simp only [List.length_append, List.length_map, List.length_set, List.length_replicate, List.length_cons, List.length_nil]; first | done | omega)); (first | rfl | (repeat' first | apply all_nV | apply all_bV | apply all_iV | rfl | apply all_app))) | (apply T.store; apply rfl; apply rfl; infer_instance; (first | decide | (simp; omega) | simp); apply rfl) | with_reducible refine Sr.nil ?_ | with_reducible refine S.seq ?_ | with_reducible refine S.reg ?_ | (with_reducible apply T.ofRet) | (apply T.retC; apply rfl; ((repeat' first | apply RV.nil | (apply RV.tmp; apply rfl) | (apply RV.cellW; apply rfl; apply rfl; infer_instance; (first | rfl | (simp only [List.length_append, List.length_map, List.length_set, List.length_replicate, List.length_cons, List.length_nil]; first | done | omega))) | (apply RV.cellP; apply rfl; apply rfl; infer_instance; apply rfl))); apply rfl) | fail)
          exact ⟨_, PSub.drop (PSub.drop (PSub.drop (PSub.refl _))), rfl, rfl⟩
end
end Go.Proofs.YtddbdgmaaogclaaGreatDoor
/- The walks of the document's reader of JSON: strings. -/
namespace Go.Proofs.YtddbdgmaaogclaaGreatDoor
open Sg Go.IntWalk
set_option maxRecDepth 100000
set_option maxHeartbeats 4000000
section
variable {F : World} {M : List Nat} {H : List Res} {t : List UInt8} {p : Nat}
theorem refEscape_spec (hp : p < t.length) (hl : t.length ≤ 1000000000) : Meets Tryz.prog 174 [sV t, .int .i64 p] F M H (fun e H' => GoE ((escX t p).bind fun a u => .ok a (utfL u)) e ∧ H' = H) := by
  by_cases h : bAt t (p + 1) = 117
  · exact escape_point hp hl h
  · exact escape_plain hp hl h
theorem signX_code {fr q : Nat} {ch : UInt8} {c : Int} {b : Nat} (h : signX t fr q ch = .bad c b) : c ≠ 0 := by
  unfold signX at h
  split at h
  · cases h; decide
  · split at h
    · cases h
    · cases h; decide
theorem escX_code {fr : Nat} {c : Int} {b : Nat} (h : escX t fr = .bad c b) : c ≠ 0 := by
  have key : ∀ {α β : Type} {g : Gt α} {f : Nat → α → Gt β}, (g.bind f = .bad c b) → (g = .bad c b) ∨ ∃ a v, g = .ok a v ∧ f a v = .bad c b := fun {α β g f} h => by
    cases g with
    | bad c' b' => cases h; exact .inl rfl
    | ok a v => exact .inr ⟨a, v, rfl, h⟩
  unfold escX at h
  split at h
  · cases h; decide
  · split at h
    · unfold pointX at h
      rcases key h with h | ⟨a, v, _, h⟩
      · exact fourX_code h
      · split at h
        · cases h
        · rcases key h with h | ⟨a, v, _, h⟩
          · exact signX_code h
          · rcases key h with h | ⟨a, v, _, h⟩
            · exact signX_code h
            · rcases key h with h | ⟨a, v, _, h⟩
              · exact fourX_code h
              · cases h
    · split at h
      · cases h
      · cases h; decide
theorem seqX_code {fr : Nat} : ∀ {k q lo hi : Nat} {c : Int} {b : Nat}, seqX t fr k q lo hi = .bad c b → c ≠ 0
  | 0, q, lo, hi, c, b, h => by rw [seqX] at h; cases h
  | k + 1, q, lo, hi, c, b, h => by
    rw [seqX] at h
    split at h
    · cases h; decide
    · split at h
      · cases h; decide
      · exact seqX_code h
theorem sequX_code {q : Nat} {ch : UInt8} {c : Int} {b : Nat} (h : sequX t q ch = .bad c b) : c ≠ 0 := by
  unfold sequX at h
  split at h
  · cases h; decide
  · exact seqX_code h
theorem refQuoted_spec (hp : p ≤ t.length) (hl : t.length ≤ 262144) : Meets Tryz.prog 124 [sV t, .int .i64 p] F M H (fun e H' => GoE (quotedX t p) e ∧ H' = H) := by
  refine Meets.enter Tryz.func124 rfl rfl ?_
  unfold quotedX
  generalize hQ : quotX t (t.length + 1 - p) p [] = Q
  refine S.nilrow 5 1 ?_
  repeat' (first | (apply T.asn; apply rfl; apply rfl) | (apply T.alloc; apply rfl; intro nb) | with_reducible refine Sr.nil ?_ | with_reducible refine S.seq ?_ | with_reducible refine S.block ?_ | with_reducible refine S.reg ?_ | fail)
  refine S.frontR none ?_
  refine S.loopE 1 [0, 4] (fun R b' μ H' e => ∃ (q f : Nat) (acc : List UInt8) (ad : Option Addr) (cp nn : Nat), H' = .row ad cp 5 1 nn (acc.map bV) :: R ∧ e = (1, .int .i64 q) :: (5, .slice ad nn cp) :: b' ∧ (q ≤ t.length ∧ t.length < q + f ∧ acc.length = nn ∧ nn ≤ 4 * q ∧ quotX t f q acc = Q) ∧ μ = t.length - q) rfl rfl ?_ _ _ ⟨p, t.length + 1 - p, [], none, 0, 0, rfl, rfl, ⟨hp, by omega, rfl, by omega, hQ⟩, rfl⟩ (by repeat' first | exact trivial | refine And.intro rfl ?_)
  rintro _ _ _ ⟨q, f, acc, ad, cp, nn, rfl, rfl, ⟨h1, h2, h3, h4, h5⟩, rfl⟩ ih
  subst h3
  obtain ⟨f, rfl⟩ : ∃ g, f = g + 1 := ⟨f - 1, by omega⟩
  repeat' (first | (apply T.mv; apply rfl; apply rfl) | with_reducible refine S.seq ?_ | with_reducible refine S.block ?_ | with_reducible refine S.reg ?_ | fail)
  refine T.call rfl rfl byteAt_spec ?_
  rintro _ _ ⟨rfl, rfl⟩
  rcases Nat.lt_or_ge q t.length with h6 | h6
  · have hq : t[q]? = some (t.getD q 0) := by simp [List.getD, h6]
    have hu := (t.getD q 0).toNat_lt
    have hb : bAt t q = (t.getD q 0).toNat := rfl
    rw [quot_step hq] at h5
    rw [byteI_lt h6, hb]
    by_cases c1 : (t.getD q 0).toNat < 32
    · rw [if_pos c1] at h5
      rw [← h5]
      repeat' (first | (apply T.mv; apply rfl; apply rfl) | (apply T.asn; apply rfl; apply rfl) | (apply T.lss; apply rfl; apply rfl; apply rfl) | (apply T.alloc; apply rfl; intro nb) | with_reducible refine Sr.nil ?_ | with_reducible refine S.seq ?_ | with_reducible refine S.block ?_ | with_reducible refine S.reg ?_ | (apply S.condQ; apply rfl; all_goals (intro _; try (exfalso; first | omega | with_reducible contradiction))) | (with_reducible apply T.ofRet) | fail)
      refine T.call rfl rfl fault_spec ?_
      rintro _ _ ⟨rfl, rfl⟩
      repeat' (first | (apply T.storeW; apply rfl; apply rfl; infer_instance; (first | rfl | (simp only [List.length_append, List.length_map, List.length_set, List.length_replicate, List.length_cons, List.length_nil]; first | done | omega)); (first | rfl | (simp only [List.length_append, List.length_map, List.length_set, List.length_replicate, List.length_cons, List.length_nil]; first | done | omega)); (first | rfl | (repeat' first | apply all_nV | apply all_bV | apply all_iV | rfl | apply all_app))) | with_reducible refine Sr.nil ?_ | (with_reducible apply T.ofRet) | (apply T.retC; apply rfl; ((repeat' first | apply RV.nil | (apply RV.tmp; apply rfl) | (apply RV.cellW; apply rfl; apply rfl; infer_instance; (first | rfl | (simp only [List.length_append, List.length_map, List.length_set, List.length_replicate, List.length_cons, List.length_nil]; first | done | omega))) | (apply RV.cellP; apply rfl; apply rfl; infer_instance; apply rfl))); apply rfl) | fail)
      exact ⟨_, PSub.drop (PSub.drop (PSub.drop (PSub.refl _))), ⟨[], rfl⟩, rfl⟩
    rw [if_neg c1] at h5
    by_cases c2 : (t.getD q 0).toNat = 34
    · rw [if_pos c2] at h5
      rw [← h5]
      repeat' (first | (refine T.convS (xs := acc) rfl inferInstance rfl rfl ?_) | (apply T.mv; apply rfl; apply rfl) | (apply T.asn; apply rfl; apply rfl) | (apply T.lss; apply rfl; apply rfl; apply rfl) | (apply T.eql; apply rfl; apply rfl; apply rfl) | (apply T.addI; apply rfl; apply rfl; omega; apply rfl) | (apply T.buildL; apply rfl; apply rfl; apply rfl) | (apply T.storeW; apply rfl; apply rfl; infer_instance; (first | rfl | (simp only [List.length_append, List.length_map, List.length_set, List.length_replicate, List.length_cons, List.length_nil]; first | done | omega)); (first | rfl | (simp only [List.length_append, List.length_map, List.length_set, List.length_replicate, List.length_cons, List.length_nil]; first | done | omega)); (first | rfl | (repeat' first | apply all_nV | apply all_bV | apply all_iV | rfl | apply all_app))) | (apply T.alloc; apply rfl; intro nb) | with_reducible refine Sr.nil ?_ | with_reducible refine S.seq ?_ | with_reducible refine S.block ?_ | with_reducible refine S.reg ?_ | (apply S.condQ; apply rfl; all_goals (intro _; try (exfalso; first | omega | with_reducible contradiction))) | (with_reducible apply T.ofRet) | (apply T.retC; apply rfl; ((repeat' first | apply RV.nil | (apply RV.tmp; apply rfl) | (apply RV.cellW; apply rfl; apply rfl; infer_instance; (first | rfl | (simp only [List.length_append, List.length_map, List.length_set, List.length_replicate, List.length_cons, List.length_nil]; first | done | omega))) | (apply RV.cellP; apply rfl; apply rfl; infer_instance; apply rfl))); apply rfl) | fail)
      exact ⟨_, PSub.drop (PSub.drop (PSub.drop (PSub.refl _))), rfl, rfl⟩
    rw [if_neg c2] at h5
    by_cases c3 : (t.getD q 0).toNat = 92
    · rw [if_pos c3] at h5
      repeat' (first | (apply T.mv; apply rfl; apply rfl) | (apply T.asn; apply rfl; apply rfl) | (apply T.lss; apply rfl; apply rfl; apply rfl) | (apply T.eql; apply rfl; apply rfl; apply rfl) | (apply T.alloc; apply rfl; intro nb) | with_reducible refine Sr.nil ?_ | with_reducible refine S.seq ?_ | with_reducible refine S.block ?_ | with_reducible refine S.reg ?_ | (apply S.condQ; apply rfl; all_goals (intro _; try (exfalso; first | omega | with_reducible contradiction))) | (with_reducible apply T.ofRet) | fail)
      refine T.call rfl rfl (refEscape_spec h6 (by omega)) ?_
      have hfit := escX_fits (t := t) (fr := q)
      cases hx : escX t q with
      | bad e1 q1 =>
        have hc := escX_code hx
        rw [hx] at h5
        rw [← h5]
        rintro _ _ ⟨⟨s, rfl⟩, rfl⟩
        repeat' (first | (apply T.fieldAddrZ; apply rfl; apply rfl) | (apply T.load; apply rfl; apply rfl; infer_instance; apply rfl; apply rfl) | (apply T.neq; apply rfl; apply rfl; apply rfl) | (apply T.loadW; apply rfl; apply rfl; infer_instance; (first | rfl | (simp only [List.length_append, List.length_map, List.length_set, List.length_replicate, List.length_cons, List.length_nil]; first | done | omega)); apply rfl) | (apply T.storeW; apply rfl; apply rfl; infer_instance; (first | rfl | (simp only [List.length_append, List.length_map, List.length_set, List.length_replicate, List.length_cons, List.length_nil]; first | done | omega)); (first | rfl | (simp only [List.length_append, List.length_map, List.length_set, List.length_replicate, List.length_cons, List.length_nil]; first | done | omega)); (first | rfl | (repeat' first | apply all_nV | apply all_bV | apply all_iV | rfl | apply all_app))) | with_reducible refine Sr.nil ?_ | with_reducible refine S.seq ?_ | with_reducible refine S.reg ?_ | with_reducible refine S.inBlock ?_ | (apply S.condQ; apply rfl; all_goals (intro _; try (exfalso; first | omega | with_reducible contradiction))) | (with_reducible apply T.ofRet) | (apply T.retC; apply rfl; ((repeat' first | apply RV.nil | (apply RV.tmp; apply rfl) | (apply RV.cellW; apply rfl; apply rfl; infer_instance; (first | rfl | (simp only [List.length_append, List.length_map, List.length_set, List.length_replicate, List.length_cons, List.length_nil]; first | done | omega))) | (apply RV.cellP; apply rfl; apply rfl; infer_instance; apply rfl))); apply rfl) | fail)
        exact ⟨_, PSub.drop (PSub.drop (PSub.drop (PSub.refl _))), ⟨s, rfl⟩, rfl⟩
      | ok a1 u =>
        rw [hx] at h5
        have h5' : quotX t f a1 (acc ++ utfL u) = Q := h5
        obtain ⟨r3, r4⟩ := hfit a1 u hx
        have hle := utfL_len u
        rintro _ _ ⟨rfl, rfl⟩
        repeat' (first | (apply T.appendS; apply rfl; apply rfl; infer_instance; omega; apply rfl; intro na nc) | (apply T.mv; apply rfl; apply rfl) | (apply T.asn; apply rfl; apply rfl) | (apply T.fieldAddrZ; apply rfl; apply rfl) | (apply T.load; apply rfl; apply rfl; infer_instance; apply rfl; apply rfl) | (apply T.neq; apply rfl; apply rfl; apply rfl) | (apply T.storeW; apply rfl; apply rfl; infer_instance; (first | rfl | (simp only [List.length_append, List.length_map, List.length_set, List.length_replicate, List.length_cons, List.length_nil]; first | done | omega)); (first | rfl | (simp only [List.length_append, List.length_map, List.length_set, List.length_replicate, List.length_cons, List.length_nil]; first | done | omega)); (first | rfl | (repeat' first | apply all_nV | apply all_bV | apply all_iV | rfl | apply all_app))) | with_reducible refine Sr.nil ?_ | with_reducible refine S.seq ?_ | with_reducible refine S.reg ?_ | with_reducible refine S.skip ?_ | with_reducible refine S.inBlock ?_ | (apply S.condFV; apply rfl; (first | with_reducible rfl | decide)) | (with_reducible apply T.ofRet) | fail)
        refine S.sublist ?_ (PSub.drop (PSub.refl _))
        exact ih _ _ _ _ ⟨a1, f, acc ++ utfL u, na, nc, _, rfl, rfl, ⟨r4, by omega, by rw [List.length_append], by omega, h5'⟩, rfl⟩ (by omega) (by repeat' first | exact trivial | refine And.intro rfl ?_)
    rw [if_neg c3] at h5
    by_cases c4 : (t.getD q 0).toNat < 128
    · rw [if_pos c4] at h5
      have e1 : (q : Int) + 1 = ((q + 1 : Nat) : Int) := by omega
      have hl1 : ([t.getD q 0] : List UInt8).length = 1 := rfl
      have hs : (t.drop q).take (q + 1 - q) = [t.getD q 0] := by
        rw [show q + 1 - q = 1 by omega, List.take_one, List.head?_drop, hq]
        rfl
      repeat' (first | (apply T.addI; apply rfl; apply rfl; omega; apply rfl; rw [e1]) | (apply T.sslice; apply rfl; apply rfl; apply rfl; omega; apply rfl; rw [hs]) | (apply T.appendS; apply rfl; apply rfl; infer_instance; omega; apply rfl; intro na nc) | (apply T.mv; apply rfl; apply rfl) | (apply T.asn; apply rfl; apply rfl) | (apply T.fieldAddrZ; apply rfl; apply rfl) | (apply T.load; apply rfl; apply rfl; infer_instance; apply rfl; apply rfl) | (apply T.lss; apply rfl; apply rfl; apply rfl) | (apply T.eql; apply rfl; apply rfl; apply rfl) | (apply T.neq; apply rfl; apply rfl; apply rfl) | (apply T.buildL; apply rfl; apply rfl; apply rfl) | (apply T.storeW; apply rfl; apply rfl; infer_instance; (first | rfl | (simp only [List.length_append, List.length_map, List.length_set, List.length_replicate, List.length_cons, List.length_nil]; first | done | omega)); (first | rfl | (simp only [List.length_append, List.length_map, List.length_set, List.length_replicate, List.length_cons, List.length_nil]; first | done | omega)); (first | rfl | (repeat' first | apply all_nV | apply all_bV | apply all_iV | rfl | apply all_app))) | (apply T.alloc; apply rfl; intro nb) | with_reducible refine Sr.nil ?_ | with_reducible refine S.seq ?_ | with_reducible refine S.block ?_ | with_reducible refine S.reg ?_ | with_reducible refine S.skip ?_ | with_reducible refine S.inBlock ?_ | (apply S.condFV; apply rfl; (first | with_reducible rfl | decide)) | (apply S.condQ; apply rfl; all_goals (intro _; try (exfalso; first | omega | with_reducible contradiction))) | (with_reducible apply T.ofRet) | fail)
      refine S.sublist ?_ (PSub.drop (PSub.refl _))
      exact ih _ _ _ _ ⟨q + 1, f, acc ++ [t.getD q 0], na, nc, acc.length + 1, rfl, rfl, ⟨by omega, by omega, by simp, by omega, h5⟩, rfl⟩ (by omega) (by repeat' first | exact trivial | refine And.intro rfl ?_)
    rw [if_neg c4] at h5
    repeat' (first | (apply T.mv; apply rfl; apply rfl) | (apply T.asn; apply rfl; apply rfl) | (apply T.lss; apply rfl; apply rfl; apply rfl) | (apply T.eql; apply rfl; apply rfl; apply rfl) | (apply T.alloc; apply rfl; intro nb) | with_reducible refine Sr.nil ?_ | with_reducible refine S.seq ?_ | with_reducible refine S.block ?_ | with_reducible refine S.reg ?_ | (apply S.condQ; apply rfl; all_goals (intro _; try (exfalso; first | omega | with_reducible contradiction))) | (with_reducible apply T.ofRet) | fail)
    refine T.call rfl rfl (refSequence_spec h6 (by omega)) ?_
    have hfit := sequX_fits (t := t) (p := q) (c := t.getD q 0) h6
    cases hx : sequX t q (t.getD q 0) with
    | bad e1 q1 =>
      have hc := sequX_code hx
      rw [hx] at h5
      rw [← h5]
      rintro _ _ ⟨rfl, rfl⟩
      repeat' (first | (apply T.fieldAddrZ; apply rfl; apply rfl) | (apply T.load; apply rfl; apply rfl; infer_instance; apply rfl; apply rfl) | (apply T.neq; apply rfl; apply rfl; apply rfl) | (apply T.loadW; apply rfl; apply rfl; infer_instance; (first | rfl | (simp only [List.length_append, List.length_map, List.length_set, List.length_replicate, List.length_cons, List.length_nil]; first | done | omega)); apply rfl) | (apply T.storeW; apply rfl; apply rfl; infer_instance; (first | rfl | (simp only [List.length_append, List.length_map, List.length_set, List.length_replicate, List.length_cons, List.length_nil]; first | done | omega)); (first | rfl | (simp only [List.length_append, List.length_map, List.length_set, List.length_replicate, List.length_cons, List.length_nil]; first | done | omega)); (first | rfl | (repeat' first | apply all_nV | apply all_bV | apply all_iV | rfl | apply all_app))) | with_reducible refine Sr.nil ?_ | with_reducible refine S.seq ?_ | with_reducible refine S.reg ?_ | with_reducible refine S.inBlock ?_ | (apply S.condQ; apply rfl; all_goals (intro _; try (exfalso; first | omega | with_reducible contradiction))) | (with_reducible apply T.ofRet) | (apply T.retC; apply rfl; ((repeat' first | apply RV.nil | (apply RV.tmp; apply rfl) | (apply RV.cellW; apply rfl; apply rfl; infer_instance; (first | rfl | (simp only [List.length_append, List.length_map, List.length_set, List.length_replicate, List.length_cons, List.length_nil]; first | done | omega))) | (apply RV.cellP; apply rfl; apply rfl; infer_instance; apply rfl))); apply rfl) | fail)
      exact ⟨_, PSub.drop (PSub.drop (PSub.drop (PSub.refl _))), ⟨[], rfl⟩, rfl⟩
    | ok a1 u =>
      rw [hx] at h5
      have h5' : quotX t f a1 (acc ++ (t.drop q).take (a1 - q)) = Q := h5
      obtain ⟨r3, r4⟩ := hfit a1 u hx
      have hl2 : ((t.drop q).take (a1 - q)).length = a1 - q := by rw [List.length_take, List.length_drop]; omega
      rintro _ _ ⟨rfl, rfl⟩
      repeat' (first | (apply T.appendS; apply rfl; apply rfl; infer_instance; omega; apply rfl; intro na nc) | (apply T.mv; apply rfl; apply rfl) | (apply T.asn; apply rfl; apply rfl) | (apply T.fieldAddrZ; apply rfl; apply rfl) | (apply T.load; apply rfl; apply rfl; infer_instance; apply rfl; apply rfl) | (apply T.neq; apply rfl; apply rfl; apply rfl) | (apply T.storeW; apply rfl; apply rfl; infer_instance; (first | rfl | (simp only [List.length_append, List.length_map, List.length_set, List.length_replicate, List.length_cons, List.length_nil]; first | done | omega)); (first | rfl | (simp only [List.length_append, List.length_map, List.length_set, List.length_replicate, List.length_cons, List.length_nil]; first | done | omega)); (first | rfl | (repeat' first | apply all_nV | apply all_bV | apply all_iV | rfl | apply all_app))) | with_reducible refine Sr.nil ?_ | with_reducible refine S.seq ?_ | with_reducible refine S.reg ?_ | with_reducible refine S.skip ?_ | with_reducible refine S.inBlock ?_ | (apply S.condFV; apply rfl; (first | with_reducible rfl | decide)) | (with_reducible apply T.ofRet) | fail)
      refine S.sublist ?_ (PSub.drop (PSub.refl _))
      exact ih _ _ _ _ ⟨a1, f, acc ++ (t.drop q).take (a1 - q), na, nc, _, rfl, rfl, ⟨r4, by omega, by rw [List.length_append], by omega, h5'⟩, rfl⟩ (by omega) (by repeat' first | exact trivial | refine And.intro rfl ?_)
  · obtain rfl : q = t.length := by omega
    have h7 : quotX t (f + 1) t.length acc = .bad 31 t.length := by rw [quotX, List.getElem?_eq_none (Nat.le_refl _)]
    rw [h7] at h5
    rw [← h5, byteI_ge (by omega)]
    repeat' (first | (apply T.mv; apply rfl; apply rfl) | (apply T.asn; apply rfl; apply rfl) | (apply T.lss; apply rfl; apply rfl; apply rfl) | (apply T.alloc; apply rfl; intro nb) | with_reducible refine Sr.nil ?_ | with_reducible refine S.seq ?_ | with_reducible refine S.block ?_ | with_reducible refine S.reg ?_ | (apply S.condTV; apply rfl; (first | with_reducible rfl | decide)) | (with_reducible apply T.ofRet) | fail)
    refine T.call rfl rfl fault_spec ?_
    rintro _ _ ⟨rfl, rfl⟩
    repeat' (first | (apply T.storeW; apply rfl; apply rfl; infer_instance; (first | rfl | (simp only [List.length_append, List.length_map, List.length_set, List.length_replicate, List.length_cons, List.length_nil]; first | done | omega)); (first | rfl | (simp only [List.length_append, List.length_map, List.length_set, List.length_replicate, List.length_cons, List.length_nil]; first | done | omega)); (first | rfl | (repeat' first | apply all_nV | apply all_bV | apply all_iV | rfl | apply all_app))) | with_reducible refine Sr.nil ?_ | (with_reducible apply T.ofRet) | (apply T.retC; apply rfl; ((repeat' first | apply RV.nil | (apply RV.tmp; apply rfl) | (apply RV.cellW; apply rfl; apply rfl; infer_instance; (first | rfl | (simp only [List.length_append, List.length_map, List.length_set, List.length_replicate, List.length_cons, List.length_nil]; first | done | omega))) | (apply RV.cellP; apply rfl; apply rfl; infer_instance; apply rfl))); apply rfl) | fail)
    exact ⟨_, PSub.drop (PSub.drop (PSub.drop (PSub.refl _))), ⟨[], rfl⟩, rfl⟩
end
end Go.Proofs.YtddbdgmaaogclaaGreatDoor
/- A literal of records is a growable row. -/
namespace Sg
open Go Go.RowKit
theorem St.blkRowN {F : World} {M : List Nat} {w : World} {H : List Res} {b n sz : Nat} {vs : List Value} {E : TypeId} (h : St F M w (.blk b vs E :: H)) (hn : vs.length = n * sz) (hm : n ≤ maxLen) : St F M w (.row (some ⟨b, 0, none⟩) n E sz n vs :: H) := by
  refine h.weakB (fun _ h => h) h.nd (fun r hr => ?_)
  rcases List.mem_cons.1 hr with rfl | hr
  · have hb : w.heap[b]? = some (.cells ⟨vs⟩ E (0, 0)) := h.res _ (List.mem_cons_self ..)
    exact ⟨hn, .inr ⟨b, n, ⟨vs⟩, rfl, Nat.zero_le _, hb, Nat.le_refl _, hm, by simp [hn], by simp only [Nat.zero_mul, List.drop_zero, Nat.zero_add]; rw [← hn]; exact List.take_length⟩⟩
  · exact h.res r (List.mem_cons_of_mem _ hr)
section
variable {c : Ctx} {dr : Bool} {ds : List Deferred} {H : List Res} {e : Env} {ops : Array Oper} {l : List Oper} {κ : List Res → Env → Prop}
theorem Sr.rowOfN {b n sz : Nat} {vs : List Value} {E : TypeId} (hn : vs.length = n * sz) (hm : n ≤ maxLen) (h : Sr (.eff dr) c ds (.row (some ⟨b, 0, none⟩) n E sz n vs :: H) ops l κ e) : Sr (.eff dr) c ds (.blk b vs E :: H) ops l κ e := h.weaken fun _ hw => hw.blkRowN hn hm
end
end Sg
/- The walks of the document's reader of JSON: words. -/
namespace Go.Proofs.YtddbdgmaaogclaaGreatDoor
open Sg Go.IntWalk
set_option maxRecDepth 100000
set_option maxHeartbeats 4000000
/-- What the document's readers of values answer: the nodes as a row, or a fault. -/
def VaE (H : List Res) : Gt (List Nd) → Ending → List Res → Prop
  | .ok a l => fun e H' => ∃ oa oc s, e = .returned (.agg ⟨goV a (.slice oa l.length oc) s 0 0⟩) ∧ H' = ouR oa oc l :: H
  | .bad c b => fun e H' => ∃ s, e = .returned (.agg ⟨goV 0 noL s c b⟩) ∧ H' = H
section
variable {F : World} {M : List Nat} {H : List Res} {t : List UInt8} {p : Nat}
theorem refLiteral_spec {w : List UInt8} {kd : Nat} (hw : ∀ x ∈ w, x ≠ 0) (hwl : w.length ≤ 100) (hp : p ≤ t.length) (hl : t.length ≤ 262144) : Meets Tryz.prog 126 [sV t, .int .i64 p, sV w, .int .i64 kd] F M H (VaE H ((wordX t p w).bind fun a _ => .ok a [nd kd])) := by
  refine Meets.enter Tryz.func126 rfl rfl ?_
  generalize hQ : wordX t p w = Q
  repeat' (first | (apply T.asn; apply rfl; apply rfl) | (apply T.alloc; apply rfl; intro nb) | with_reducible refine Sr.nil ?_ | with_reducible refine S.seq ?_ | with_reducible refine S.block ?_ | with_reducible refine S.reg ?_ | fail)
  refine S.loopE 0 [0, 1, 2, 3, 8] (fun R b' μ H' e => ∃ i : Nat, H' = R ∧ e = (9, .int .i64 i) :: b' ∧ (i ≤ w.length ∧ p + i ≤ t.length ∧ wordX t (p + i) (w.drop i) = Q) ∧ μ = w.length - i) rfl rfl ?_ _ _ ⟨0, rfl, rfl, ⟨Nat.zero_le _, hp, hQ⟩, rfl⟩ (by repeat' first | exact trivial | refine And.intro rfl ?_)
  rintro _ _ _ ⟨i, rfl, rfl, ⟨h1, h2, h3⟩, rfl⟩ ih
  by_cases h4 : i < w.length
  · have hg : w.drop i = w.getD i 0 :: w.drop (i + 1) := by
      rw [List.drop_eq_getElem_cons h4]
      simp [List.getD, h4]
    have hne : w.getD i 0 ≠ 0 := by
      rw [List.getD_eq_getElem?_getD, List.getElem?_eq_getElem h4]
      exact hw _ (List.getElem_mem h4)
    have hwu := (w.getD i 0).toNat_lt
    have hne' : (w.getD i 0).toNat ≠ 0 := fun e => hne (UInt8.toNat_inj.1 e)
    rw [hg, wordX_step hne] at h3
    have hu := bAt_lt t (p + i)
    have e1 : (p : Int) + (i : Int) = ((p + i : Nat) : Int) := by omega
    have n1 : ∀ {X : List Res}, Meets Tryz.prog 121 [sV t, .int .i64 ((p + i : Nat) : Int)] F M X (fun e H' => e = .returned (.int .i64 (byteI t (p + i))) ∧ H' = X) := byteAt_spec
    by_cases h5 : bAt t (p + i) = (w.getD i 0).toNat
    · rw [if_pos h5] at h3
      have hlt := bAt_lt_of (t := t) (p := p + i) (by rw [h5]; exact hne')
      have hb := byteI_lt hlt
      repeat' (first | (apply T.slen; apply rfl; apply rfl) | (apply T.mv; apply rfl; apply rfl) | (apply T.lss; apply rfl; apply rfl; apply rfl) | with_reducible refine Sr.nil ?_ | with_reducible refine S.seq ?_ | with_reducible refine S.block ?_ | with_reducible refine S.reg ?_ | with_reducible refine S.skip ?_ | (apply S.condQ; apply rfl; all_goals (intro _; try (exfalso; first | omega | with_reducible contradiction))) | fail)
      (apply S.draw; (case Hs => exact []); (case es => exact  [4]); (case n => exact  10); (case hn => rfl))
      repeat' (first | (apply T.addI; apply rfl; apply rfl; omega; apply rfl; rw [e1]) | (apply T.call; apply rfl; apply rfl; with_reducible exact n1; rintro _ _ ⟨rfl, rfl⟩; rw [hb]) | (apply T.sidx; apply rfl; apply rfl; omega; apply rfl) | (apply T.mv; apply rfl; apply rfl) | (apply T.asn; apply rfl; apply rfl) | (apply T.neq; apply rfl; apply rfl; apply rfl) | (apply T.addI; apply rfl; apply rfl; omega; apply rfl) | (apply T.convI64; apply rfl; omega; apply rfl) | with_reducible refine Sr.nil ?_ | with_reducible refine S.reg ?_ | with_reducible refine S.skip ?_ | with_reducible refine S.inBlock ?_ | (apply S.condQ; apply rfl; all_goals (intro _; try (exfalso; first | omega | with_reducible contradiction))) | (with_reducible apply T.ofRet) | (apply SA.qn; apply rfl; apply rfl; apply rfl; apply rfl; kernel_rfl) | (apply SA.qz; apply rfl; apply rfl; apply rfl; apply rfl; kernel_rfl) | (apply SA.qsn; apply rfl; apply rfl; apply rfl; kernel_rfl; (first | exact fun _ h => h | exact fun _ h => St.psub h (by ((repeat (first | dsimp only [List.set_cons_zero] | dsimp only [List.set_cons_succ])); repeat' first | exact PSub.refl _ | exact PSub.nil | (apply PSub.take; (repeat' first | (with_reducible exact pick_hd) | (with_reducible apply pick_tl))) | (with_reducible apply PSub.drop) | ((apply PSub.take); (repeat' first | exact pick_hd | (apply pick_tl))))))) | (apply SA.en; apply rfl; apply rfl; kernel_rfl) | (apply SA.done; apply rfl; kernel_rfl) | (apply SK.intro; (first | exact fun _ h => h | exact fun _ h => St.psub h (by ((repeat (first | dsimp only [List.set_cons_zero] | dsimp only [List.set_cons_succ])); repeat' first | exact PSub.refl _ | exact PSub.nil | (apply PSub.take; (repeat' first | (with_reducible exact pick_hd) | (with_reducible apply pick_tl))) | (with_reducible apply PSub.drop) | ((apply PSub.take); (repeat' first | exact pick_hd | (apply pick_tl))))))) | fail)
      exact ih _ _ _ _ ⟨i + 1, rfl, rfl, ⟨by omega, by omega, h3⟩, rfl⟩ (by omega) (by repeat' first | exact trivial | refine And.intro rfl ?_)
    · rw [if_neg h5] at h3
      rw [← h3]
      have e2 : ((p + i : Nat) : Int) = (p : Int) + (i : Int) := by omega
      by_cases hlt : p + i < t.length
      · have hb := byteI_lt hlt
        repeat' (first | (apply T.slen; apply rfl; apply rfl) | (apply T.mv; apply rfl; apply rfl) | (apply T.lss; apply rfl; apply rfl; apply rfl) | with_reducible refine Sr.nil ?_ | with_reducible refine S.seq ?_ | with_reducible refine S.block ?_ | with_reducible refine S.reg ?_ | with_reducible refine S.skip ?_ | (apply S.condQ; apply rfl; all_goals (intro _; try (exfalso; first | omega | with_reducible contradiction))) | fail)
        (apply S.draw; (case Hs => exact []); (case es => exact  [4]); (case n => exact  10); (case hn => rfl))
        repeat' (first | (apply T.addI; apply rfl; apply rfl; omega; apply rfl; rw [e1]) | (apply T.call; apply rfl; apply rfl; with_reducible exact n1; rintro _ _ ⟨rfl, rfl⟩; rw [hb]) | (apply T.sidx; apply rfl; apply rfl; omega; apply rfl) | (apply T.mv; apply rfl; apply rfl) | (apply T.neq; apply rfl; apply rfl; apply rfl) | (apply T.convI64; apply rfl; omega; apply rfl) | with_reducible refine Sr.nil ?_ | with_reducible refine S.seq ?_ | with_reducible refine S.reg ?_ | (apply S.condQ; apply rfl; all_goals (intro _; try (exfalso; first | omega | with_reducible contradiction))) | (with_reducible apply T.ofRet) | (apply SA.qn; apply rfl; apply rfl; apply rfl; apply rfl; kernel_rfl) | (apply SA.qz; apply rfl; apply rfl; apply rfl; apply rfl; kernel_rfl) | (apply SA.qsn; apply rfl; apply rfl; apply rfl; kernel_rfl; (first | exact fun _ h => h | exact fun _ h => St.psub h (by ((repeat (first | dsimp only [List.set_cons_zero] | dsimp only [List.set_cons_succ])); repeat' first | exact PSub.refl _ | exact PSub.nil | (apply PSub.take; (repeat' first | (with_reducible exact pick_hd) | (with_reducible apply pick_tl))) | (with_reducible apply PSub.drop) | ((apply PSub.take); (repeat' first | exact pick_hd | (apply pick_tl))))))) | (apply SA.en; apply rfl; apply rfl; kernel_rfl) | (apply SA.done; apply rfl; kernel_rfl) | (apply SK.intro; (first | exact fun _ h => h | exact fun _ h => St.psub h (by ((repeat (first | dsimp only [List.set_cons_zero] | dsimp only [List.set_cons_succ])); repeat' first | exact PSub.refl _ | exact PSub.nil | (apply PSub.take; (repeat' first | (with_reducible exact pick_hd) | (with_reducible apply pick_tl))) | (with_reducible apply PSub.drop) | ((apply PSub.take); (repeat' first | exact pick_hd | (apply pick_tl))))))) | fail)
        refine T.call rfl rfl fault_spec ?_
        rintro _ _ ⟨rfl, rfl⟩
        repeat' (first | (apply T.storeW; apply rfl; apply rfl; infer_instance; (first | rfl | (simp only [List.length_append, List.length_map, List.length_set, List.length_replicate, List.length_cons, List.length_nil]; first | done | omega)); (first | rfl | (simp only [List.length_append, List.length_map, List.length_set, List.length_replicate, List.length_cons, List.length_nil]; first | done | omega)); (first | rfl | (repeat' first | apply all_nV | apply all_bV | apply all_iV | rfl | apply all_app))) | with_reducible refine Sr.nil ?_ | (with_reducible apply T.ofRet) | (apply T.retC; apply rfl; ((repeat' first | apply RV.nil | (apply RV.tmp; apply rfl) | (apply RV.cellW; apply rfl; apply rfl; infer_instance; (first | rfl | (simp only [List.length_append, List.length_map, List.length_set, List.length_replicate, List.length_cons, List.length_nil]; first | done | omega))) | (apply RV.cellP; apply rfl; apply rfl; infer_instance; apply rfl))); apply rfl) | fail)
        exact ⟨_, PSub.drop (PSub.refl _), [], rfl, rfl⟩
      · have hb := byteI_ge hlt
        repeat' (first | (apply T.slen; apply rfl; apply rfl) | (apply T.mv; apply rfl; apply rfl) | (apply T.lss; apply rfl; apply rfl; apply rfl) | with_reducible refine Sr.nil ?_ | with_reducible refine S.seq ?_ | with_reducible refine S.block ?_ | with_reducible refine S.reg ?_ | with_reducible refine S.skip ?_ | (apply S.condQ; apply rfl; all_goals (intro _; try (exfalso; first | omega | with_reducible contradiction))) | fail)
        (apply S.draw; (case Hs => exact []); (case es => exact  [4]); (case n => exact  10); (case hn => rfl))
        repeat' (first | (apply T.addI; apply rfl; apply rfl; omega; apply rfl; rw [e1]) | (apply T.call; apply rfl; apply rfl; with_reducible exact n1; rintro _ _ ⟨rfl, rfl⟩; rw [hb]) | (apply T.sidx; apply rfl; apply rfl; omega; apply rfl) | (apply T.mv; apply rfl; apply rfl) | (apply T.neq; apply rfl; apply rfl; apply rfl) | (apply T.convI64; apply rfl; omega; apply rfl) | with_reducible refine Sr.nil ?_ | with_reducible refine S.seq ?_ | with_reducible refine S.reg ?_ | (apply S.condQ; apply rfl; all_goals (intro _; try (exfalso; first | omega | with_reducible contradiction))) | (with_reducible apply T.ofRet) | (apply SA.qn; apply rfl; apply rfl; apply rfl; apply rfl; kernel_rfl) | (apply SA.qz; apply rfl; apply rfl; apply rfl; apply rfl; kernel_rfl) | (apply SA.qsn; apply rfl; apply rfl; apply rfl; kernel_rfl; (first | exact fun _ h => h | exact fun _ h => St.psub h (by ((repeat (first | dsimp only [List.set_cons_zero] | dsimp only [List.set_cons_succ])); repeat' first | exact PSub.refl _ | exact PSub.nil | (apply PSub.take; (repeat' first | (with_reducible exact pick_hd) | (with_reducible apply pick_tl))) | (with_reducible apply PSub.drop) | ((apply PSub.take); (repeat' first | exact pick_hd | (apply pick_tl))))))) | (apply SA.en; apply rfl; apply rfl; kernel_rfl) | (apply SA.done; apply rfl; kernel_rfl) | (apply SK.intro; (first | exact fun _ h => h | exact fun _ h => St.psub h (by ((repeat (first | dsimp only [List.set_cons_zero] | dsimp only [List.set_cons_succ])); repeat' first | exact PSub.refl _ | exact PSub.nil | (apply PSub.take; (repeat' first | (with_reducible exact pick_hd) | (with_reducible apply pick_tl))) | (with_reducible apply PSub.drop) | ((apply PSub.take); (repeat' first | exact pick_hd | (apply pick_tl))))))) | fail)
        refine T.call rfl rfl fault_spec ?_
        rintro _ _ ⟨rfl, rfl⟩
        repeat' (first | (apply T.storeW; apply rfl; apply rfl; infer_instance; (first | rfl | (simp only [List.length_append, List.length_map, List.length_set, List.length_replicate, List.length_cons, List.length_nil]; first | done | omega)); (first | rfl | (simp only [List.length_append, List.length_map, List.length_set, List.length_replicate, List.length_cons, List.length_nil]; first | done | omega)); (first | rfl | (repeat' first | apply all_nV | apply all_bV | apply all_iV | rfl | apply all_app))) | with_reducible refine Sr.nil ?_ | (with_reducible apply T.ofRet) | (apply T.retC; apply rfl; ((repeat' first | apply RV.nil | (apply RV.tmp; apply rfl) | (apply RV.cellW; apply rfl; apply rfl; infer_instance; (first | rfl | (simp only [List.length_append, List.length_map, List.length_set, List.length_replicate, List.length_cons, List.length_nil]; first | done | omega))) | (apply RV.cellP; apply rfl; apply rfl; infer_instance; apply rfl))); apply rfl) | fail)
        exact ⟨_, PSub.drop (PSub.refl _), [], rfl, rfl⟩
  · obtain rfl : i = w.length := by omega
    rw [List.drop_length, wordX] at h3
    rw [← h3]
    have e1 : (p : Int) + (w.length : Int) = ((p + w.length : Nat) : Int) := by omega
    repeat' (first | (apply T.addI; apply rfl; apply rfl; omega; apply rfl; rw [e1]) | (refine Sr.rowOfN (n := 1) (sz := 6) rfl (by decide) ?_) | (apply T.slen; apply rfl; apply rfl) | (apply T.mv; apply rfl; apply rfl) | (apply T.lss; apply rfl; apply rfl; apply rfl) | (apply T.buildL; apply rfl; apply rfl; apply rfl) | (apply T.storeW; apply rfl; apply rfl; infer_instance; (first | rfl | (simp only [List.length_append, List.length_map, List.length_set, List.length_replicate, List.length_cons, List.length_nil]; first | done | omega)); (first | rfl | (simp only [List.length_append, List.length_map, List.length_set, List.length_replicate, List.length_cons, List.length_nil]; first | done | omega)); (first | rfl | (repeat' first | apply all_nV | apply all_bV | apply all_iV | rfl | apply all_app))) | (apply T.bsL; apply rfl; apply rfl; apply rfl; apply rfl; apply rfl; intro nb) | with_reducible refine Sr.nil ?_ | with_reducible refine S.seq ?_ | with_reducible refine S.reg ?_ | (apply S.exit; apply rfl) | (apply S.condQ; apply rfl; all_goals (intro _; try (exfalso; first | omega | with_reducible contradiction))) | (apply T.retC; apply rfl; ((repeat' first | apply RV.nil | (apply RV.tmp; apply rfl) | (apply RV.cellW; apply rfl; apply rfl; infer_instance; (first | rfl | (simp only [List.length_append, List.length_map, List.length_set, List.length_replicate, List.length_cons, List.length_nil]; first | done | omega))) | (apply RV.cellP; apply rfl; apply rfl; infer_instance; apply rfl))); apply rfl) | fail)
    exact ⟨_, PSub.take pick_hd (PSub.drop (PSub.refl _)), _, _, [], rfl, rfl⟩
end
end Go.Proofs.YtddbdgmaaogclaaGreatDoor
/- Nodes in a row that stand for values: forests; what has been read from a text is one value. -/
namespace Sg
/-- So many values, one behind the other. -/
inductive Fo : Nat → List Nd → Prop
  | nil : Fo 0 []
  | node {n : Nd} {m k : Nat} {a b : List Nd} : n.kids = (m : Int) → Fo m a → Fo k b → Fo (k + 1) (n :: (a ++ b))
theorem Fo.app {j : Nat} {a : List Nd} (h : Fo j a) {k : Nat} {b : List Nd} (hb : Fo k b) : Fo (j + k) (a ++ b) := by
  induction h with
  | nil => simpa using hb
  | @node n m i x y hn hx _ _ ih =>
    have := Fo.node (n := n) hn hx ih
    rw [List.cons_append, List.append_assoc, show i + 1 + k = i + k + 1 by omega]
    exact this
theorem Fo.one {n : Nd} {m : Nat} {a : List Nd} (hn : n.kids = (m : Int)) (ha : Fo m a) : Fo 1 (n :: a) := by
  have := Fo.node hn ha Fo.nil
  simpa using this
theorem Fo.one_inv {l : List Nd} (h : Fo 1 l) : ∃ (n : Nd) (m : Nat) (a : List Nd), l = n :: a ∧ n.kids = (m : Int) ∧ Fo m a := by
  cases h with
  | node hn ha hb =>
    cases hb
    exact ⟨_, _, _, by simp, hn, ha⟩
theorem Fo.le {k : Nat} {l : List Nd} (h : Fo k l) : k ≤ l.length := by
  induction h with
  | nil => exact Nat.le_refl _
  | node _ _ _ _ ih => simp only [List.length_cons, List.length_append]; omega
theorem Fo.list {k : Nat} {l : List Nd} (h : Fo k l) : ∃ xs : List (List Nd), xs.length = k ∧ l = xs.flatten ∧ ∀ x ∈ xs, Fo 1 x := by
  induction h with
  | nil => exact ⟨[], rfl, rfl, fun x hx => by cases hx⟩
  | @node n m i x y hn hx _ _ ih =>
    obtain ⟨xs, h1, h2, h3⟩ := ih
    refine ⟨(n :: x) :: xs, by simp [h1], by simp [h2], fun z hz => ?_⟩
    rcases List.mem_cons.1 hz with rfl | hz
    · exact Fo.one hn hx
    · exact h3 z hz
theorem Fo.of : ∀ {xs : List (List Nd)}, (∀ x ∈ xs, Fo 1 x) → Fo xs.length xs.flatten
  | [], _ => Fo.nil
  | x :: r, h => by
    have h1 := Fo.app (h x (List.mem_cons_self ..)) (Fo.of fun y hy => h y (List.mem_cons_of_mem _ hy))
    rw [List.flatten_cons, List.length_cons, show r.length + 1 = 1 + r.length by omega]
    exact h1
theorem Fo.named {l : List Nd} (h : Fo 1 l) (k : List UInt8) : Fo 1 (nameL l k) := by
  obtain ⟨n, m, a, rfl, h1, h2⟩ := h.one_inv
  exact Fo.one (n := n.named k) h1 h2
theorem flatX_fo {wh : List UInt8 → Int × Bool} {t : List UInt8} {p a : Nat} {c : UInt8} {l : List Nd} (h : flatX wh t p c = .ok a l) : Fo 1 l := by
  have key : ∀ {α β : Type} {g : Gt α} {f : Nat → α → Gt β} {b : Nat} {y : β}, (g.bind f = .ok b y) → ∃ a v, g = .ok a v ∧ f a v = .ok b y := fun {α β g f b y} h => by
    cases g with
    | bad c' b' => cases h
    | ok a v => exact ⟨a, v, rfl, h⟩
  unfold flatX at h
  repeat' split at h
  all_goals first
    | (obtain ⟨b, v, -, h⟩ := key h; cases h; exact Fo.one (m := 0) rfl .nil)
    | cases h
def RowFo (hd : Nd) (out : List Nd) : Prop := ∃ m : Nat, hd.kids = (m : Int) ∧ Fo m out
theorem RowFo.add {hd : Nd} {out l : List Nd} (h : RowFo hd out) (hl : Fo 1 l) : RowFo hd.more (out ++ l) := by
  obtain ⟨m, h1, h2⟩ := h
  refine ⟨m + 1, ?_, h2.app hl⟩
  simp only [Nd.more, h1]
  omega
theorem item_fo {val : Nat → Gt (List Nd)} (hv : ∀ {p a l}, val p = .ok a l → Fo 1 l) {t : List UInt8} {obj : Bool} {p a : Nat} {names : List (List UInt8)} {g : List Nd × List UInt8} (h : itemX val t obj p names = .ok a g) : Fo 1 g.1 := by
  have key : ∀ {α β : Type} {g : Gt α} {f : Nat → α → Gt β} {b : Nat} {y : β}, (g.bind f = .ok b y) → ∃ a v, g = .ok a v ∧ f a v = .ok b y := fun {α β g f b y} h => by
    cases g with
    | bad c' b' => cases h
    | ok a v => exact ⟨a, v, rfl, h⟩
  unfold itemX at h
  split at h
  · split at h
    · obtain ⟨b, s, -, h⟩ := key h
      split at h
      · cases h
      · split at h
        · obtain ⟨d, v, h1, h⟩ := key h
          cases h
          exact (hv h1).named _
        · cases h
    · cases h
  · obtain ⟨d, v, h1, h⟩ := key h
    cases h
    exact hv h1
theorem row_fo {val : Nat → Gt (List Nd)} (hv : ∀ {p a l}, val p = .ok a l → Fo 1 l) {t : List UInt8} {obj : Bool} : ∀ {f p a : Nat} {names : List (List UInt8)} {hd : Nd} {out l : List Nd}, rowX val t obj f p names hd out = .ok a l → RowFo hd out → Fo 1 l
  | 0, p, a, names, hd, out, l, h, _ => by rw [rowX] at h; cases h
  | f + 1, p, a, names, hd, out, l, h, hr => by
    rw [rowX] at h
    cases hi : itemX val t obj p names with
    | bad c b => rw [hi] at h; cases h
    | ok b g =>
      rw [hi] at h
      have hg := item_fo hv hi
      have hr2 := hr.add hg
      have h' : rowE t obj (fun p' => rowX val t obj f p' (names ++ [g.2]) hd.more (out ++ g.1)) b (hd.more :: (out ++ g.1)) = .ok a l := h
      unfold rowE at h'
      split at h'
      · cases h'
        obtain ⟨m, h1, h2⟩ := hr2
        exact Fo.one h1 h2
      · split at h'
        · exact row_fo hv h' hr2
        · cases h'
theorem val_fo {wh : List UInt8 → Int × Bool} {t : List UInt8} : ∀ {d p a : Nat} {l : List Nd}, valX wh t d p = .ok a l → Fo 1 l := by
  intro d
  induction d with
  | zero =>
    intro p a l h
    rw [valX] at h
    split at h
    · cases h
    · split at h
      · cases h
      · exact flatX_fo h
  | succ d ih =>
    intro p a l h
    rw [valX] at h
    split at h
    · cases h
    · split at h
      · rename_i c hc hb
        have h' : (if atB t (skipB t (p + 1)) (closeB (decide (c = 123))) = true then Gt.ok (skipB t (p + 1) + 1) [nd (if c = 123 then 7 else 6)] else rowX (valX wh t d) t (decide (c = 123)) (t.length + 1) (skipB t (p + 1)) [] (nd (if c = 123 then 7 else 6)) []) = Gt.ok a l := h
        split at h'
        · cases h'
          exact Fo.one (m := 0) rfl .nil
        · exact row_fo ih h' ⟨0, rfl, .nil⟩
      · exact flatX_fo h
theorem parse_fo {wh : List UInt8 → Int × Bool} {t : List UInt8} {a : Nat} {l : List Nd} (h : parseX wh t = .ok a l) : Fo 1 l := by
  unfold parseX at h
  split at h
  · cases h
  · cases hv : valX wh t 32 (skipB t 0) with
    | bad c b => rw [hv] at h; cases h
    | ok b v =>
      rw [hv] at h
      have h' : (if skipB t b < t.length then Gt.bad 31 (skipB t b) else .ok (skipB t b) v) = .ok a l := h
      split at h'
      · cases h'
      · cases h'
        exact val_fo hv
/-- Where values stand that follow one another from a place on. -/
def offs : Nat → List (List Nd) → List Nat
  | _, [] => []
  | p, x :: r => p :: offs (p + x.length) r
theorem offs_len : ∀ (p : Nat) (xs : List (List Nd)), (offs p xs).length = xs.length
  | _, [] => rfl
  | p, x :: r => by simp [offs, offs_len]
def headN (x : List Nd) : Nd := match x with
  | n :: _ => n
  | [] => nd 0
/-- The place of the first value with a name; -1: there is none. -/
def membX (p : Nat) (xs : List (List Nd)) (key : List UInt8) : Int := match xs with
  | [] => -1
  | x :: r => if (headN x).key = key then (p : Int) else membX (p + x.length) r key
end Sg
/- What has been read from a text: how long it is, its texts and kinds. -/
namespace Sg
theorem bind_ok {α β : Type} {g : Gt α} {f : Nat → α → Gt β} {b : Nat} {y : β} (h : g.bind f = .ok b y) : ∃ a v, g = .ok a v ∧ f a v = .ok b y := by
  cases g with
  | bad c' b' => cases h
  | ok a v => exact ⟨a, v, rfl, h⟩
theorem utfL_le (u : Nat) : (utfL u).length ≤ 4 := by
  unfold utfL
  split
  · exact (show 1 ≤ 4 by decide)
  · split
    · exact (show 2 ≤ 4 by decide)
    · split
      · exact (show 3 ≤ 4 by decide)
      · exact Nat.le_refl 4
theorem quotX_size {t : List UInt8} : ∀ {f p a : Nat} {acc s : List UInt8}, p ≤ t.length → quotX t f p acc = .ok a s → acc.length ≤ 4 * p → s.length ≤ 4 * a
  | 0, p, a, acc, s, _, h, _ => by rw [quotX] at h; cases h
  | f + 1, p, a, acc, s, hp, h, hl => by
    rw [quotX] at h
    split at h
    · cases h
    · rename_i c hc
      have hlt : p < t.length := (List.getElem?_eq_some_iff.1 hc).1
      split at h
      · cases h
      · split at h
        · cases h
          omega
        · split at h
          · obtain ⟨b, u, h1, h2⟩ := bind_ok h
            have h3 := escX_fits b u h1
            have h4 := utfL_le u
            exact quotX_size h3.2 h2 (by rw [List.length_append]; omega)
          · split at h
            · exact quotX_size hlt h (by rw [List.length_append, List.length_singleton]; omega)
            · obtain ⟨b, u, h1, h2⟩ := bind_ok h
              have h3 := sequX_fits hlt b u h1
              exact quotX_size h3.2 h2 (by rw [List.length_append, List.length_take, List.length_drop]; omega)
theorem quoted_size {t : List UInt8} {p a : Nat} {s : List UInt8} (hp : p ≤ t.length) (h : quotedX t p = .ok a s) : s.length ≤ 4 * t.length := by
  have h1 := quotX_size hp h (by simp)
  have h2 := (quoted_fits hp a s h).2
  omega
/-- The bounds of a node. -/
structure NdOk (B : Nat) (n : Nd) : Prop where
  text : n.text.length ≤ B
  key : n.key.length ≤ B
  kind : 1 ≤ n.kind ∧ n.kind ≤ 7
theorem flatX_ok {wh : List UInt8 → Int × Bool} {t : List UInt8} {p a : Nat} {c : UInt8} {l : List Nd} (hp : p < t.length) (h : flatX wh t p c = .ok a l) : ∀ n ∈ l, NdOk (4 * t.length) n := by
  unfold flatX at h
  split at h
  · obtain ⟨b, s, h1, h⟩ := bind_ok h
    cases h
    intro n hn
    rw [List.mem_singleton.1 hn]
    exact ⟨quoted_size hp h1, Nat.zero_le _, (show (1 : Int) ≤ 5 by decide), (show (5 : Int) ≤ 7 by decide)⟩
  · split at h
    · obtain ⟨b, s, h1, h⟩ := bind_ok h
      cases h
      intro n hn
      rw [List.mem_singleton.1 hn]
      refine ⟨?_, Nat.zero_le _, (show (1 : Int) ≤ 4 by decide), (show (4 : Int) ≤ 7 by decide)⟩
      simp only
      unfold sl
      rw [List.length_take, List.length_drop]
      omega
    · repeat' split at h
      all_goals first
        | (obtain ⟨b, v, -, h⟩ := bind_ok h; cases h; intro n hn; rw [List.mem_singleton.1 hn]; exact ⟨Nat.zero_le _, Nat.zero_le _, by decide, by decide⟩)
        | cases h
/-- What is said of values: their length, their nodes' bounds. -/
def ValSz (t : List UInt8) (p a : Nat) (l : List Nd) : Prop := p + l.length ≤ a ∧ a ≤ t.length ∧ (∀ n ∈ l, NdOk (4 * t.length) n)
theorem nameL_len (l : List Nd) (k : List UInt8) : (nameL l k).length = l.length := by cases l <;> rfl
theorem nameL_ok {B : Nat} {l : List Nd} {k : List UInt8} (h : ∀ n ∈ l, NdOk B n) (hk : k.length ≤ B) : ∀ n ∈ nameL l k, NdOk B n := by
  cases l with
  | nil => exact h
  | cons x r =>
    intro n hn
    rcases List.mem_cons.1 hn with rfl | hn
    · have := h x (List.mem_cons_self ..)
      exact ⟨this.text, hk, this.kind⟩
    · exact h n (List.mem_cons_of_mem _ hn)
theorem item_sz {val : Nat → Gt (List Nd)} {t : List UInt8} (hv : ∀ {p a l}, p ≤ t.length → val p = .ok a l → ValSz t p a l) {obj : Bool} {p a : Nat} {names : List (List UInt8)} {g : List Nd × List UInt8} (hp : p ≤ t.length) (h : itemX val t obj p names = .ok a g) : ValSz t p a g.1 ∧ g.2.length ≤ 4 * t.length := by
  unfold itemX at h
  split at h
  · split at h
    · rename_i hq
      have hlt := atB_lt hq
      obtain ⟨b, s, h1, h⟩ := bind_ok h
      have hf := quoted_fits (t := t) (p := p + 1) hlt b s h1
      have hs := quoted_size (t := t) (p := p + 1) hlt h1
      split at h
      · cases h
      · split at h
        · rename_i hc
          have hlt2 := atB_lt hc
          have h2 := skip_ge t b
          have h3 := skip_ge t (skipB t b + 1)
          have h4 := skip_le (t := t) (p := skipB t b + 1) hlt2
          obtain ⟨d, v, h5, h⟩ := bind_ok h
          cases h
          obtain ⟨h6, h7, h8⟩ := hv h4 h5
          exact ⟨⟨by rw [nameL_len]; omega, h7, nameL_ok h8 hs⟩, hs⟩
        · cases h
    · cases h
  · obtain ⟨d, v, h1, h⟩ := bind_ok h
    cases h
    exact ⟨hv hp h1, Nat.zero_le _⟩
theorem row_sz {val : Nat → Gt (List Nd)} {t : List UInt8} (hv : ∀ {p a l}, p ≤ t.length → val p = .ok a l → ValSz t p a l) {obj : Bool} {s : Nat} : ∀ {f p a : Nat} {names : List (List UInt8)} {hd : Nd} {out l : List Nd}, rowX val t obj f p names hd out = .ok a l → p ≤ t.length → s + 1 + out.length ≤ p → NdOk (4 * t.length) hd → (∀ n ∈ out, NdOk (4 * t.length) n) → ValSz t s a l
  | 0, p, a, names, hd, out, l, h, _, _, _, _ => by rw [rowX] at h; cases h
  | f + 1, p, a, names, hd, out, l, h, hp, hl, hh, ho => by
    rw [rowX] at h
    cases hi : itemX val t obj p names with
    | bad c b => rw [hi] at h; cases h
    | ok b g =>
      rw [hi] at h
      obtain ⟨⟨g1, g2, g3⟩, -⟩ := item_sz hv hp hi
      have hh2 : NdOk (4 * t.length) hd.more := ⟨hh.text, hh.key, hh.kind⟩
      have ho2 : ∀ n ∈ out ++ g.1, NdOk (4 * t.length) n := fun n hn => (List.mem_append.1 hn).elim (ho n) (g3 n)
      have h' : rowE t obj (fun p' => rowX val t obj f p' (names ++ [g.2]) hd.more (out ++ g.1)) b (hd.more :: (out ++ g.1)) = .ok a l := h
      unfold rowE at h'
      have hb := skip_ge t b
      split at h'
      · rename_i hc
        have hlt := atB_lt hc
        cases h'
        refine ⟨?_, by omega, fun n hn => (List.mem_cons.1 hn).elim (fun e => e ▸ hh2) (ho2 n)⟩
        rw [List.length_cons, List.length_append]
        omega
      · split at h'
        · rename_i hc
          have hlt := atB_lt hc
          have h3 := skip_ge t (skipB t b + 1)
          have h4 := skip_le (t := t) (p := skipB t b + 1) hlt
          exact row_sz hv h' h4 (by rw [List.length_append]; omega) hh2 ho2
        · cases h'
theorem nd_ok {B : Nat} {k : Int} (h : 1 ≤ k ∧ k ≤ 7) : NdOk B (nd k) := ⟨Nat.zero_le _, Nat.zero_le _, h⟩
theorem val_sz {wh : List UInt8 → Int × Bool} {t : List UInt8} : ∀ {d p a : Nat} {l : List Nd}, p ≤ t.length → valX wh t d p = .ok a l → ValSz t p a l := by
  have flat : ∀ {p a : Nat} {l : List Nd} {c : UInt8}, t[p]? = some c → flatX wh t p c = .ok a l → ValSz t p a l := by
    intro p a l c hc h
    have hlt : p < t.length := (List.getElem?_eq_some_iff.1 hc).1
    have h1 := flatX_fits hlt a l h
    obtain ⟨n, h2, -⟩ := flatX_one h
    refine ⟨?_, h1.2, flatX_ok hlt h⟩
    rw [h2, List.length_singleton]
    omega
  intro d
  induction d with
  | zero =>
    intro p a l hp h
    rw [valX] at h
    split at h
    · cases h
    · rename_i hc
      split at h
      · cases h
      · exact flat hc h
  | succ d ih =>
    intro p a l hp h
    rw [valX] at h
    split at h
    · cases h
    · rename_i c hc
      have hlt : p < t.length := (List.getElem?_eq_some_iff.1 hc).1
      have hk : (1 : Int) ≤ (if c = 123 then 7 else 6) ∧ (if c = 123 then 7 else 6 : Int) ≤ 7 := by split <;> decide
      split at h
      · have h' : (if atB t (skipB t (p + 1)) (closeB (decide (c = 123))) = true then Gt.ok (skipB t (p + 1) + 1) [nd (if c = 123 then 7 else 6)] else rowX (valX wh t d) t (decide (c = 123)) (t.length + 1) (skipB t (p + 1)) [] (nd (if c = 123 then 7 else 6)) []) = Gt.ok a l := h
        clear h
        have h := h'
        clear h'
        have h3 := skip_ge t (p + 1)
        have h4 := skip_le (t := t) (p := p + 1) hlt
        split at h
        · rename_i hq
          have hlt2 := atB_lt hq
          cases h
          refine ⟨by rw [List.length_singleton]; omega, by omega, fun n hn => ?_⟩
          rw [List.mem_singleton.1 hn]
          exact nd_ok hk
        · exact row_sz ih h h4 (by simp only [List.length_nil]; omega) (nd_ok hk) (fun n hn => by cases hn)
      · exact flat hc h
theorem parse_sz {wh : List UInt8 → Int × Bool} {t : List UInt8} {a : Nat} {l : List Nd} (h : parseX wh t = .ok a l) : l.length ≤ t.length ∧ (∀ n ∈ l, NdOk (4 * t.length) n) ∧ t.length ≤ 262144 := by
  unfold parseX at h
  split at h
  · cases h
  · obtain ⟨b, v, hv, h⟩ := bind_ok h
    split at h
    · cases h
    · cases h
      obtain ⟨h1, h2, h3⟩ := val_sz (skip_le (Nat.zero_le _)) hv
      exact ⟨by omega, h3, by omega⟩
end Sg
/- Faults of what is read from a text are never 0; a list's names are not asked. -/
namespace Sg
/-- Faults are none of them 0. -/
def Gt.named {α : Type} (g : Gt α) : Prop := ∀ c b, g = .bad c b → c ≠ 0
theorem Gt.named_bad {α : Type} {c : Int} {b : Nat} (h : c ≠ 0) : (Gt.bad c b : Gt α).named := fun _ _ e => by cases e; exact h
theorem Gt.named_ok {α : Type} {a : Nat} {v : α} : (Gt.ok a v).named := fun _ _ e => by cases e
theorem Gt.named_bind {α β : Type} {g : Gt α} {f : Nat → α → Gt β} (h : g.named) (hf : ∀ a v, g = .ok a v → (f a v).named) : (g.bind f).named := fun c b e => by
  cases g with
  | bad c' b' => cases e; exact h _ _ rfl
  | ok a v => exact hf a v rfl c b e
theorem digsX_named {t : List UInt8} {p : Nat} : (digsX t p).named := by
  unfold digsX
  split
  · exact Gt.named_bad (by decide)
  · exact Gt.named_ok
theorem numInt_named {t : List UInt8} {p : Nat} : (numInt t p).named := by
  unfold numInt
  split
  · exact Gt.named_ok
  · exact digsX_named
theorem numX_named {t : List UInt8} {p : Nat} : (numX t p).named := by
  unfold numX
  refine Gt.named_bind numInt_named fun a _ _ => Gt.named_bind ?_ fun b _ _ => ?_
  · unfold numFrac
    split
    · exact digsX_named
    · exact Gt.named_ok
  · unfold numExp
    split
    · exact digsX_named
    · exact Gt.named_ok
theorem wordX_named {t : List UInt8} : ∀ {ws : List UInt8} {p : Nat}, (wordX t p ws).named
  | [], p => Gt.named_ok
  | w :: ws, p => by
    rw [wordX]
    split
    · exact wordX_named
    · exact Gt.named_bad (by decide)
theorem fourX_named {t : List UInt8} {low : Bool} {fr : Nat} : ∀ {k p u : Nat}, (fourX t low fr k p u).named
  | 0, p, u => Gt.named_ok
  | k + 1, p, u => by
    rw [fourX]
    split
    · exact Gt.named_bad (by decide)
    · split
      · exact Gt.named_bad (by decide)
      · split
        · exact Gt.named_bad (by decide)
        · exact fourX_named
theorem signX_named {t : List UInt8} {fr p : Nat} {c : UInt8} : (signX t fr p c).named := by
  unfold signX
  split
  · exact Gt.named_bad (by decide)
  · split
    · exact Gt.named_ok
    · exact Gt.named_bad (by decide)
theorem escX_named {t : List UInt8} {fr : Nat} : (escX t fr).named := by
  unfold escX
  split
  · exact Gt.named_bad (by decide)
  · split
    · unfold pointX
      refine Gt.named_bind fourX_named fun a v _ => ?_
      split
      · exact Gt.named_ok
      · exact Gt.named_bind signX_named fun _ _ _ => Gt.named_bind signX_named fun _ _ _ => Gt.named_bind fourX_named fun _ _ _ => Gt.named_ok
    · split
      · exact Gt.named_ok
      · exact Gt.named_bad (by decide)
theorem seqX_named {t : List UInt8} {fr : Nat} : ∀ {k p lo hi : Nat}, (seqX t fr k p lo hi).named
  | 0, p, lo, hi => Gt.named_ok
  | k + 1, p, lo, hi => by
    rw [seqX]
    split
    · exact Gt.named_bad (by decide)
    · split
      · exact Gt.named_bad (by decide)
      · exact seqX_named
theorem sequX_named {t : List UInt8} {p : Nat} {c : UInt8} : (sequX t p c).named := by
  unfold sequX
  split
  · exact Gt.named_bad (by decide)
  · exact seqX_named
theorem quotX_named {t : List UInt8} : ∀ {f p : Nat} {acc : List UInt8}, p ≤ t.length → t.length < p + f → (quotX t f p acc).named
  | 0, p, acc, h1, h2 => by omega
  | f + 1, p, acc, h1, h2 => by
    rw [quotX]
    split
    · exact Gt.named_bad (by decide)
    · rename_i c hc
      have hlt : p < t.length := (List.getElem?_eq_some_iff.1 hc).1
      split
      · exact Gt.named_bad (by decide)
      · split
        · exact Gt.named_ok
        · split
          · refine Gt.named_bind escX_named fun a v hv => ?_
            have := escX_fits a v hv
            exact quotX_named this.2 (by omega)
          · split
            · exact quotX_named hlt (by omega)
            · refine Gt.named_bind sequX_named fun a v hv => ?_
              have := sequX_fits hlt a v hv
              exact quotX_named this.2 (by omega)
theorem quoted_named {t : List UInt8} {p : Nat} (h : p ≤ t.length) : (quotedX t p).named := quotX_named h (by omega)
theorem flatX_named {wh : List UInt8 → Int × Bool} {t : List UInt8} {p : Nat} {c : UInt8} (h : p < t.length) : (flatX wh t p c).named := by
  unfold flatX
  split
  · exact Gt.named_bind (quoted_named h) fun _ _ _ => Gt.named_ok
  · split
    · exact Gt.named_bind numX_named fun _ _ _ => Gt.named_ok
    · split
      · exact Gt.named_bind wordX_named fun _ _ _ => Gt.named_ok
      · split
        · exact Gt.named_bind wordX_named fun _ _ _ => Gt.named_ok
        · split
          · exact Gt.named_bind wordX_named fun _ _ _ => Gt.named_ok
          · exact Gt.named_bad (by decide)
/-- A reader of values as it should be. -/
structure ValR (t : List UInt8) (val : Nat → Gt (List Nd)) : Prop where
  fits : ∀ p, p ≤ t.length → (val p).fits (p + 1) t.length
  sz : ∀ {p a l}, p ≤ t.length → val p = .ok a l → ValSz t p a l
  fo : ∀ {p a l}, val p = .ok a l → Fo 1 l
  named : ∀ p, p ≤ t.length → (val p).named
theorem item_fits {val : Nat → Gt (List Nd)} {t : List UInt8} (hv : ValR t val) {obj : Bool} {p : Nat} {names : List (List UInt8)} (hp : p ≤ t.length) : (itemX val t obj p names).fits (p + 1) t.length := by
  unfold itemX
  split
  · split
    · rename_i hq
      have hlt := atB_lt hq
      refine Gt.fits_bind (quoted_fits (t := t) (p := p + 1) hlt) fun b s h1 h2 => ?_
      split
      · exact Gt.fits_bad
      · split
        · rename_i hc
          have hlt2 := atB_lt hc
          have h3 := skip_ge t b
          have h4 := skip_ge t (skipB t b + 1)
          have h5 := skip_le (t := t) (p := skipB t b + 1) hlt2
          intro a v h
          obtain ⟨d, l, h6, h7⟩ := bind_ok h
          cases h7
          have := hv.fits _ h5 _ _ h6
          omega
        · exact Gt.fits_bad
    · exact Gt.fits_bad
  · intro a v h
    obtain ⟨d, l, h6, h7⟩ := bind_ok h
    cases h7
    exact hv.fits _ hp _ _ h6
theorem item_named {val : Nat → Gt (List Nd)} {t : List UInt8} (hv : ValR t val) {obj : Bool} {p : Nat} {names : List (List UInt8)} (hp : p ≤ t.length) : (itemX val t obj p names).named := by
  unfold itemX
  split
  · split
    · rename_i hq
      have hlt := atB_lt hq
      refine Gt.named_bind (quoted_named (t := t) (p := p + 1) hlt) fun b s h1 => ?_
      split
      · exact Gt.named_bad (by decide)
      · split
        · rename_i hc
          have hlt2 := atB_lt hc
          exact Gt.named_bind (hv.named _ (skip_le (t := t) (p := skipB t b + 1) hlt2)) fun _ _ _ => Gt.named_ok
        · exact Gt.named_bad (by decide)
    · exact Gt.named_bad (by decide)
  · exact Gt.named_bind (hv.named _ hp) fun _ _ _ => Gt.named_ok
theorem row_named {val : Nat → Gt (List Nd)} {t : List UInt8} (hv : ValR t val) {obj : Bool} : ∀ {f p : Nat} {names : List (List UInt8)} {hd : Nd} {out : List Nd}, p ≤ t.length → t.length < p + f → (rowX val t obj f p names hd out).named
  | 0, p, names, hd, out, h1, h2 => by omega
  | f + 1, p, names, hd, out, h1, h2 => by
    rw [rowX]
    refine Gt.named_bind (item_named hv h1) fun a g hg => ?_
    have h3 := item_fits hv h1 a g hg
    unfold rowE
    split
    · exact Gt.named_ok
    · split
      · rename_i hc
        have hlt := atB_lt hc
        have h4 := skip_ge t a
        have h5 := skip_ge t (skipB t a + 1)
        have h6 := skip_le (t := t) (p := skipB t a + 1) hlt
        exact row_named hv h6 (by omega)
      · exact Gt.named_bad (by decide)
theorem row_fits {val : Nat → Gt (List Nd)} {t : List UInt8} (hv : ValR t val) {obj : Bool} : ∀ {f p : Nat} {names : List (List UInt8)} {hd : Nd} {out : List Nd}, p ≤ t.length → (rowX val t obj f p names hd out).fits (p + 1) t.length
  | 0, p, names, hd, out, h1 => by rw [rowX]; exact Gt.fits_bad
  | f + 1, p, names, hd, out, h1 => by
    rw [rowX]
    refine Gt.fits_bind (item_fits hv h1) fun a g h3 h4 => ?_
    have h5 := skip_ge t a
    unfold rowE
    split
    · rename_i hc
      have hlt := atB_lt hc
      exact Gt.fits_ok (by omega)
    · split
      · rename_i hc
        have hlt := atB_lt hc
        have h6 := skip_ge t (skipB t a + 1)
        have h7 := skip_le (t := t) (p := skipB t a + 1) hlt
        intro b v h
        have := row_fits hv h7 b v h
        omega
      · exact Gt.fits_bad
theorem val_fits {wh : List UInt8 → Int × Bool} {t : List UInt8} : ∀ d, ValR t (valX wh t d) := by
  intro d
  induction d with
  | zero =>
    refine ⟨fun p hp => ?_, val_sz, val_fo, fun p hp => ?_⟩
    · rw [valX]
      split
      · exact Gt.fits_bad
      · rename_i c hc
        split
        · exact Gt.fits_bad
        · exact flatX_fits (List.getElem?_eq_some_iff.1 hc).1
    · rw [valX]
      split
      · exact Gt.named_bad (by decide)
      · rename_i c hc
        split
        · exact Gt.named_bad (by decide)
        · exact flatX_named (List.getElem?_eq_some_iff.1 hc).1
  | succ d ih =>
    refine ⟨fun p hp => ?_, val_sz, val_fo, fun p hp => ?_⟩
    · rw [valX]
      split
      · exact Gt.fits_bad
      · rename_i c hc
        have hlt : p < t.length := (List.getElem?_eq_some_iff.1 hc).1
        split
        · simp only
          have h3 := skip_ge t (p + 1)
          have h4 := skip_le (t := t) (p := p + 1) hlt
          split
          · rename_i hq
            have hlt2 := atB_lt hq
            exact Gt.fits_ok (by omega)
          · intro a v h
            have := row_fits ih h4 a v h
            omega
        · exact flatX_fits hlt
    · rw [valX]
      split
      · exact Gt.named_bad (by decide)
      · rename_i c hc
        have hlt : p < t.length := (List.getElem?_eq_some_iff.1 hc).1
        split
        · simp only
          have h4 := skip_le (t := t) (p := p + 1) hlt
          split
          · exact Gt.named_ok
          · exact row_named ih h4 (by omega)
        · exact flatX_named hlt
theorem parse_code {wh : List UInt8 → Int × Bool} {t : List UInt8} {c : Int} {b : Nat} (h : parseX wh t = .bad c b) : c ≠ 0 := by
  unfold parseX at h
  split at h
  · cases h
    decide
  · cases hv : valX wh t 32 (skipB t 0) with
    | bad c' b' =>
      rw [hv] at h
      cases h
      exact (val_fits (wh := wh) (t := t) 32).named _ (skip_le (Nat.zero_le _)) _ _ hv
    | ok a v =>
      rw [hv] at h
      have h' : (if skipB t a < t.length then Gt.bad 31 (skipB t a) else .ok (skipB t a) v) = .bad c b := h
      split at h'
      · cases h'
        decide
      · cases h'
end Sg
/- Where the values in a list or an object stand. -/
namespace Sg
theorem drop_split {α : Type} {v a b : List α} {p : Nat} (h : v.drop p = a ++ b) : v.drop (p + a.length) = b := by
  rw [← List.drop_drop, h, List.drop_left]
theorem drop_le {α : Type} {v a b : List α} {p : Nat} (h : v.drop p = a ++ b) (ha : 0 < a.length) : p + a.length + b.length = v.length := by
  have := congrArg List.length h
  rw [List.length_drop, List.length_append] at this
  omega
theorem drop_head [Inhabited Nd] {v b : List Nd} {n : Nd} {p : Nat} (h : v.drop p = n :: b) : v.getD p default = n ∧ p < v.length := by
  have h1 : p < v.length := by
    rcases Nat.lt_or_ge p v.length with h1 | h1
    · exact h1
    · rw [List.drop_eq_nil_of_le h1] at h
      cases h
  rw [List.drop_eq_getElem_cons h1] at h
  injection h with h2 _
  exact ⟨by simp [List.getD, h1, h2], h1⟩
theorem Fo.pos {l : List Nd} (h : Fo 1 l) : 0 < l.length := h.le
theorem offs_snoc : ∀ (p : Nat) (xs : List (List Nd)) (x : List Nd), offs p (xs ++ [x]) = offs p xs ++ [p + xs.flatten.length]
  | p, [], x => by simp [offs]
  | p, y :: r, x => by
    rw [List.cons_append, offs, offs, offs_snoc]
    simp [Nat.add_assoc]
theorem offs_get : ∀ {p : Nat} {xs : List (List Nd)} {i : Nat}, i < xs.length → (offs p xs).getD i 0 = p + (xs.take i).flatten.length
  | p, x :: r, 0, _ => by simp [offs]
  | p, x :: r, i + 1, h => by
    have := offs_get (p := p + x.length) (xs := r) (i := i) (by simpa using h)
    rw [offs, List.getD_cons_succ, this, List.take_succ_cons, List.flatten_cons, List.length_append, Nat.add_assoc]
theorem membX_cons (p : Nat) (x : List Nd) (r : List (List Nd)) (key : List UInt8) : membX p (x :: r) key = if (headN x).key = key then (p : Int) else membX (p + x.length) r key := rfl
/-- A value at a place: its node and what stands in it. -/
structure At (v : List Nd) (p : Nat) (n : Nd) (xs : List (List Nd)) (r : List Nd) : Prop where
  drop : v.drop p = n :: (xs.flatten ++ r)
  kids : n.kids = (xs.length : Int)
  fo : ∀ x ∈ xs, Fo 1 x
theorem At.of_fo {v x r : List Nd} {p : Nat} (h : v.drop p = x ++ r) (hx : Fo 1 x) : ∃ n xs, x = n :: xs.flatten ∧ At v p n xs r := by
  obtain ⟨n, m, a, rfl, h1, h2⟩ := hx.one_inv
  obtain ⟨xs, h3, rfl, h4⟩ := h2.list
  exact ⟨n, xs, rfl, ⟨by simpa using h, by rw [h1, h3], h4⟩⟩
/-- The values in a value, each at its place. -/
theorem At.kid {v r : List Nd} {p i : Nat} {n : Nd} {xs : List (List Nd)} (h : At v p n xs r) (hi : i < xs.length) : v.drop (p + 1 + (xs.take i).flatten.length) = xs[i] ++ ((xs.drop (i + 1)).flatten ++ r) := by
  have h1 : v.drop (p + 1) = xs.flatten ++ r := by
    rw [← List.drop_drop, h.drop]
    rfl
  have h2 : xs.flatten = (xs.take i).flatten ++ (xs.drop i).flatten := by rw [← List.flatten_append, List.take_append_drop]
  rw [h2, List.append_assoc] at h1
  rw [drop_split h1, List.drop_eq_getElem_cons hi, List.flatten_cons, List.append_assoc]
theorem take_flat_succ {xs : List (List Nd)} {i : Nat} (hi : i < xs.length) : (xs.take (i + 1)).flatten.length = (xs.take i).flatten.length + xs[i].length := by
  rw [List.take_succ_eq_append_getElem hi, List.flatten_append, List.length_append]
  simp only [List.flatten_cons, List.flatten_nil, List.append_nil]
end Sg
