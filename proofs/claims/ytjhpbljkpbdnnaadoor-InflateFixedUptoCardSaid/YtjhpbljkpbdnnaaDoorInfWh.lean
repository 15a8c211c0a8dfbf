/- The walk of the statement InflateFixed. -/
import Derived.Test.YtjhpbljkpbdnnaaDoorInfWe
import Derived.Test.YtjhpbljkpbdnnaaDoorInfWf
import Derived.Test.YtjhpbljkpbdnnaaDoorMoreC
namespace Infl
theorem five_ok {l : List Tk} {out : List UInt8} (hv : Valid out l) : (∀ t ∈ l, Fit t) ∧ ∀ t ∈ l, tokOk fixedL five t := by
  induction l generalizing out with
  | nil => exact ⟨fun t h => absurd h List.not_mem_nil, fun t h => absurd h List.not_mem_nil⟩
  | cons t l ih =>
    obtain ⟨h1, h2⟩ := hv
    have ih' := ih h2
    have hf : Fit t := by
      rcases h1 with h | h
      · exact .inl h
      · exact .inr ⟨h.1, h.2.1, h.2.2.1, h.2.2.2.1⟩
    have ht : tokOk fixedL five t := by
      unfold tokOk
      by_cases h0 : t.2.1 = 0
      · rw [if_pos h0]
        have := t.1.toNat_lt
        exact fixedL_ne _ (by omega)
      · rw [if_neg h0]
        have hv' := hf.resolve_left h0
        have a := lenSy_le hv'.1 hv'.2.1
        have d := disSy_spec hv'.2.2.1 hv'.2.2.2
        have h5 : ∀ s, s < 30 → five.getD s 0 ≠ 0 := by decide +kernel
        have hlen : five.length = 30 := by decide +kernel
        rw [fixedL_len, hlen]
        exact ⟨by omega, fixedL_ne _ (by omega), by omega, h5 _ (by omega)⟩
    constructor
    · intro x hx
      rcases List.mem_cons.1 hx with rfl | hx
      · exact hf
      · exact ih'.1 x hx
    · intro x hx
      rcases List.mem_cons.1 hx with rfl | hx
      · exact ht
      · exact ih'.2 x hx
theorem fixedL_15 (s : Nat) : fixedL.getD s 0 ≤ 15 := fixedL_wd.le15 s
theorem five_15 (s : Nat) : five.getD s 0 ≤ 15 := by
  by_cases h : s < 30
  · have : ∀ s, s < 30 → five.getD s 0 ≤ 15 := by decide +kernel
    exact this s h
  · have hlen : five.length = 30 := by decide +kernel
    rw [List.getD_eq_getElem?_getD, List.getElem?_eq_none (by omega)]
    simp
theorem five_len : five.length = 30 := by decide +kernel
end Infl
namespace Sg
open Go
theorem Meets.post {P : Program} {g : FuncId} {args : List Value} {F : World} {M : List Nat} {H : List Res} {post post' : Ending → List Res → Prop} (h : Meets P g args F M H post) (hp : ∀ e H', post e H' → ∃ H'', post' e H'' ∧ PSub H'' H') : Meets P g args F M H post' := fun w hw => (h w hw).mono fun e _ ⟨H', h1, h2⟩ =>
  let ⟨H'', a, b⟩ := hp e H' h1
  ⟨H'', a, h2.psub b⟩
end Sg
namespace Go.Proofs.YtjhpbljkpbdnnaaDoor
open Sg Go.IntWalk Infl
set_option maxRecDepth 100000
set_option maxHeartbeats 2000000
theorem fixed_walk {F : World} {ac bc : Nat} {a b : Option Addr} {xs ys : List Rk} [hA : ∀ H, Rd F [] H a (xs.flatMap rkV)] [hB : ∀ H, Rd F [] H b (ys.flatMap rkV)] [hg : ∀ H, Rd F [] H (some ⟨0, 0, none⟩) (ordL.map nV)] (hb : xs.length + ys.length ≤ 1048576) :
    Meets Tryd.prog 4 [.slice a xs.length ac, .slice b ys.length bc] F [] [] (fun e _ => e = .returned (.bool true)) := by
  refine Meets.enter Tryd.func4 rfl rfl ?_
  refine S.nilrow 67 3 ?_
  repeat' (first | ((with_reducible apply T.asn); apply rfl; apply rfl) | with_reducible refine Sr.nil ?_ | with_reducible refine S.seq ?_ | with_reducible refine S.reg ?_ | fail)
  refine T.call rfl rfl started_spec ?_
  rintro _ _ ⟨rfl, rfl⟩
  repeat' (first | ((with_reducible apply T.mv); apply rfl; apply rfl) | ((with_reducible apply T.asn); apply rfl; apply rfl) | ((with_reducible apply T.notB); apply rfl; apply rfl) | with_reducible refine Sr.nil ?_ | with_reducible refine S.seq ?_ | with_reducible refine S.reg ?_ | with_reducible refine S.skip ?_ | ((with_reducible apply S.condF); apply rfl) | (with_reducible apply T.ofRet) | fail)
  refine T.appendAllF (g := rkV) (xs := ([] : List Rk)) (us := xs) (m := xs.length) rfl rfl inferInstance inferInstance rfl (fun _ => rfl) (fun _ => rfl) rfl rfl (by constructor <;> omega) rfl ?_
  intro z1 d1
  rw [List.nil_append, Nat.zero_add]
  repeat' (first | ((with_reducible apply T.mv); apply rfl; apply rfl) | ((with_reducible apply T.asn); apply rfl; apply rfl) | with_reducible refine Sr.nil ?_ | with_reducible refine S.seq ?_ | with_reducible refine S.reg ?_ | fail)
  refine T.appendAllF (g := rkV) (xs := xs) (us := ys) (m := ys.length) rfl rfl inferInstance inferInstance rfl (fun _ => rfl) (fun _ => rfl) rfl rfl (by constructor <;> omega) rfl ?_
  intro z2 d2
  have hall : xs.length + ys.length = (xs ++ ys).length := List.length_append.symm
  rw [hall]
  repeat' (first | ((with_reducible apply T.mv); apply rfl; apply rfl) | ((with_reducible apply T.asn); apply rfl; apply rfl) | with_reducible refine Sr.nil ?_ | with_reducible refine S.seq ?_ | with_reducible refine S.reg ?_ | fail)
  refine T.call rfl rfl (unfolded_spec (xs := xs ++ ys) (by omega)) ?_
  rintro _ _ ⟨oa, oc, aa, ac2, rfl, rfl⟩
  have hv := unfR_valid (xs ++ ys) []
  have hln := unfR_len (xs ++ ys) [] (by simp)
  generalize unfR (xs ++ ys) [] = cs at *
  obtain ⟨hl1, hl2⟩ := hln
  repeat' (first | ((with_reducible apply T.mv); apply rfl; apply rfl) | ((with_reducible apply T.asn); apply rfl; apply rfl) | ((with_reducible apply T.extract); apply rfl; apply rfl; apply rfl) | with_reducible refine Sr.nil ?_ | (with_reducible apply T.ofRet) | fail)
  refine S.seq ?_
  repeat' (first | ((with_reducible apply T.mv); apply rfl; apply rfl) | ((with_reducible apply T.asn); apply rfl; apply rfl) | ((with_reducible apply T.len); apply rfl; apply rfl) | with_reducible refine Sr.nil ?_ | with_reducible refine S.reg ?_ | fail)
  refine S.seq ?_
  refine S.cut (fun H' e' => ∃ k : Nat, k ≤ cs.length ∧ H' = rw_ oa oc (unf [] cs) :: .row aa ac2 67 3 cs.length (cs.flatMap tkV) :: [] ∧ e' = [(6, .slice oa (unf [] cs).length oc), (7, .slice aa cs.length ac2), (8, .int .i64 k)]) ?_ ?_
  · intro k' hrest
    repeat' (first | ((with_reducible apply T.mv); apply rfl; apply rfl) | ((with_reducible apply T.asn); apply rfl; apply rfl) | ((with_reducible apply T.len); apply rfl; apply rfl) | ((with_reducible apply T.gtr); apply rfl; apply rfl; apply rfl) | with_reducible refine Sr.nil ?_ | with_reducible refine S.seq ?_ | with_reducible refine S.reg ?_ | with_reducible refine S.skip ?_ | ((with_reducible apply S.condQ); apply rfl; all_goals (intro _; try (exfalso; omega))) | fail)
    · exact S.sublist (hrest _ _ _ ⟨cs.length, Nat.le_refl _, rfl, rfl⟩ (by repeat' first | exact trivial | refine And.intro rfl ?_)) (by ((repeat (first | dsimp only [List.set_cons_zero] | dsimp only [List.set_cons_succ])); repeat' first | exact PSub.refl _ | exact PSub.nil | ((with_reducible apply PSub.take); (repeat' first | (with_reducible exact pick_hd) | (with_reducible apply pick_tl))) | (with_reducible apply PSub.drop) | ((apply PSub.take); (repeat' first | exact pick_hd | (apply pick_tl)))))
    · exact S.sublist (hrest _ _ _ ⟨xs.length, by omega, rfl, rfl⟩ (by repeat' first | exact trivial | refine And.intro rfl ?_)) (by ((repeat (first | dsimp only [List.set_cons_zero] | dsimp only [List.set_cons_succ])); repeat' first | exact PSub.refl _ | exact PSub.nil | ((with_reducible apply PSub.take); (repeat' first | (with_reducible exact pick_hd) | (with_reducible apply pick_tl))) | (with_reducible apply PSub.drop) | ((apply PSub.take); (repeat' first | exact pick_hd | (apply pick_tl)))))
  rintro _ _ ⟨k, hk, rfl, rfl⟩
  refine S.nilrow 5 1 ?_
  repeat' (first | ((with_reducible apply T.mv); apply rfl; apply rfl) | ((with_reducible apply T.asn); apply rfl; apply rfl) | ((with_reducible apply T.buildL); apply rfl; apply rfl; apply rfl) | ((with_reducible apply T.box); apply rfl; apply rfl; intro nb) | with_reducible refine Sr.nil ?_ | with_reducible refine S.seq ?_ | with_reducible refine S.reg ?_ | fail)
  change Sr _ _ _ (.blk nb (wr none 0 ([], 0)) 37 :: rw_ none 0 ([], 0).1 :: _) _ _ _ _
  refine T.call rfl rfl (numberW_spec (n := 0) (k := 1) wr_nil (by omega) (by omega) (by simp)) ?_
  rintro _ _ ⟨o1, q1, rfl, rfl⟩
  have hw1 := wr_puts wr_nil (more := numB 0 1) numB_two
  repeat' (first | ((with_reducible apply T.mv); apply rfl; apply rfl) | with_reducible refine Sr.nil ?_ | with_reducible refine S.seq ?_ | with_reducible refine S.reg ?_ | (with_reducible apply T.ofRet) | fail)
  refine T.call rfl rfl (numberW_spec (n := 1) (k := 2) hw1 (by omega) (by omega) (by simp [numB_len])) ?_
  rintro _ _ ⟨o2, q2, rfl, rfl⟩
  have hw2 := wr_puts hw1 (more := numB 1 2) numB_two
  have hs2 : wputs (wputs ([], 0) (numB 0 1)) (numB 1 2) = wputs ([], 0) (numB 0 1 ++ numB 1 2) := (wputs_app _ _ _).symm
  rw [hs2] at hw2 ⊢
  have hx : cs.take k ++ cs.drop k = cs := List.take_append_drop k cs
  have hkt : (cs.take k).length = k := by rw [List.length_take]; omega
  have hkd : (cs.drop k).length = cs.length - k := List.length_drop
  have hvx : Valid [] (cs.take k ++ cs.drop k) := by rw [hx]; exact hv
  obtain ⟨v1, v2⟩ := Valid.app.1 hvx
  have hok1 := five_ok v1
  have hok2 := five_ok v2
  have key : ∀ {ts : List Tk} {X : List Res} {lb fb tcp : Nat} {ta oa : Option Addr} {oc : Nat} {st : List UInt8 × Nat} {bits : List Nat} [Rd F [] X ta (ts.flatMap tkV)] [Rd F [] X (some ⟨lb, 0, none⟩) (fixedL.map nV)] [Rd F [] X (some ⟨fb, 0, none⟩) (five.map nV)] {m : Nat}, ts.length = m → Wr st bits → bits.length + 48 * ts.length ≤ 900000000 → (∀ t ∈ ts, Fit t) → (∀ t ∈ ts, tokOk fixedL five t) →
      Meets Tryd.prog 19 [.pointer (some ⟨nb, 0, none⟩), .slice ta m tcp, .slice (some ⟨lb, 0, none⟩) 288 288, .slice (some ⟨fb, 0, none⟩) 30 30] F [] (.blk nb (wr oa oc st) 37 :: rw_ oa oc st.1 :: X)
        (fun e H' => ∃ oa' oc', e = .returned (.bool true) ∧ H' = .blk nb (wr oa' oc' (wputs st (toksB fixedL five ts))) 37 :: rw_ oa' oc' (wputs st (toksB fixedL five ts)).1 :: X) := by
    intro ts X lb fb tcp ta oa oc st bits i1 i2 i3 m hm hw hl hf hok
    subst hm
    have h288 : fixedL.length = 288 := fixedL_len
    have h30 : five.length = 30 := five_len
    have h := tokens_spec (H := X) (p := nb) (oa := oa) (oc := oc) (ts := ts) (ll := fixedL) (dl := five) (tc := tcp) (lc := 288) (dc := 30) (hT := i1) (hL := i2) (hD := i3) hw hl hf (by omega) (by omega) (by omega) fixedL_15 five_15
    rw [h288, h30] at h
    refine h.mono fun e H' ⟨oa', oc', st', b, e1, e2, e3, e4⟩ => ?_
    cases b with
    | false =>
      obtain ⟨t, ht, hno⟩ := e4 rfl
      exact absurd (hok t ht) hno
    | true =>
      obtain ⟨rfl, -⟩ := e3 rfl
      exact ⟨oa', oc', e1, e2⟩
  have n1 : ∀ {A B : Res} {X : List Res}, Meets Tryd.prog 20 [] F [] (A :: B :: X) (fun e H' => ∃ b, e = .returned (.slice (some ⟨b, 0, none⟩) 288 288) ∧ H' = A :: B :: .row (some ⟨b, 0, none⟩) 288 3 1 288 (fixedL.map nV) :: X) := by
    intro A B X
    exact fixedW_spec.post fun e H' ⟨b, h1, h2⟩ => ⟨_, ⟨b, h1, rfl⟩, by subst h2; ((repeat (first | dsimp only [List.set_cons_zero] | dsimp only [List.set_cons_succ])); repeat' first | exact PSub.refl _ | exact PSub.nil | ((with_reducible apply PSub.take); (repeat' first | (with_reducible exact pick_hd) | (with_reducible apply pick_tl))) | (with_reducible apply PSub.drop) | ((apply PSub.take); (repeat' first | exact pick_hd | (apply pick_tl))))⟩
  have n2 : ∀ {A B : Res} {X : List Res}, Meets Tryd.prog 21 [] F [] (A :: B :: X) (fun e H' => ∃ b, e = .returned (.slice (some ⟨b, 0, none⟩) 30 30) ∧ H' = A :: B :: .row (some ⟨b, 0, none⟩) 30 3 1 30 (five.map nV) :: X) := by
    intro A B X
    exact fiveW_spec.post fun e H' ⟨b, h1, h2⟩ => ⟨_, ⟨b, h1, rfl⟩, by subst h2; ((repeat (first | dsimp only [List.set_cons_zero] | dsimp only [List.set_cons_succ])); repeat' first | exact PSub.refl _ | exact PSub.nil | ((with_reducible apply PSub.take); (repeat' first | (with_reducible exact pick_hd) | (with_reducible apply pick_tl))) | (with_reducible apply PSub.drop) | ((apply PSub.take); (repeat' first | exact pick_hd | (apply pick_tl))))⟩
  repeat' (first | with_reducible refine Sr.nil ?_ | (with_reducible apply T.ofRet) | fail)
  refine S.capR (ad := aa) inferInstance fun hcap => ?_
  refine S.seq ?_
  refine S.cut (fun H' e' => ∃ (o3 : Option Addr) (q3 : Nat), H' = .blk nb (wr o3 q3 (wputs ([], 0) (fixB 0 (cs.take k)))) 37 :: rw_ o3 q3 (wputs ([], 0) (fixB 0 (cs.take k))).1 :: rw_ oa oc (unf [] cs) :: .row aa ac2 67 3 cs.length (cs.flatMap tkV) :: [] ∧ e' = [(6, .slice oa (unf [] cs).length oc), (7, .slice aa cs.length ac2), (8, .int .i64 k), (9, .pointer (some ⟨nb, 0, none⟩)), (10, .bool true)]) ?_ ?_
  · intro k' hrest
    have hb2 : fixB 0 (cs.take k) = (numB 0 1 ++ numB 1 2) ++ toksB fixedL five (cs.take k) := by simp [fixB]
    rw [hb2, wputs_app] at hrest
    have n3 : ∀ {X : List Res} {lb fb : Nat} [Rd F [] X aa (cs.flatMap tkV)] [Rd F [] X (some ⟨lb, 0, none⟩) (fixedL.map nV)] [Rd F [] X (some ⟨fb, 0, none⟩) (five.map nV)], Meets Tryd.prog 19 [.pointer (some ⟨nb, 0, none⟩), .slice aa k ac2, .slice (some ⟨lb, 0, none⟩) 288 288, .slice (some ⟨fb, 0, none⟩) 30 30] F [] (.blk nb (wr o2 q2 (wputs ([], 0) (numB 0 1 ++ numB 1 2))) 37 :: rw_ o2 q2 (wputs ([], 0) (numB 0 1 ++ numB 1 2)).1 :: X)
        (fun e H' => ∃ oa' oc', e = .returned (.bool true) ∧ H' = .blk nb (wr oa' oc' (wputs (wputs ([], 0) (numB 0 1 ++ numB 1 2)) (toksB fixedL five (cs.take k)))) 37 :: rw_ oa' oc' (wputs (wputs ([], 0) (numB 0 1 ++ numB 1 2)) (toksB fixedL five (cs.take k))).1 :: X) := by
      intro X lb fb i1 i2 i3
      have i4 : Rd F [] X aa ((cs.take k).flatMap tkV) := Rd.takeF (g := tkV) (sz := 3) i1 (fun _ => rfl) k
      exact key hkt hw2 (by simp only [List.length_append, numB_len, List.length_nil, hkt]; omega) hok1.1 hok1.2
    ((with_reducible apply S.draw); (case Hs => exact rw_ oa oc (unf [] cs) :: .row aa ac2 67 3 cs.length (cs.flatMap tkV) :: []); (case es => exact  [4, 5, 6]); (case n => exact  8); (case hn => rfl))
    repeat' (first | ((with_reducible apply T.call); apply rfl; apply rfl; with_reducible exact n1; rintro _ _ ⟨lb, rfl, rfl⟩) | ((with_reducible apply T.call); apply rfl; apply rfl; with_reducible exact n2; rintro _ _ ⟨fb, rfl, rfl⟩) | ((with_reducible apply T.call); apply rfl; apply rfl; with_reducible exact n3; rintro _ _ ⟨o3, q3, rfl, rfl⟩) | ((with_reducible apply T.mv); apply rfl; apply rfl) | ((with_reducible apply T.asn); apply rfl; apply rfl) | ((with_reducible apply T.sliceHK); apply rfl; apply rfl; omega; apply rfl) | with_reducible refine Sr.nil ?_ | (with_reducible apply T.ofRet) | ((with_reducible apply SA.qsn); apply rfl; apply rfl; apply rfl; kernel_rfl; (first | exact fun _ h => h | exact fun _ h => St.psub h (by ((repeat (first | dsimp only [List.set_cons_zero] | dsimp only [List.set_cons_succ])); repeat' first | exact PSub.refl _ | exact PSub.nil | ((with_reducible apply PSub.take); (repeat' first | (with_reducible exact pick_hd) | (with_reducible apply pick_tl))) | (with_reducible apply PSub.drop) | ((apply PSub.take); (repeat' first | exact pick_hd | (apply pick_tl))))))) | ((with_reducible apply SA.en); apply rfl; apply rfl; kernel_rfl) | ((with_reducible apply SA.done); apply rfl; kernel_rfl) | ((with_reducible apply SK.intro); (first | exact fun _ h => h | exact fun _ h => St.psub h (by ((repeat (first | dsimp only [List.set_cons_zero] | dsimp only [List.set_cons_succ])); repeat' first | exact PSub.refl _ | exact PSub.nil | ((with_reducible apply PSub.take); (repeat' first | (with_reducible exact pick_hd) | (with_reducible apply pick_tl))) | (with_reducible apply PSub.drop) | ((apply PSub.take); (repeat' first | exact pick_hd | (apply pick_tl))))))) | fail)
    all_goals exact S.sublist (hrest _ _ _ ⟨o3, q3, rfl, rfl⟩ (by repeat' first | exact trivial | refine And.intro rfl ?_)) (by ((repeat (first | dsimp only [List.set_cons_zero] | dsimp only [List.set_cons_succ])); repeat' first | exact PSub.refl _ | exact PSub.nil | ((with_reducible apply PSub.take); (repeat' first | (with_reducible exact pick_hd) | (with_reducible apply pick_tl))) | (with_reducible apply PSub.drop) | ((apply PSub.take); (repeat' first | exact pick_hd | (apply pick_tl)))))
  rintro _ _ ⟨o3, q3, rfl, rfl⟩
  have hw3 := wr_puts wr_nil (more := fixB 0 (cs.take k)) (fun x hx => by
    rcases List.mem_append.1 hx with h | h
    · exact numB_two x h
    rcases List.mem_append.1 h with h | h
    · exact numB_two x h
    · exact toksB_two _ _ _ x h)
  have hB3 : (fixB 0 (cs.take k)).length ≤ 48 * k + 18 := by
    have h1 := toks_len fixedL_15 five_15 hok1.1
    have h2 : (wordB (W fixedL 256) (fixedL.getD 256 0)).length ≤ 15 := by rw [wordB_len]; exact fixedL_15 256
    rw [fixB, List.length_append, List.length_append, numB_len, numB_len, toksB, List.length_append]
    omega
  generalize hs3 : wputs ([], 0) (fixB 0 (cs.take k)) = s3 at *
  repeat' (first | ((with_reducible apply T.mv); apply rfl; apply rfl) | with_reducible refine S.seq ?_ | with_reducible refine S.reg ?_ | fail)
  refine T.call rfl rfl (numberW_spec (n := 1) (k := 1) hw3 (by omega) (by omega) (by rw [List.nil_append]; omega)) ?_
  rintro _ _ ⟨o4, q4, rfl, rfl⟩
  have hw4 := wr_puts hw3 (more := numB 1 1) numB_two
  repeat' (first | ((with_reducible apply T.mv); apply rfl; apply rfl) | with_reducible refine Sr.nil ?_ | with_reducible refine S.seq ?_ | with_reducible refine S.reg ?_ | (with_reducible apply T.ofRet) | fail)
  refine T.call rfl rfl (numberW_spec (n := 1) (k := 2) hw4 (by omega) (by omega) (by rw [List.nil_append, List.length_append, numB_len]; omega)) ?_
  rintro _ _ ⟨o5, q5, rfl, rfl⟩
  have hw5 := wr_puts hw4 (more := numB 1 2) numB_two
  have hL5 : ([] ++ fixB 0 (cs.take k) ++ numB 1 1 ++ numB 1 2).length ≤ 48 * k + 21 := by simp only [List.length_append, List.length_nil, numB_len]; omega
  generalize hs5 : wputs (wputs s3 (numB 1 1)) (numB 1 2) = s5 at *
  have hsub : Rd F [] [Res.row aa ac2 67 3 cs.length (cs.flatMap tkV)] aa (cs.flatMap tkV) := inferInstance
  repeat' (first | with_reducible refine Sr.nil ?_ | (with_reducible apply T.ofRet) | fail)
  refine S.seq ?_
  refine S.cut (fun H' e' => ∃ (o6 : Option Addr) (q6 : Nat), H' = .blk nb (wr o6 q6 (wputs s5 (toksB fixedL five (cs.drop k)))) 37 :: rw_ o6 q6 (wputs s5 (toksB fixedL five (cs.drop k))).1 :: rw_ oa oc (unf [] cs) :: [] ∧ e' = [(6, .slice oa (unf [] cs).length oc), (9, .pointer (some ⟨nb, 0, none⟩)), (10, .bool true), (11, .bool true)]) ?_ ?_
  · intro k' hrest
    have n3 : ∀ {X : List Res} {lb fb : Nat} [Rd F [] X aa (cs.flatMap tkV)] [Rd F [] X (some ⟨lb, 0, none⟩) (fixedL.map nV)] [Rd F [] X (some ⟨fb, 0, none⟩) (five.map nV)], Meets Tryd.prog 19 [.pointer (some ⟨nb, 0, none⟩), .slice (saddr aa ac2 k 3) (cs.length - k) (ac2 - k), .slice (some ⟨lb, 0, none⟩) 288 288, .slice (some ⟨fb, 0, none⟩) 30 30] F [] (.blk nb (wr o5 q5 s5) 37 :: rw_ o5 q5 s5.1 :: X)
        (fun e H' => ∃ oa' oc', e = .returned (.bool true) ∧ H' = .blk nb (wr oa' oc' (wputs s5 (toksB fixedL five (cs.drop k)))) 37 :: rw_ oa' oc' (wputs s5 (toksB fixedL five (cs.drop k))).1 :: X) := by
      intro X lb fb i1 i2 i3
      have i4 : Rd F [] X (saddr aa ac2 k 3) ((cs.drop k).flatMap tkV) := Rd.subF (g := tkV) (sz := 3) i1 (fun _ => rfl) hcap
      exact key hkd hw5 (by rw [hkd]; omega) hok2.1 hok2.2
    ((with_reducible apply S.draw); (case Hs => exact rw_ oa oc (unf [] cs) :: .row aa ac2 67 3 cs.length (cs.flatMap tkV) :: []); (case es => exact  [4, 5, 6]); (case n => exact  8); (case hn => rfl))
    repeat' (first | ((with_reducible apply T.call); apply rfl; apply rfl; with_reducible exact n1; rintro _ _ ⟨lb, rfl, rfl⟩) | ((with_reducible apply T.call); apply rfl; apply rfl; with_reducible exact n2; rintro _ _ ⟨fb, rfl, rfl⟩) | ((with_reducible apply T.call); apply rfl; apply rfl; with_reducible exact n3; rintro _ _ ⟨o3, q3, rfl, rfl⟩) | ((with_reducible apply T.mv); apply rfl; apply rfl) | ((with_reducible apply T.asn); apply rfl; apply rfl) | ((with_reducible apply T.sliceLK); apply rfl; apply rfl; omega; apply rfl) | with_reducible refine Sr.nil ?_ | (with_reducible apply T.ofRet) | ((with_reducible apply SA.qsn); apply rfl; apply rfl; apply rfl; kernel_rfl; (first | exact fun _ h => h | exact fun _ h => St.psub h (by ((repeat (first | dsimp only [List.set_cons_zero] | dsimp only [List.set_cons_succ])); repeat' first | exact PSub.refl _ | exact PSub.nil | ((with_reducible apply PSub.take); (repeat' first | (with_reducible exact pick_hd) | (with_reducible apply pick_tl))) | (with_reducible apply PSub.drop) | ((apply PSub.take); (repeat' first | exact pick_hd | (apply pick_tl))))))) | ((with_reducible apply SA.en); apply rfl; apply rfl; kernel_rfl) | ((with_reducible apply SA.done); apply rfl; kernel_rfl) | ((with_reducible apply SK.intro); (first | exact fun _ h => h | exact fun _ h => St.psub h (by ((repeat (first | dsimp only [List.set_cons_zero] | dsimp only [List.set_cons_succ])); repeat' first | exact PSub.refl _ | exact PSub.nil | ((with_reducible apply PSub.take); (repeat' first | (with_reducible exact pick_hd) | (with_reducible apply pick_tl))) | (with_reducible apply PSub.drop) | ((apply PSub.take); (repeat' first | exact pick_hd | (apply pick_tl))))))) | fail)
    all_goals exact S.sublist (hrest _ _ _ ⟨o3, q3, rfl, rfl⟩ (by repeat' first | exact trivial | refine And.intro rfl ?_)) (by ((repeat (first | dsimp only [List.set_cons_zero] | dsimp only [List.set_cons_succ])); repeat' first | exact PSub.refl _ | exact PSub.nil | ((with_reducible apply PSub.take); (repeat' first | (with_reducible exact pick_hd) | (with_reducible apply pick_tl))) | (with_reducible apply PSub.drop) | ((apply PSub.take); (repeat' first | exact pick_hd | (apply pick_tl)))))
  rintro _ _ ⟨o6, q6, rfl, rfl⟩
  have hfin : wputs s5 (toksB fixedL five (cs.drop k)) = wputs ([], 0) (fixB 0 (cs.take k) ++ fixB 1 (cs.drop k)) := by
    rw [← hs5, ← hs3]
    simp only [← wputs_app, fixB, List.append_assoc]
  rw [hfin]
  have hwz := wr_puts wr_nil (more := fixB 0 (cs.take k) ++ fixB 1 (cs.drop k)) (fun x hx => by
    rcases List.mem_append.1 hx with h | h
    all_goals
      rcases List.mem_append.1 h with h | h
      · exact numB_two x h
      rcases List.mem_append.1 h with h | h
      · exact numB_two x h
      · exact toksB_two _ _ _ x h)
  rw [List.nil_append] at hwz
  have hI := infl_fixed (m := 1048576) hwz hvx (by rw [hx]; omega)
  rw [hx] at hI
  have hzl := hwz.len
  have hzf := hwz.fr
  generalize wputs ([], 0) (fixB 0 (cs.take k) ++ fixB 1 (cs.drop k)) = sz at *
  have hB4 : (fixB 1 (cs.drop k)).length ≤ 48 * (cs.length - k) + 18 := by
    have h1 := toks_len fixedL_15 five_15 hok2.1
    have h2 : (wordB (W fixedL 256) (fixedL.getD 256 0)).length ≤ 15 := by rw [wordB_len]; exact fixedL_15 256
    rw [hkd] at h1
    rw [fixB, List.length_append, List.length_append, numB_len, numB_len, toksB, List.length_append]
    omega
  rw [List.length_append] at hzl
  repeat' (first | ((with_reducible apply T.mv); apply rfl; apply rfl) | ((with_reducible apply T.nilCheck); apply rfl; apply rfl) | ((with_reducible apply T.fieldAddrZ); apply rfl; apply rfl) | ((with_reducible apply T.load); apply rfl; apply rfl; infer_instance; apply rfl; apply rfl) | ((with_reducible apply T.pickT); apply rfl; apply rfl; apply rfl) | with_reducible refine S.seq ?_ | with_reducible refine S.reg ?_ | ((with_reducible apply T.ung); apply rfl) | fail)
  refine T.call rfl rfl (unfolds_spec (bs := sz.1) (want := unf [] cs) (by omega) (by omega) hI) ?_
  rintro _ _ ⟨rfl, rfl⟩
  repeat' (first | ((with_reducible apply T.asn); apply rfl; apply rfl) | ((with_reducible apply T.pickT); apply rfl; apply rfl; apply rfl) | with_reducible refine Sr.nil ?_ | ((with_reducible apply T.retW); apply rfl) | (with_reducible apply T.ofRet) | fail)
  exact ⟨[], PSub.nil, by simp⟩
end Go.Proofs.YtjhpbljkpbdnnaaDoor
