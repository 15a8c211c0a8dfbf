/- The walks of the statements' own helpers: same, started; what Take keeps. -/
import Derived.Test.YtcojlgkfkifhmaaRepD
/- maps -/
namespace Go.Proofs.Ytcojlgkfkifhmaa
open Sg Go.IntWalk
set_option maxRecDepth 100000
set_option maxHeartbeats 1000000
theorem same_spec {F : World} {M : List Nat} {H : List Res} {a b : Option Addr} {m n : Nat} {xs ys : List UInt8} [hA : Rd F M H a (xs.map bV)] [hB : Rd F M H b (ys.map bV)] (hx : xs.length ≤ 1000000000000000) :
    Meets Try.prog 14 [.slice a xs.length m, .slice b ys.length n] F M H (fun e H' => e = .returned (.bool (decide (xs = ys))) ∧ H' = H) := by
  refine Meets.enter Try.func14 rfl rfl ?_
  repeat' (first | ((with_reducible apply T.mv); apply rfl; apply rfl) | ((with_reducible apply T.asn); apply rfl; apply rfl) | ((with_reducible apply T.len); apply rfl; apply rfl) | ((with_reducible apply T.neq); apply rfl; apply rfl; apply rfl) | with_reducible refine Sr.nil ?_ | with_reducible refine S.seq ?_ | with_reducible refine S.block ?_ | with_reducible refine S.reg ?_ | with_reducible refine S.skip ?_ | ((with_reducible apply T.retW); apply rfl) | ((with_reducible apply S.condQ); apply rfl; all_goals (intro _; try (exfalso; omega))) | fail)
  · refine ⟨_, .refl _, ?_, rfl⟩
    have : xs ≠ ys := fun h => by subst h; omega
    simp [this]
  · have hxy : xs.length = ys.length := by omega
    refine S.loop (fun μ H' e => ∃ i : Nat, H' = H ∧ e = [(0, .slice a xs.length m), (1, .slice b ys.length n), (5, .int .i64 i)] ∧ (i ≤ xs.length ∧ ∀ j < i, xs.getD j 0 = ys.getD j 0) ∧ μ = xs.length - i) ?_ _ _ ⟨0, rfl, rfl, by simp, rfl⟩ ⟨rfl, rfl, rfl, trivial⟩
    rintro _ _ _ ⟨i, rfl, rfl, ⟨hi, hp⟩, rfl⟩ ih
    repeat' (first | ((with_reducible apply T.mv); apply rfl; apply rfl) | ((with_reducible apply T.asn); apply rfl; apply rfl) | ((with_reducible apply T.len); apply rfl; apply rfl) | ((with_reducible apply T.lss); apply rfl; apply rfl; apply rfl) | ((with_reducible apply T.neq); apply rfl; apply rfl; apply rfl) | ((with_reducible apply T.addI); apply rfl; apply rfl; omega; apply rfl) | ((with_reducible apply T.ixN); apply rfl; apply rfl; infer_instance; omega; (first | omega | (simp only [List.length_map]; omega) | (simp; omega)); apply rfl) | ((with_reducible apply T.loadB); apply rfl; infer_instance; omega; apply rfl) | with_reducible refine Sr.nil ?_ | with_reducible refine S.seq ?_ | with_reducible refine S.block ?_ | with_reducible refine S.reg ?_ | with_reducible refine S.skip ?_ | with_reducible refine S.inBlock ?_ | ((with_reducible apply S.exit); apply rfl) | ((with_reducible apply S.quiet); apply rfl; kernel_rfl) | ((with_reducible apply T.retW); apply rfl) | ((with_reducible apply S.condQ); apply rfl; all_goals (intro _; try (exfalso; omega))) | fail)
    · refine ⟨_, .refl _, ?_, rfl⟩
      have : xs ≠ ys := fun h => by subst h; simp_all
      simp [this]
    · refine ih _ _ _ _ ⟨i + 1, rfl, rfl, ⟨by omega, fun j hj => ?_⟩, rfl⟩ (by omega) ⟨rfl, rfl, rfl, trivial⟩
      by_cases h : j = i
      · subst h
        rename_i h2
        exact UInt8.toNat_inj.1 (by omega)
      · exact hp j (by omega)
    · refine ⟨_, .refl _, ?_, rfl⟩
      have : xs = ys := List.ext_getElem hxy fun j h1 h2 => by
        have := hp j (by omega)
        simpa [List.getD, h1, h2] using this
      simp [this]
theorem same_eq {F : World} {M : List Nat} {H : List Res} {a b : Option Addr} {m n : Nat} {xs : List UInt8} (hA : Rd F M H a (xs.map bV)) (hB : Rd F M H b (xs.map bV)) (hx : xs.length ≤ 1000000000000000) :
    Meets Try.prog 14 [.slice a xs.length m, .slice b xs.length n] F M H (fun e H' => e = .returned (.bool true) ∧ H' = H) := by
  have := same_spec (hA := hA) (hB := hB) (m := m) (n := n) hx
  simpa using this
/- What Take keeps. -/
theorem eins_mem {x p : List UInt8 × Int} : ∀ {m : Ents}, p ∈ eins x m ↔ p = x ∨ p ∈ m
  | [] => by simp [eins]
  | y :: r => by
    unfold eins
    split
    · simp
    · rw [List.mem_cons, eins_mem, List.mem_cons]
      constructor
      · rintro (h | h | h) <;> simp [h]
      · rintro (h | h | h) <;> simp [h]
theorem eins_len {x : List UInt8 × Int} : ∀ {m : Ents}, (eins x m).length = m.length + 1
  | [] => rfl
  | y :: r => by
    unfold eins
    split
    · rfl
    · rw [List.length_cons, eins_len, List.length_cons]
theorem lt_tri {a b : List UInt8} (h1 : ¬ a < b) (h2 : a ≠ b) : b < a := by
  by_cases h3 : b < a
  · exact h3
  · exact absurd (List.le_antisymm (show a ≤ b from h3) (show b ≤ a from h1)) h2
theorem eins_rise {x : List UInt8 × Int} : ∀ {m : Ents}, Rise m → (∀ p ∈ m, p.1 ≠ x.1) → Rise (eins x m)
  | [], _, _ => by simp [eins, Rise]
  | y :: r, hr, hn => by
    obtain ⟨h1, h2⟩ := List.pairwise_cons.1 hr
    unfold eins
    split
    · rename_i hb
      have hlt : x.1 < y.1 := by
        have h3 : bytesBefore x.1 y.1 = true := hb
        rw [before_lt] at h3
        exact of_decide_eq_true h3
      refine List.pairwise_cons.2 ⟨fun p hp => ?_, hr⟩
      rcases List.mem_cons.1 hp with rfl | hp
      · exact hlt
      · exact List.lt_trans hlt (h1 p hp)
    · rename_i hb
      have hlt : y.1 < x.1 := by
        refine lt_tri (fun h => hb ?_) (Ne.symm (hn y (List.mem_cons_self ..)))
        show bytesBefore x.1 y.1 = true
        rw [before_lt]
        exact decide_eq_true h
      refine List.pairwise_cons.2 ⟨fun p hp => ?_, eins_rise h2 fun p hp => hn p (List.mem_cons_of_mem _ hp)⟩
      rcases eins_mem.1 hp with rfl | hp
      · exact hlt
      · exact h1 p hp
theorem eput_rise {m : Ents} (hr : Rise m) (n : List UInt8) (z : Int) : Rise (eput m n z) :=
  eins_rise (hr.filter _) fun p hp => by
    have := (List.mem_filter.1 hp).2
    simpa using this
theorem eput_len {m : Ents} {n : List UInt8} {z : Int} : (eput m n z).length ≤ m.length + 1 := by
  unfold eput
  rw [eins_len]
  have : (edel m n).length ≤ m.length := List.length_filter_le _ _
  omega
theorem live_len (now : Int) (m : Ents) : (live now m).length ≤ m.length := List.length_filter_le _ _
theorem live_ok {k : Bk} (hk : k.ok) (b : Bool) (now : Int) : Bk.ok ⟨b, now, live now k.ends⟩ :=
  ⟨Nat.le_trans (live_len ..) hk.len, fun p hp => hk.name p (List.mem_filter.1 hp).1, hk.rise.filter _⟩
theorem take_ok {k : Bk} (hk : k.ok) (n : List UInt8) (til now : Int) : (k.take n til now).2.ok := by
  have hl := live_ok hk true now
  unfold Bk.take
  split
  · exact hk
  split
  · exact hk
  split
  · exact hl
  split
  · exact hl
  split
  · exact hl
  rename_i h1 _ _ _ h5
  have hl1 : (live now k.ends).length ≤ 4096 := hl.len
  refine ⟨?_, fun p hp => ?_, eput_rise hl.rise _ _⟩
  · have := eput_len (m := live now k.ends) (n := n) (z := til)
    show (eput (live now k.ends) n til).length ≤ 4096
    omega
  · rcases eins_mem.1 hp with rfl | hp
    · show n.length ≤ 1024
      omega
    · exact hl.name p (List.mem_filter.1 hp).1
theorem new_ok : Bk.ok ⟨false, 0, []⟩ := ⟨Nat.zero_le _, fun p hp => absurd hp List.not_mem_nil, List.Pairwise.nil⟩
theorem Bk.ok.len9 {k : Bk} (hk : k.ok) : k.ends.length ≤ 1000000000 := by
  have := hk.len
  omega
theorem st1 : Bk.take ⟨false, 0, []⟩ [97] 10 5 = (0, ⟨true, 5, [([97], 10)]⟩) := rfl
theorem st2 : Bk.take ⟨true, 5, [([97], 10)]⟩ [97] 20 10 = (160, ⟨true, 10, [([97], 10)]⟩) := rfl
theorem st3 : Bk.take ⟨true, 10, [([97], 10)]⟩ [97] 20 11 = (0, ⟨true, 11, [([97], 20)]⟩) := rfl
theorem st4 : Bk.take ⟨true, 11, [([97], 20)]⟩ [98] 20 10 = (162, ⟨true, 11, [([97], 20)]⟩) := rfl
theorem st_image : (imageL ⟨false, 0, []⟩).length = 23 := by rw [image_len]; rfl
theorem take_at {F : World} {M : List Nat} {H : List Res} {p mb code : Nat} {k k' : Bk} {name : List UInt8} {til now : Int} (h : k.take name til now = (code, k')) (hn : name.length ≤ maxLen) (hk : k.ends.length ≤ 1000000000) (ht : (Lit.int .i64 til).wf = true) :
    Meets Try.prog 12 [.pointer (some ⟨p, 0, none⟩), sV name, .int .i64 til, .int .i64 now] F M (.blk p (bkV mb k) 63 :: bkM mb k :: H) (fun e H' => e = .returned (.int .i64 (code : Nat)) ∧ H' = .blk p (bkV mb k') 63 :: bkM mb k' :: H) := by
  have := take_spec (F := F) (M := M) (H := H) (p := p) (mb := mb) (k := k) (name := name) (til := til) (now := now) hn hk ht
  rwa [h] at this
theorem started_spec {F : World} {M : List Nat} {H : List Res} : Meets Try.prog 10 [] F M H (fun e H' => e = .returned (.bool true) ∧ H' = H) := by
  refine Meets.enter Try.func10 rfl rfl ?_
  repeat' (first | ((with_reducible apply T.asn); apply rfl; apply rfl) | with_reducible refine Sr.nil ?_ | with_reducible refine S.seq ?_ | with_reducible refine S.reg ?_ | fail)
  refine T.call rfl rfl new_spec ?_
  rintro _ _ ⟨p, mb, rfl, rfl⟩
  repeat' (first | ((with_reducible apply T.eqlP); apply rfl; apply rfl) | ((with_reducible apply T.mv); apply rfl; apply rfl) | ((with_reducible apply T.asn); apply rfl; apply rfl) | with_reducible refine Sr.nil ?_ | with_reducible refine S.seq ?_ | with_reducible refine S.reg ?_ | ((with_reducible apply T.ung); apply rfl) | (with_reducible apply T.ofRet) | fail)
  refine T.call rfl rfl len_spec ?_
  rintro _ _ ⟨rfl, rfl⟩
  repeat' (first | ((with_reducible apply T.mv); apply rfl; apply rfl) | ((with_reducible apply T.neq); apply rfl; apply rfl; apply rfl) | ((with_reducible apply T.pickF); apply rfl; apply rfl; apply rfl) | ((with_reducible apply T.ung); apply rfl) | (with_reducible apply T.ofRet) | fail)
  refine T.call rfl rfl (image_spec new_ok) ?_
  rintro _ _ ⟨ia, ic, rfl, rfl⟩
  rw [st_image]
  repeat' (first | ((with_reducible apply T.mv); apply rfl; apply rfl) | ((with_reducible apply T.len); apply rfl; apply rfl) | ((with_reducible apply T.neq); apply rfl; apply rfl; apply rfl) | ((with_reducible apply T.pickF); apply rfl; apply rfl; apply rfl) | with_reducible refine Sr.nil ?_ | with_reducible refine S.seq ?_ | with_reducible refine S.reg ?_ | with_reducible refine S.skip ?_ | ((with_reducible apply T.ung); apply rfl) | ((with_reducible apply S.condF); apply rfl) | (with_reducible apply T.ofRet) | fail)
  refine Sr.front mb ?_
  refine Sr.front p ?_
  refine T.call rfl rfl (take_at st1 (by decide) (by decide) rfl) ?_
  rintro _ _ ⟨rfl, rfl⟩
  repeat' (first | ((with_reducible apply T.mv); apply rfl; apply rfl) | ((with_reducible apply T.asn); apply rfl; apply rfl) | with_reducible refine Sr.nil ?_ | with_reducible refine S.seq ?_ | with_reducible refine S.reg ?_ | (with_reducible apply T.ofRet) | fail)
  refine T.call rfl rfl (take_at st2 (by decide) (by decide) rfl) ?_
  rintro _ _ ⟨rfl, rfl⟩
  repeat' (first | ((with_reducible apply T.mv); apply rfl; apply rfl) | ((with_reducible apply T.asn); apply rfl; apply rfl) | with_reducible refine Sr.nil ?_ | with_reducible refine S.seq ?_ | with_reducible refine S.reg ?_ | (with_reducible apply T.ofRet) | fail)
  refine T.call rfl rfl (has_spec (name := [97]) (by decide)) ?_
  rintro _ _ ⟨rfl, rfl⟩
  repeat' (first | ((with_reducible apply T.mv); apply rfl; apply rfl) | ((with_reducible apply T.asn); apply rfl; apply rfl) | with_reducible refine Sr.nil ?_ | with_reducible refine S.seq ?_ | with_reducible refine S.reg ?_ | (with_reducible apply T.ofRet) | fail)
  refine T.call rfl rfl (take_at st3 (by decide) (by decide) rfl) ?_
  rintro _ _ ⟨rfl, rfl⟩
  repeat' (first | ((with_reducible apply T.mv); apply rfl; apply rfl) | ((with_reducible apply T.asn); apply rfl; apply rfl) | with_reducible refine Sr.nil ?_ | with_reducible refine S.seq ?_ | with_reducible refine S.reg ?_ | (with_reducible apply T.ofRet) | fail)
  refine T.call rfl rfl (take_at st4 (by decide) (by decide) rfl) ?_
  rintro _ _ ⟨rfl, rfl⟩
  repeat' (first | ((with_reducible apply T.mv); apply rfl; apply rfl) | ((with_reducible apply T.asn); apply rfl; apply rfl) | with_reducible refine Sr.nil ?_ | with_reducible refine S.seq ?_ | with_reducible refine S.reg ?_ | (with_reducible apply T.ofRet) | fail)
  refine T.call rfl rfl last_spec ?_
  rintro _ _ ⟨rfl, rfl⟩
  repeat' (first | ((with_reducible apply T.mv); apply rfl; apply rfl) | ((with_reducible apply T.asn); apply rfl; apply rfl) | ((with_reducible apply T.eql); apply rfl; apply rfl; apply rfl) | ((with_reducible apply T.extract); apply rfl; apply rfl; apply rfl) | ((with_reducible apply T.pickT); apply rfl; apply rfl; apply rfl) | with_reducible refine Sr.nil ?_ | with_reducible refine S.seq ?_ | with_reducible refine S.reg ?_ | ((with_reducible apply T.ung); apply rfl) | (with_reducible apply T.ofRet) | fail)
  refine T.call rfl rfl len_spec ?_
  rintro _ _ ⟨rfl, rfl⟩
  repeat' (first | ((with_reducible apply T.asn); apply rfl; apply rfl) | ((with_reducible apply T.eql); apply rfl; apply rfl; apply rfl) | ((with_reducible apply T.pickT); apply rfl; apply rfl; apply rfl) | with_reducible refine Sr.nil ?_ | ((with_reducible apply T.ung); apply rfl) | ((with_reducible apply T.retW); apply rfl) | (with_reducible apply T.ofRet) | fail)
  exact ⟨H, by ((repeat (first | dsimp only [List.set_cons_zero] | dsimp only [List.set_cons_succ])); repeat' first | exact PSub.refl _ | exact PSub.nil | ((with_reducible apply PSub.take); (repeat' first | (with_reducible exact pick_hd) | (with_reducible apply pick_tl))) | (with_reducible apply PSub.drop) | ((apply PSub.take); (repeat' first | exact pick_hd | (apply pick_tl)))), rfl, rfl⟩
end Go.Proofs.Ytcojlgkfkifhmaa
