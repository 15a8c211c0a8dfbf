/- The walk of the statement ReplayOpens. -/
import Derived.Test.YtcojlgkfkifhmaaRepZ
/- maps -/
namespace Go.Proofs.Ytcojlgkfkifhmaa
open Sg Go.IntWalk
set_option maxRecDepth 100000
set_option maxHeartbeats 2000000
theorem marked_at {F : World} {M : List Nat} {H : List Res} {c n : Nat} {b : Option Addr} {bs : List UInt8} (hR : Rd F M H b (bs.map bV)) (hn : bs.length = n) (hb : n ≤ 140737488355000) :
    Meets Try.prog 15 [.slice b n c] F M H (fun e H' => ∃ ma mc, e = .returned (.slice ma n mc) ∧ n + 60 ≤ mc ∧ H' = .row ma mc 5 1 (n + 60) ((bs ++ marksL 60).map bV) :: H) := by
  subst hn
  exact marked_spec hb
theorem open_at {F : World} {M : List Nat} {H : List Res} {c n : Nat} {b : Option Addr} {l : List UInt8} {o : Option Bk} {pl : Nat} (hR : Rd F M H b (l.map bV)) (hn : l.length = n) (hl : n ≤ 1000000000000000) (hc : n ≤ c) (hE : openM l = (o, pl)) :
    Meets Try.prog 16 [.slice b n c] F M H (fun e H' => match (generalizing := false) o with
      | some k => ∃ q mb, e = .returned (.tuple ⟨[.pointer (some ⟨q, 0, none⟩), .int .i64 0, .int .i64 0]⟩) ∧ H' = .blk q (bkV mb k) 63 :: bkM mb k :: H
      | none => e = .returned (.tuple ⟨[.pointer none, .int .i64 163, .int .i64 (pl : Nat)]⟩) ∧ H' = H) := by
  subst hn
  have := open_spec (F := F) (M := M) (H := H) (b := b) (c := c) (l := l) hl hc
  rw [hE] at this
  exact this
theorem mopen_at {F : World} {M : List Nat} {H : List Res} {c n : Nat} {b : Option Addr} {l : List UInt8} {o : Option Bk} {pl : Nat} (hR : Rd F M H b (l.map bV)) (hn : l.length = n) (hl : n ≤ 1000000000000000) (hc : n ≤ c) (hE : openM l = (o, pl)) :
    Meets Try.prog 17 [.slice b n c] F M H (fun e H' => match (generalizing := false) o with
      | some k => ∃ pm aa ac, e = .returned (.tuple ⟨[.pointer (some ⟨pm, 0, none⟩), .int .i64 0, .int .i64 0]⟩) ∧ H' = .blk pm (mdV aa k.ends.length ac k.has k.last) 81 :: .row aa ac 85 2 k.ends.length (k.ends.flatMap enV) :: H
      | none => e = .returned (.tuple ⟨[.pointer none, .int .i64 163, .int .i64 (pl : Nat)]⟩) ∧ H' = H) := by
  subst hn
  have := mopen_spec (F := F) (M := M) (H := H) (b := b) (c := c) (l := l) hl hc
  rw [hE] at this
  exact this
theorem opens_walk {F : World} {ac : Nat} {a : Option Addr} {bs : List UInt8} [hA : ∀ H, Rd F [] H a (bs.map bV)] (hb : bs.length ≤ 140737488355000) (hc : bs.length ≤ ac) :
    Meets Try.prog 4 [.slice a bs.length ac] F [] [] (fun e _ => e = .returned (.bool true)) := by
  have hok := fun k p => openM_ok (l := bs) (k := k) (p := p)
  refine Meets.enter Try.func4 rfl rfl ?_
  repeat' (first | ((with_reducible apply T.mv); apply rfl; apply rfl) | ((with_reducible apply T.asn); apply rfl; apply rfl) | with_reducible refine Sr.nil ?_ | with_reducible refine S.seq ?_ | with_reducible refine S.reg ?_ | fail)
  refine T.call rfl rfl (marked_spec (bs := bs) hb) ?_
  rintro _ _ ⟨ma, mc, rfl, hmc, rfl⟩
  repeat' (first | ((with_reducible apply T.mv); apply rfl; apply rfl) | ((with_reducible apply T.asn); apply rfl; apply rfl) | with_reducible refine Sr.nil ?_ | with_reducible refine S.seq ?_ | with_reducible refine S.reg ?_ | (with_reducible apply T.ofRet) | fail)
  have hop := open_spec (F := F) (M := []) (H := .row ma mc 5 1 (bs.length + 60) ((bs ++ marksL 60).map bV) :: []) (b := ma) (c := mc) (l := bs) (hR := Rd.left (r := marksL 60) inferInstance) (by omega) (by omega)
  have hmop := fun {X : List Res} => mopen_spec (F := F) (M := []) (H := X) (b := a) (c := ac) (l := bs) (by omega) hc
  generalize openM bs = E at *
  obtain ⟨o, pl⟩ := E
  cases o with
  | none =>
    refine T.call rfl rfl hop ?_
    rintro _ _ ⟨rfl, rfl⟩
    repeat' (first | ((with_reducible apply T.mv); apply rfl; apply rfl) | ((with_reducible apply T.asn); apply rfl; apply rfl) | ((with_reducible apply T.extract); apply rfl; apply rfl; apply rfl) | with_reducible refine Sr.nil ?_ | with_reducible refine S.seq ?_ | with_reducible refine S.reg ?_ | (with_reducible apply T.ofRet) | fail)
    refine T.call rfl rfl hmop ?_
    rintro _ _ ⟨rfl, rfl⟩
    repeat' (first | ((with_reducible apply T.neqB); apply rfl; apply rfl; apply rfl; rw [show (!(true == true)) = false from rfl]) | ((with_reducible apply T.eqlP0); apply rfl; apply rfl) | ((with_reducible apply T.mv); apply rfl; apply rfl) | ((with_reducible apply T.asn); apply rfl; apply rfl) | ((with_reducible apply T.neq); apply rfl; apply rfl; apply rfl) | ((with_reducible apply T.extract); apply rfl; apply rfl; apply rfl) | ((with_reducible apply T.pickF); apply rfl; apply rfl; apply rfl) | with_reducible refine Sr.nil ?_ | with_reducible refine S.seq ?_ | with_reducible refine S.reg ?_ | ((with_reducible apply T.ung); apply rfl) | (with_reducible apply T.ofRet) | ((with_reducible apply T.gcase); apply rfl; apply rfl; all_goals (intro _; try (exfalso; omega))) | fail)
    refine T.call rfl rfl (whole_spec (bs := bs) inferInstance inferInstance hb hmc) ?_
    rintro _ _ ⟨rfl, rfl⟩
    repeat' (first | ((with_reducible apply T.eqlP0); apply rfl; apply rfl) | ((with_reducible apply T.mv); apply rfl; apply rfl) | ((with_reducible apply T.asn); apply rfl; apply rfl) | ((with_reducible apply T.notB); apply rfl; apply rfl) | ((with_reducible apply T.pickT); apply rfl; apply rfl; apply rfl) | ((with_reducible apply T.pickF); apply rfl; apply rfl; apply rfl) | with_reducible refine Sr.nil ?_ | with_reducible refine S.seq ?_ | with_reducible refine S.reg ?_ | with_reducible refine S.skip ?_ | ((with_reducible apply T.ung); apply rfl) | ((with_reducible apply T.skip); apply rfl; apply rfl; apply rfl) | ((with_reducible apply S.condT); apply rfl) | ((with_reducible apply S.condF); apply rfl) | ((with_reducible apply T.retW); apply rfl) | (with_reducible apply T.ofRet) | fail)
    exact ⟨_, PSub.refl _, rfl⟩
  | some k =>
    obtain ⟨-, -, hk⟩ := hok k pl rfl
    clear hok
    refine T.call rfl rfl hop ?_
    rintro _ _ ⟨q, mb, rfl, rfl⟩
    repeat' (first | ((with_reducible apply T.mv); apply rfl; apply rfl) | ((with_reducible apply T.asn); apply rfl; apply rfl) | ((with_reducible apply T.extract); apply rfl; apply rfl; apply rfl) | with_reducible refine Sr.nil ?_ | with_reducible refine S.seq ?_ | with_reducible refine S.reg ?_ | (with_reducible apply T.ofRet) | fail)
    refine T.call rfl rfl hmop ?_
    rintro _ _ ⟨pm, aa, ac2, rfl, rfl⟩
    clear hop hmop
    repeat' (first | ((with_reducible apply T.neqB); apply rfl; apply rfl; apply rfl; rw [show (!(false == false)) = false from rfl]) | ((with_reducible apply T.eqlP); apply rfl; apply rfl) | ((with_reducible apply T.mv); apply rfl; apply rfl) | ((with_reducible apply T.asn); apply rfl; apply rfl) | ((with_reducible apply T.neq); apply rfl; apply rfl; apply rfl) | ((with_reducible apply T.extract); apply rfl; apply rfl; apply rfl) | ((with_reducible apply T.pickF); apply rfl; apply rfl; apply rfl) | with_reducible refine Sr.nil ?_ | with_reducible refine S.seq ?_ | with_reducible refine S.reg ?_ | ((with_reducible apply T.ung); apply rfl) | (with_reducible apply T.ofRet) | fail)
    refine T.call rfl rfl (whole_spec (bs := bs) inferInstance inferInstance hb hmc) ?_
    rintro _ _ ⟨rfl, rfl⟩
    repeat' (first | ((with_reducible apply T.eqlP); apply rfl; apply rfl) | ((with_reducible apply T.mv); apply rfl; apply rfl) | ((with_reducible apply T.asn); apply rfl; apply rfl) | ((with_reducible apply T.notB); apply rfl; apply rfl) | ((with_reducible apply T.pickF); apply rfl; apply rfl; apply rfl) | with_reducible refine Sr.nil ?_ | with_reducible refine S.seq ?_ | with_reducible refine S.block ?_ | with_reducible refine S.reg ?_ | with_reducible refine S.skip ?_ | ((with_reducible apply T.ung); apply rfl) | ((with_reducible apply S.condF); apply rfl) | (with_reducible apply T.ofRet) | fail)
    refine S.frontR ma ?_
    have hml := marksL_len 60
    refine S.loopE 1 [3, 4, 7] (fun R b' μ H' e => ∃ (i : Nat) (ys : List UInt8), H' = .row ma mc 5 1 (bs.length + 60) (ys.map bV) :: R ∧ e = (10, .int .i64 i) :: b' ∧ (i ≤ bs.length ∧ ys.length = bs.length + 60) ∧ μ = bs.length - i) rfl rfl ?_ _ _ ⟨0, bs ++ marksL 60, rfl, rfl, ⟨by omega, by rw [List.length_append, hml]⟩, rfl⟩ (by repeat' first | exact trivial | refine And.intro rfl ?_)
    rintro _ _ _ ⟨i, ys, rfl, rfl, ⟨hi, hyl⟩, rfl⟩ ih
    by_cases hlt : i < bs.length
    · repeat' (first | ((with_reducible apply T.mv); apply rfl; apply rfl) | ((with_reducible apply T.asn); apply rfl; apply rfl) | ((with_reducible apply T.len); apply rfl; apply rfl) | ((with_reducible apply T.lss); apply rfl; apply rfl; apply rfl) | ((with_reducible apply T.addI); apply rfl; apply rfl; omega; apply rfl) | ((with_reducible apply T.ixN); apply rfl; apply rfl; infer_instance; omega; (first | omega | (simp only [List.length_map]; omega) | (simp; omega)); apply rfl) | ((with_reducible apply T.storeE); apply rfl; apply rfl; infer_instance; (first | omega | (simp only [List.length_map]; omega) | (simp; omega)); apply rfl) | with_reducible refine Sr.nil ?_ | with_reducible refine S.seq ?_ | with_reducible refine S.block ?_ | with_reducible refine S.reg ?_ | with_reducible refine S.skip ?_ | with_reducible refine S.inBlock ?_ | ((with_reducible apply S.condQ); apply rfl; all_goals (intro _; try (exfalso; omega))) | fail)
      exact ih _ _ _ _ ⟨i + 1, ys.set i 7, by rw [List.map_set]; rfl, rfl, ⟨by omega, by simpa using hyl⟩, rfl⟩ (by omega) (by repeat' first | exact trivial | refine And.intro rfl ?_)
    clear ih
    have hin := image_le hk.ok
    have hkl := hk.ok.len
    have hkm := keptM_good hk
    repeat' (first | ((with_reducible apply T.mv); apply rfl; apply rfl) | ((with_reducible apply T.len); apply rfl; apply rfl) | ((with_reducible apply T.lss); apply rfl; apply rfl; apply rfl) | with_reducible refine Sr.nil ?_ | with_reducible refine S.seq ?_ | with_reducible refine S.reg ?_ | ((with_reducible apply S.exit); apply rfl) | ((with_reducible apply S.condQ); apply rfl; all_goals (intro _; try (exfalso; omega))) | fail)
    refine Sr.front mb ?_
    refine Sr.front q ?_
    refine T.call rfl rfl (image_spec hk.ok) ?_
    rintro _ _ ⟨la, lc, rfl, rfl⟩
    repeat' (first | ((with_reducible apply T.mv); apply rfl; apply rfl) | ((with_reducible apply T.asn); apply rfl; apply rfl) | with_reducible refine Sr.nil ?_ | with_reducible refine S.seq ?_ | with_reducible refine S.reg ?_ | (with_reducible apply T.ofRet) | fail)
    refine Sr.front mb ?_
    refine Sr.front q ?_
    refine T.call rfl rfl (image_spec hk.ok) ?_
    rintro _ _ ⟨ka, kc, rfl, rfl⟩
    repeat' (first | ((with_reducible apply T.mv); apply rfl; apply rfl) | ((with_reducible apply T.asn); apply rfl; apply rfl) | with_reducible refine Sr.nil ?_ | with_reducible refine S.seq ?_ | with_reducible refine S.reg ?_ | (with_reducible apply T.ofRet) | fail)
    refine T.call rfl rfl (tells_spec (mb := mb) (k := k) (all := k.ends) (aa := aa) (ac := ac2) (by omega) hkm) ?_
    rintro _ _ ⟨rfl, rfl⟩
    repeat' (first | ((with_reducible apply T.mv); apply rfl; apply rfl) | ((with_reducible apply T.notB); apply rfl; apply rfl) | ((with_reducible apply T.ung); apply rfl) | (with_reducible apply T.ofRet) | fail)
    refine T.call rfl rfl (mimage_spec (k := k) (all := k.ends) (aa := aa) (ac := ac2) (by omega) hk.ok hkm) ?_
    rintro _ _ ⟨wa, wc, rfl, rfl⟩
    repeat' (first | ((with_reducible apply T.ung); apply rfl) | (with_reducible apply T.ofRet) | fail)
    refine T.call rfl rfl (same_eq inferInstance inferInstance (by omega)) ?_
    rintro _ _ ⟨rfl, rfl⟩
    repeat' (first | ((with_reducible apply T.asn); apply rfl; apply rfl) | ((with_reducible apply T.notB); apply rfl; apply rfl) | ((with_reducible apply T.pickF); apply rfl; apply rfl; apply rfl) | with_reducible refine Sr.nil ?_ | with_reducible refine S.seq ?_ | with_reducible refine S.block ?_ | with_reducible refine S.reg ?_ | with_reducible refine S.skip ?_ | ((with_reducible apply T.ung); apply rfl) | ((with_reducible apply S.condF); apply rfl) | (with_reducible apply T.ofRet) | fail)
    refine S.frontR la ?_
    refine S.loopE 1 [3, 4, 7, 11, 12] (fun R b' μ H' e => ∃ (j : Nat) (zs : List UInt8), H' = .row la lc 5 1 (imageL k).length (zs.map bV) :: R ∧ e = (13, .int .i64 j) :: b' ∧ (j ≤ (imageL k).length ∧ zs.length = (imageL k).length) ∧ μ = (imageL k).length - j) rfl rfl ?_ _ _ ⟨0, imageL k, rfl, rfl, ⟨by omega, rfl⟩, rfl⟩ (by repeat' first | exact trivial | refine And.intro rfl ?_)
    rintro _ _ _ ⟨j, zs, rfl, rfl, ⟨hj1, hz⟩, rfl⟩ ih2
    repeat' (first | ((with_reducible apply T.mv); apply rfl; apply rfl) | ((with_reducible apply T.asn); apply rfl; apply rfl) | ((with_reducible apply T.len); apply rfl; apply rfl) | ((with_reducible apply T.lss); apply rfl; apply rfl; apply rfl) | ((with_reducible apply T.addI); apply rfl; apply rfl; omega; apply rfl) | ((with_reducible apply T.ixN); apply rfl; apply rfl; infer_instance; omega; (first | omega | (simp only [List.length_map]; omega) | (simp; omega)); apply rfl) | ((with_reducible apply T.storeE); apply rfl; apply rfl; infer_instance; (first | omega | (simp only [List.length_map]; omega) | (simp; omega)); apply rfl) | with_reducible refine Sr.nil ?_ | with_reducible refine S.seq ?_ | with_reducible refine S.block ?_ | with_reducible refine S.reg ?_ | with_reducible refine S.skip ?_ | with_reducible refine S.inBlock ?_ | ((with_reducible apply S.exit); apply rfl) | ((with_reducible apply S.condQ); apply rfl; all_goals (intro _; try (exfalso; omega))) | fail)
    · exact ih2 _ _ _ _ ⟨j + 1, zs.set j 9, by rw [List.map_set]; rfl, rfl, ⟨by omega, by simpa using hz⟩, rfl⟩ (by omega) (by repeat' first | exact trivial | refine And.intro rfl ?_)
    clear ih2
    refine S.loopE 1 [3, 4, 7, 12] (fun R b' μ H' e => ∃ (j : Nat) (zs : List UInt8) (la : Option Addr) (lc : Nat), H' = .row la lc 5 1 ((imageL k).length + j) (zs.map bV) :: R ∧ e = (14, .slice la ((imageL k).length + j) lc) :: (15, .int .i64 j) :: b' ∧ (j ≤ 70 ∧ zs.length = (imageL k).length + j) ∧ μ = 70 - j) rfl rfl ?_ _ _ ⟨0, zs, la, lc, rfl, rfl, ⟨by omega, hz⟩, rfl⟩ (by repeat' first | exact trivial | refine And.intro rfl ?_)
    rintro _ _ _ ⟨j3, zs3, la3, lc3, rfl, rfl, ⟨hj3, hz3⟩, rfl⟩ ih3
    by_cases h70 : j3 < 70
    · repeat' (first | ((with_reducible apply T.mv); apply rfl; apply rfl) | ((with_reducible apply T.asn); apply rfl; apply rfl) | ((with_reducible apply T.lss); apply rfl; apply rfl; apply rfl) | ((with_reducible apply T.addI); apply rfl; apply rfl; omega; apply rfl) | ((with_reducible apply T.bs); apply rfl; apply rfl; apply rfl; apply rfl; apply rfl; apply rfl; intro nb) | ((with_reducible apply T.append); apply rfl; apply rfl; infer_instance; (first | rfl | (simp; done)); (first | rfl | (simp; done)); apply rfl; apply rfl; (constructor <;> omega); apply rfl; intro na nc) | with_reducible refine Sr.nil ?_ | with_reducible refine S.seq ?_ | with_reducible refine S.block ?_ | with_reducible refine S.reg ?_ | with_reducible refine S.skip ?_ | with_reducible refine S.inBlock ?_ | ((with_reducible apply S.condQ); apply rfl; all_goals (intro _; try (exfalso; omega))) | fail)
      exact ih3 _ _ _ _ ⟨j3 + 1, zs3 ++ [8], na, nc, by rw [List.map_append]; rfl, rfl, ⟨by omega, by simp; omega⟩, rfl⟩ (by omega) (by repeat' first | exact trivial | refine And.intro rfl ?_)
    obtain rfl : j3 = 70 := by omega
    clear ih3
    have hcl : (ys.take bs.length).length = bs.length := by rw [List.length_take]; omega
    repeat' (first | ((with_reducible apply T.mv); apply rfl; apply rfl) | ((with_reducible apply T.lss); apply rfl; apply rfl; apply rfl) | with_reducible refine Sr.nil ?_ | with_reducible refine S.seq ?_ | with_reducible refine S.reg ?_ | ((with_reducible apply S.exit); apply rfl) | ((with_reducible apply S.condF); apply rfl) | fail)
    refine T.call rfl rfl (marked_at (bs := ys.take bs.length) (Rd.take1 inferInstance bs.length) hcl hb) ?_
    rintro _ _ ⟨ra, rc, rfl, hrc, rfl⟩
    repeat' (first | (with_reducible apply T.ofRet) | fail)
    cases hE2 : openM (ys.take bs.length) with
    | mk o2 pl2 =>
    cases o2 with
    | none =>
      refine T.call rfl rfl (mopen_at (l := ys.take bs.length) (Rd.left (r := marksL 60) inferInstance) hcl (by omega) (by omega) hE2) ?_
      rintro _ _ ⟨rfl, rfl⟩
      repeat' (first | ((with_reducible apply T.mv); apply rfl; apply rfl) | ((with_reducible apply T.asn); apply rfl; apply rfl) | ((with_reducible apply T.extract); apply rfl; apply rfl; apply rfl) | with_reducible refine Sr.nil ?_ | with_reducible refine S.seq ?_ | with_reducible refine S.reg ?_ | (with_reducible apply T.ofRet) | fail)
      refine T.call rfl rfl (open_at (l := ys.take bs.length) (Rd.take1 (inferInstance : Rd _ _ _ ma (ys.map bV)) bs.length) hcl (by omega) (by omega) hE2) ?_
      rintro _ _ ⟨rfl, rfl⟩
      repeat' (first | ((with_reducible apply T.mv); apply rfl; apply rfl) | ((with_reducible apply T.asn); apply rfl; apply rfl) | ((with_reducible apply T.extract); apply rfl; apply rfl; apply rfl) | with_reducible refine Sr.nil ?_ | with_reducible refine S.seq ?_ | with_reducible refine S.reg ?_ | (with_reducible apply T.ofRet) | fail)
      refine T.call rfl rfl (mimage_spec (k := k) (all := k.ends) (aa := aa) (ac := ac2) (by omega) hk.ok hkm) ?_
      rintro _ _ ⟨wb, wd, rfl, rfl⟩
      repeat' (first | (with_reducible apply T.ofRet) | fail)
      refine T.call rfl rfl (same_eq inferInstance inferInstance (by omega)) ?_
      rintro _ _ ⟨rfl, rfl⟩
      repeat' (first | ((with_reducible apply T.mv); apply rfl; apply rfl) | ((with_reducible apply T.ung); apply rfl) | (with_reducible apply T.ofRet) | fail)
      refine Sr.front mb ?_
      refine Sr.front q ?_
      refine T.call rfl rfl (image_spec hk.ok) ?_
      rintro _ _ ⟨xa, xc, rfl, rfl⟩
      repeat' (first | ((with_reducible apply T.mv); apply rfl; apply rfl) | ((with_reducible apply T.ung); apply rfl) | (with_reducible apply T.ofRet) | fail)
      refine T.call rfl rfl (mimage_spec (k := k) (all := k.ends) (aa := aa) (ac := ac2) (by omega) hk.ok hkm) ?_
      rintro _ _ ⟨we, wf, rfl, rfl⟩
      repeat' (first | ((with_reducible apply T.ung); apply rfl) | (with_reducible apply T.ofRet) | fail)
      refine T.call rfl rfl (same_eq inferInstance inferInstance (by omega)) ?_
      rintro _ _ ⟨rfl, rfl⟩
      repeat' (first | ((with_reducible apply T.eqlB); apply rfl; apply rfl; apply rfl; first | rw [show (true == true) = true from rfl] | rw [show (false == false) = true from rfl]) | ((with_reducible apply T.eqlP0); apply rfl; apply rfl) | ((with_reducible apply T.mv); apply rfl; apply rfl) | ((with_reducible apply T.asn); apply rfl; apply rfl) | ((with_reducible apply T.len); apply rfl; apply rfl) | ((with_reducible apply T.eql); apply rfl; apply rfl; apply rfl) | ((with_reducible apply T.addI); apply rfl; apply rfl; omega; apply rfl) | ((with_reducible apply T.pickT); apply rfl; apply rfl; apply rfl) | with_reducible refine Sr.nil ?_ | ((with_reducible apply T.ung); apply rfl) | ((with_reducible apply T.retW); apply rfl) | (with_reducible apply T.ofRet) | ((with_reducible apply T.gcase); apply rfl; apply rfl; all_goals (intro _; try (exfalso; omega))) | fail)
      exact ⟨_, PSub.refl _, rfl⟩
    | some k2 =>
      refine T.call rfl rfl (mopen_at (l := ys.take bs.length) (Rd.left (r := marksL 60) inferInstance) hcl (by omega) (by omega) hE2) ?_
      rintro _ _ ⟨pm2, aa2, ac3, rfl, rfl⟩
      repeat' (first | ((with_reducible apply T.mv); apply rfl; apply rfl) | ((with_reducible apply T.asn); apply rfl; apply rfl) | ((with_reducible apply T.extract); apply rfl; apply rfl; apply rfl) | with_reducible refine Sr.nil ?_ | with_reducible refine S.seq ?_ | with_reducible refine S.reg ?_ | (with_reducible apply T.ofRet) | fail)
      refine T.call rfl rfl (open_at (l := ys.take bs.length) (Rd.take1 (inferInstance : Rd _ _ _ ma (ys.map bV)) bs.length) hcl (by omega) (by omega) hE2) ?_
      rintro _ _ ⟨q2, mb2, rfl, rfl⟩
      repeat' (first | ((with_reducible apply T.mv); apply rfl; apply rfl) | ((with_reducible apply T.asn); apply rfl; apply rfl) | ((with_reducible apply T.extract); apply rfl; apply rfl; apply rfl) | with_reducible refine Sr.nil ?_ | with_reducible refine S.seq ?_ | with_reducible refine S.reg ?_ | (with_reducible apply T.ofRet) | fail)
      refine T.call rfl rfl (mimage_spec (k := k) (all := k.ends) (aa := aa) (ac := ac2) (by omega) hk.ok hkm) ?_
      rintro _ _ ⟨wb, wd, rfl, rfl⟩
      repeat' (first | (with_reducible apply T.ofRet) | fail)
      refine T.call rfl rfl (same_eq inferInstance inferInstance (by omega)) ?_
      rintro _ _ ⟨rfl, rfl⟩
      repeat' (first | ((with_reducible apply T.mv); apply rfl; apply rfl) | ((with_reducible apply T.ung); apply rfl) | (with_reducible apply T.ofRet) | fail)
      refine Sr.front mb ?_
      refine Sr.front q ?_
      refine T.call rfl rfl (image_spec hk.ok) ?_
      rintro _ _ ⟨xa, xc, rfl, rfl⟩
      repeat' (first | ((with_reducible apply T.mv); apply rfl; apply rfl) | ((with_reducible apply T.ung); apply rfl) | (with_reducible apply T.ofRet) | fail)
      refine T.call rfl rfl (mimage_spec (k := k) (all := k.ends) (aa := aa) (ac := ac2) (by omega) hk.ok hkm) ?_
      rintro _ _ ⟨we, wf, rfl, rfl⟩
      repeat' (first | ((with_reducible apply T.ung); apply rfl) | (with_reducible apply T.ofRet) | fail)
      refine T.call rfl rfl (same_eq inferInstance inferInstance (by omega)) ?_
      rintro _ _ ⟨rfl, rfl⟩
      repeat' (first | ((with_reducible apply T.eqlB); apply rfl; apply rfl; apply rfl; first | rw [show (true == true) = true from rfl] | rw [show (false == false) = true from rfl]) | ((with_reducible apply T.eqlP); apply rfl; apply rfl) | ((with_reducible apply T.mv); apply rfl; apply rfl) | ((with_reducible apply T.asn); apply rfl; apply rfl) | ((with_reducible apply T.len); apply rfl; apply rfl) | ((with_reducible apply T.eql); apply rfl; apply rfl; apply rfl) | ((with_reducible apply T.addI); apply rfl; apply rfl; omega; apply rfl) | ((with_reducible apply T.pickT); apply rfl; apply rfl; apply rfl) | with_reducible refine Sr.nil ?_ | ((with_reducible apply T.ung); apply rfl) | ((with_reducible apply T.retW); apply rfl) | (with_reducible apply T.ofRet) | ((with_reducible apply T.gcase); apply rfl; apply rfl; all_goals (intro _; try (exfalso; omega))) | fail)
      exact ⟨_, PSub.refl _, rfl⟩
end Go.Proofs.Ytcojlgkfkifhmaa
