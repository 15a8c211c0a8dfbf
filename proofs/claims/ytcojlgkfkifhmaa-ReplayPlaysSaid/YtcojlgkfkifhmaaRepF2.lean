/- The walks of the statement's own helpers: plays, begin. -/
import Derived.Test.YtcojlgkfkifhmaaRepE2
/- maps -/
namespace Go.Proofs.Ytcojlgkfkifhmaa
open Sg Go.IntWalk
set_option maxRecDepth 100000
set_option maxHeartbeats 2000000
theorem plays_spec {F : World} {M : List Nat} {H : List Res} {q mb pm ac : Nat} {aa : Option Addr} {all : Ents} {k : Bk} {x : OpR} (hm : MInv k all) (hj : x.jti.length ≤ maxLen) (ht : (Lit.int .i64 x.til).wf = true) (hw : (Lit.int .i64 x.now).wf = true) :
    Meets Try.prog 22 [.pointer (some ⟨q, 0, none⟩), .pointer (some ⟨pm, 0, none⟩), .agg ⟨opV x⟩] F M (.blk q (bkV mb k) 63 :: bkM mb k :: .blk pm (mdV aa all.length ac k.has k.last) 81 :: .row aa ac 85 2 all.length (all.flatMap enV) :: H) (fun e H' => ∃ k2 all2 aa2 ac2, MInv k2 all2 ∧ e = .returned (.bool true) ∧ H' = .blk q (bkV mb k2) 63 :: bkM mb k2 :: .blk pm (mdV aa2 all2.length ac2 k2.has k2.last) 81 :: .row aa2 ac2 85 2 all2.length (all2.flatMap enV) :: H) := by
  have hk := hm.inv.good
  have hal := hm.len
  have hkl := hk.ok.len
  have hkm := hm.kept
  refine Meets.enter Try.func22 rfl rfl ?_
  by_cases k1 : x.kind = 1
  · repeat' (first | ((with_reducible apply T.mv); apply rfl; apply rfl) | ((with_reducible apply T.asn); apply rfl; apply rfl) | ((with_reducible apply T.fieldAddrZ); apply rfl; apply rfl) | ((with_reducible apply T.load); apply rfl; apply rfl; infer_instance; apply rfl; apply rfl) | ((with_reducible apply T.eql); apply rfl; apply rfl; apply rfl) | ((with_reducible apply T.box); apply rfl; apply rfl; intro nb) | with_reducible refine Sr.nil ?_ | with_reducible refine S.seq ?_ | with_reducible refine S.block ?_ | with_reducible refine S.reg ?_ | ((with_reducible apply S.condQ); apply rfl; all_goals (intro _; try (exfalso; omega))) | fail)
    refine Sr.front mb ?_
    refine Sr.front q ?_
    generalize hT : k.take x.jti x.til x.now = T2
    obtain ⟨c, k2⟩ := T2
    refine T.call rfl rfl (take_at hT hj hk.ok.len9 ht) ?_
    rintro _ _ ⟨rfl, rfl⟩
    repeat' (first | ((with_reducible apply T.mv); apply rfl; apply rfl) | ((with_reducible apply T.asn); apply rfl; apply rfl) | ((with_reducible apply T.fieldAddrZ); apply rfl; apply rfl) | ((with_reducible apply T.load); apply rfl; apply rfl; infer_instance; apply rfl; apply rfl) | with_reducible refine Sr.nil ?_ | with_reducible refine S.seq ?_ | with_reducible refine S.reg ?_ | (with_reducible apply T.ofRet) | fail)
    refine Sr.frontR aa ?_
    refine Sr.front pm ?_
    refine T.call rfl rfl (mtake_spec hm hT hj ht hw) ?_
    rintro _ _ ⟨all2, aa2, ac2, hm2, rfl, rfl⟩
    repeat' (first | ((with_reducible apply T.asn); apply rfl; apply rfl) | ((with_reducible apply T.eql); apply rfl; apply rfl; apply rfl) | with_reducible refine Sr.nil ?_ | ((with_reducible apply T.retW); apply rfl) | (with_reducible apply T.ofRet) | fail)
    exact ⟨.blk q (bkV mb k2) 63 :: bkM mb k2 :: .blk pm (mdV aa2 all2.length ac2 k2.has k2.last) 81 :: .row aa2 ac2 85 2 all2.length (all2.flatMap enV) :: H, by ((repeat (first | dsimp only [List.set_cons_zero] | dsimp only [List.set_cons_succ])); repeat' first | exact PSub.refl _ | exact PSub.nil | ((with_reducible apply PSub.take); (repeat' first | (with_reducible exact pick_hd) | (with_reducible apply pick_tl))) | (with_reducible apply PSub.drop) | ((apply PSub.take); (repeat' first | exact pick_hd | (apply pick_tl)))), k2, all2, aa2, ac2, hm2, by simp, rfl⟩
  by_cases k2 : x.kind = 2
  · have hbx : ((eget k.ends x.jti).isSome == liveM all x.jti k.last) = true := by
      rw [tinv_has hm.inv]
      simp
    have n1 : ∀ {X : List Res} [InB X q (bkV mb k) 63] [InE X mb (mapQ Try.prog 9 2 k.ends.length (mapD k.ends))], Meets Try.prog 24 [.pointer (some ⟨q, 0, none⟩), sV x.jti] F M X (fun e H' => e = .returned (.bool (eget k.ends x.jti).isSome) ∧ H' = X) := has_in hj
    have n2 : ∀ {X : List Res} [InB X pm (mdV aa all.length ac k.has k.last) 81] [Rd F M X aa (all.flatMap enV)], Meets Try.prog 47 [.pointer (some ⟨pm, 0, none⟩), sV x.jti] F M X (fun e H' => e = .returned (.bool (liveM all x.jti k.last)) ∧ H' = X) := mhas_spec (by omega)
    repeat' (first | ((with_reducible apply T.asn); apply rfl; apply rfl) | ((with_reducible apply T.fieldAddrZ); apply rfl; apply rfl) | ((with_reducible apply T.load); apply rfl; apply rfl; infer_instance; apply rfl; apply rfl) | ((with_reducible apply T.eql); apply rfl; apply rfl; apply rfl) | ((with_reducible apply T.box); apply rfl; apply rfl; intro nb) | with_reducible refine Sr.nil ?_ | with_reducible refine S.seq ?_ | with_reducible refine S.block ?_ | with_reducible refine S.reg ?_ | ((with_reducible apply S.condQ); apply rfl; all_goals (intro _; try (exfalso; omega))) | fail)
    ((with_reducible apply S.draw); (case Hs => exact [.blk nb (opV x) 27]); (case es => exact  [3, 7]); (case n => exact  10); (case hn => rfl))
    repeat' (first | ((with_reducible apply T.eqlB); apply rfl; apply rfl; apply rfl; rw [hbx]) | (refine T.call rfl rfl (by with_reducible exact n1) ?_; rintro _ _ ⟨rfl, rfl⟩) | (refine T.call rfl rfl (by with_reducible exact n2) ?_; rintro _ _ ⟨rfl, rfl⟩) | ((with_reducible apply T.mv); apply rfl; apply rfl) | ((with_reducible apply T.asn); apply rfl; apply rfl) | ((with_reducible apply T.fieldAddrZ); apply rfl; apply rfl) | ((with_reducible apply T.load); apply rfl; apply rfl; infer_instance; apply rfl; apply rfl) | with_reducible refine Sr.nil ?_ | ((with_reducible apply T.retW); apply rfl) | (with_reducible apply T.ofRet) | ((with_reducible apply SA.qn); apply rfl; apply rfl; apply rfl; apply rfl; kernel_rfl) | ((with_reducible apply SA.qsn); apply rfl; apply rfl; apply rfl; kernel_rfl; (first | exact fun _ h => h | exact fun _ h => St.psub h (by ((repeat (first | dsimp only [List.set_cons_zero] | dsimp only [List.set_cons_succ])); repeat' first | exact PSub.refl _ | exact PSub.nil | ((with_reducible apply PSub.take); (repeat' first | (with_reducible exact pick_hd) | (with_reducible apply pick_tl))) | (with_reducible apply PSub.drop) | ((apply PSub.take); (repeat' first | exact pick_hd | (apply pick_tl))))))) | ((with_reducible apply SA.en); apply rfl; apply rfl; kernel_rfl) | ((with_reducible apply SA.done); apply rfl; kernel_rfl) | ((with_reducible apply SK.intro); (first | exact fun _ h => h | exact fun _ h => St.psub h (by ((repeat (first | dsimp only [List.set_cons_zero] | dsimp only [List.set_cons_succ])); repeat' first | exact PSub.refl _ | exact PSub.nil | ((with_reducible apply PSub.take); (repeat' first | (with_reducible exact pick_hd) | (with_reducible apply pick_tl))) | (with_reducible apply PSub.drop) | ((apply PSub.take); (repeat' first | exact pick_hd | (apply pick_tl))))))) | fail)
    all_goals exact ⟨.blk q (bkV mb k) 63 :: bkM mb k :: .blk pm (mdV aa all.length ac k.has k.last) 81 :: .row aa ac 85 2 all.length (all.flatMap enV) :: H, by ((repeat (first | dsimp only [List.set_cons_zero] | dsimp only [List.set_cons_succ])); repeat' first | exact PSub.refl _ | exact PSub.nil | ((with_reducible apply PSub.take); (repeat' first | (with_reducible exact pick_hd) | (with_reducible apply pick_tl))) | (with_reducible apply PSub.drop) | ((apply PSub.take); (repeat' first | exact pick_hd | (apply pick_tl)))), k, all, aa, ac, hm, rfl, rfl⟩
  by_cases k3 : x.kind = 3
  · repeat' (first | ((with_reducible apply T.mv); apply rfl; apply rfl) | ((with_reducible apply T.asn); apply rfl; apply rfl) | ((with_reducible apply T.fieldAddrZ); apply rfl; apply rfl) | ((with_reducible apply T.load); apply rfl; apply rfl; infer_instance; apply rfl; apply rfl) | ((with_reducible apply T.eql); apply rfl; apply rfl; apply rfl) | ((with_reducible apply T.box); apply rfl; apply rfl; intro nb) | with_reducible refine Sr.nil ?_ | with_reducible refine S.seq ?_ | with_reducible refine S.block ?_ | with_reducible refine S.reg ?_ | ((with_reducible apply S.condQ); apply rfl; all_goals (intro _; try (exfalso; omega))) | fail)
    refine T.call rfl rfl (tells_spec (mb := mb) (k := k) (all := all) (aa := aa) (ac := ac) (by omega) hkm) ?_
    rintro _ _ ⟨rfl, rfl⟩
    repeat' (first | ((with_reducible apply T.asn); apply rfl; apply rfl) | with_reducible refine Sr.nil ?_ | ((with_reducible apply T.retW); apply rfl) | (with_reducible apply T.ofRet) | fail)
    exact ⟨.blk q (bkV mb k) 63 :: bkM mb k :: .blk pm (mdV aa all.length ac k.has k.last) 81 :: .row aa ac 85 2 all.length (all.flatMap enV) :: H, by ((repeat (first | dsimp only [List.set_cons_zero] | dsimp only [List.set_cons_succ])); repeat' first | exact PSub.refl _ | exact PSub.nil | ((with_reducible apply PSub.take); (repeat' first | (with_reducible exact pick_hd) | (with_reducible apply pick_tl))) | (with_reducible apply PSub.drop) | ((apply PSub.take); (repeat' first | exact pick_hd | (apply pick_tl)))), k, all, aa, ac, hm, rfl, rfl⟩
  by_cases k4 : x.kind = 4
  · have hin := image_le hk.ok
    repeat' (first | ((with_reducible apply T.mv); apply rfl; apply rfl) | ((with_reducible apply T.asn); apply rfl; apply rfl) | ((with_reducible apply T.fieldAddrZ); apply rfl; apply rfl) | ((with_reducible apply T.load); apply rfl; apply rfl; infer_instance; apply rfl; apply rfl) | ((with_reducible apply T.eql); apply rfl; apply rfl; apply rfl) | ((with_reducible apply T.box); apply rfl; apply rfl; intro nb) | with_reducible refine Sr.nil ?_ | with_reducible refine S.seq ?_ | with_reducible refine S.block ?_ | with_reducible refine S.reg ?_ | ((with_reducible apply S.condQ); apply rfl; all_goals (intro _; try (exfalso; omega))) | fail)
    refine Sr.front mb ?_
    refine Sr.front q ?_
    refine T.call rfl rfl (image_spec hk.ok) ?_
    rintro _ _ ⟨la, lc, rfl, rfl⟩
    repeat' (first | ((with_reducible apply T.mv); apply rfl; apply rfl) | ((with_reducible apply T.asn); apply rfl; apply rfl) | with_reducible refine Sr.nil ?_ | with_reducible refine S.seq ?_ | with_reducible refine S.reg ?_ | (with_reducible apply T.ofRet) | fail)
    refine T.call rfl rfl (mimage_spec (k := k) (all := all) (aa := aa) (ac := ac) (by omega) hk.ok hkm) ?_
    rintro _ _ ⟨wa, wc, rfl, rfl⟩
    repeat' (first | (with_reducible apply T.ofRet) | fail)
    refine T.call rfl rfl (same_eq inferInstance inferInstance (by omega)) ?_
    rintro _ _ ⟨rfl, rfl⟩
    repeat' (first | ((with_reducible apply T.asn); apply rfl; apply rfl) | with_reducible refine Sr.nil ?_ | ((with_reducible apply T.retW); apply rfl) | (with_reducible apply T.ofRet) | fail)
    exact ⟨.blk q (bkV mb k) 63 :: bkM mb k :: .blk pm (mdV aa all.length ac k.has k.last) 81 :: .row aa ac 85 2 all.length (all.flatMap enV) :: H, by ((repeat (first | dsimp only [List.set_cons_zero] | dsimp only [List.set_cons_succ])); repeat' first | exact PSub.refl _ | exact PSub.nil | ((with_reducible apply PSub.take); (repeat' first | (with_reducible exact pick_hd) | (with_reducible apply pick_tl))) | (with_reducible apply PSub.drop) | ((apply PSub.take); (repeat' first | exact pick_hd | (apply pick_tl)))), k, all, aa, ac, hm, rfl, rfl⟩
  repeat' (first | ((with_reducible apply T.asn); apply rfl; apply rfl) | ((with_reducible apply T.fieldAddrZ); apply rfl; apply rfl) | ((with_reducible apply T.load); apply rfl; apply rfl; infer_instance; apply rfl; apply rfl) | ((with_reducible apply T.eql); apply rfl; apply rfl; apply rfl) | ((with_reducible apply T.box); apply rfl; apply rfl; intro nb) | with_reducible refine Sr.nil ?_ | with_reducible refine S.seq ?_ | with_reducible refine S.block ?_ | with_reducible refine S.reg ?_ | with_reducible refine S.skip ?_ | with_reducible refine S.inBlock ?_ | ((with_reducible apply T.retW); apply rfl) | ((with_reducible apply S.condQ); apply rfl; all_goals (intro _; try (exfalso; omega))) | fail)
  exact ⟨.blk q (bkV mb k) 63 :: bkM mb k :: .blk pm (mdV aa all.length ac k.has k.last) 81 :: .row aa ac 85 2 all.length (all.flatMap enV) :: H, by ((repeat (first | dsimp only [List.set_cons_zero] | dsimp only [List.set_cons_succ])); repeat' first | exact PSub.refl _ | exact PSub.nil | ((with_reducible apply PSub.take); (repeat' first | (with_reducible exact pick_hd) | (with_reducible apply pick_tl))) | (with_reducible apply PSub.drop) | ((apply PSub.take); (repeat' first | exact pick_hd | (apply pick_tl)))), k, all, aa, ac, hm, rfl, rfl⟩
theorem begin_spec {F : World} {M : List Nat} {H : List Res} {c : Nat} {b : Option Addr} {l : List UInt8} [hR : Rd F M H b (l.map bV)] (hl : l.length ≤ 1000000000000000) (hc : l.length ≤ c) :
    Meets Try.prog 21 [.slice b l.length c] F M H (fun e H' => (e = .returned (.tuple ⟨[.pointer none, .pointer none, .bool true]⟩) ∧ H' = H) ∨ ∃ q mb pm aa ac k all, MInv k all ∧ e = .returned (.tuple ⟨[.pointer (some ⟨q, 0, none⟩), .pointer (some ⟨pm, 0, none⟩), .bool true]⟩) ∧ H' = .blk q (bkV mb k) 63 :: bkM mb k :: .blk pm (mdV aa all.length ac k.has k.last) 81 :: .row aa ac 85 2 all.length (all.flatMap enV) :: H) := by
  refine Meets.enter Try.func21 rfl rfl ?_
  by_cases h0 : l.length = 0
  · refine S.nilrow 85 2 ?_
    repeat' (first | ((with_reducible apply T.mv); apply rfl; apply rfl) | ((with_reducible apply T.asn); apply rfl; apply rfl) | ((with_reducible apply T.len); apply rfl; apply rfl) | ((with_reducible apply T.eql); apply rfl; apply rfl; apply rfl) | with_reducible refine Sr.nil ?_ | with_reducible refine S.seq ?_ | with_reducible refine S.reg ?_ | ((with_reducible apply S.condQ); apply rfl; all_goals (intro _; try (exfalso; omega))) | fail)
    refine T.call rfl rfl new_spec ?_
    rintro _ _ ⟨q, mb, rfl, rfl⟩
    repeat' (first | ((with_reducible apply T.mv); apply rfl; apply rfl) | ((with_reducible apply T.asn); apply rfl; apply rfl) | with_reducible refine Sr.nil ?_ | with_reducible refine S.seq ?_ | with_reducible refine S.reg ?_ | (with_reducible apply T.ofRet) | fail)
    refine T.call rfl rfl mnew_spec ?_
    rintro _ _ ⟨pm, rfl, rfl⟩
    repeat' (first | ((with_reducible apply T.neqP); apply rfl; apply rfl) | ((with_reducible apply T.mv); apply rfl; apply rfl) | ((with_reducible apply T.asn); apply rfl; apply rfl) | with_reducible refine Sr.nil ?_ | ((with_reducible apply T.retW); apply rfl) | (with_reducible apply T.ofRet) | fail)
    exact ⟨.blk q (bkV mb ⟨false, 0, []⟩) 63 :: bkM mb ⟨false, 0, []⟩ :: .blk pm (mdV none 0 0 false 0) 81 :: .row none 0 85 2 0 [] :: H, by ((repeat (first | dsimp only [List.set_cons_zero] | dsimp only [List.set_cons_succ])); repeat' first | exact PSub.refl _ | exact PSub.nil | ((with_reducible apply PSub.take); (repeat' first | (with_reducible exact pick_hd) | (with_reducible apply pick_tl))) | (with_reducible apply PSub.drop) | ((apply PSub.take); (repeat' first | exact pick_hd | (apply pick_tl)))), .inr ⟨q, mb, pm, none, 0, ⟨false, 0, []⟩, [], MInv.self new_good, rfl, rfl⟩⟩
  have hok := fun k p => openM_ok (l := l) (k := k) (p := p)
  repeat' (first | ((with_reducible apply T.mv); apply rfl; apply rfl) | ((with_reducible apply T.asn); apply rfl; apply rfl) | ((with_reducible apply T.len); apply rfl; apply rfl) | ((with_reducible apply T.eql); apply rfl; apply rfl; apply rfl) | with_reducible refine Sr.nil ?_ | with_reducible refine S.seq ?_ | with_reducible refine S.reg ?_ | with_reducible refine S.skip ?_ | ((with_reducible apply S.condQ); apply rfl; all_goals (intro _; try (exfalso; omega))) | fail)
  cases hE : openM l with
  | mk o pl =>
  cases o with
  | none =>
    refine T.call rfl rfl (open_at (l := l) inferInstance rfl hl hc hE) ?_
    rintro _ _ ⟨rfl, rfl⟩
    repeat' (first | ((with_reducible apply T.mv); apply rfl; apply rfl) | ((with_reducible apply T.asn); apply rfl; apply rfl) | ((with_reducible apply T.extract); apply rfl; apply rfl; apply rfl) | with_reducible refine Sr.nil ?_ | with_reducible refine S.seq ?_ | with_reducible refine S.reg ?_ | (with_reducible apply T.ofRet) | fail)
    refine T.call rfl rfl (mopen_at (l := l) inferInstance rfl hl hc hE) ?_
    rintro _ _ ⟨rfl, rfl⟩
    repeat' (first | ((with_reducible apply T.neqB); apply rfl; apply rfl; apply rfl; rw [show (!(true == true)) = false from rfl]) | ((with_reducible apply T.eqlP0); apply rfl; apply rfl) | ((with_reducible apply T.mv); apply rfl; apply rfl) | ((with_reducible apply T.asn); apply rfl; apply rfl) | ((with_reducible apply T.neq); apply rfl; apply rfl; apply rfl) | ((with_reducible apply T.extract); apply rfl; apply rfl; apply rfl) | ((with_reducible apply T.pickF); apply rfl; apply rfl; apply rfl) | with_reducible refine Sr.nil ?_ | with_reducible refine S.seq ?_ | with_reducible refine S.reg ?_ | with_reducible refine S.skip ?_ | ((with_reducible apply T.ung); apply rfl) | ((with_reducible apply S.condF); apply rfl) | ((with_reducible apply T.retW); apply rfl) | (with_reducible apply T.ofRet) | ((with_reducible apply T.gcase); apply rfl; apply rfl; all_goals (intro _; try (exfalso; omega))) | fail)
    exact ⟨_, PSub.refl _, .inl ⟨rfl, rfl⟩⟩
  | some k =>
    obtain ⟨-, -, hk⟩ := hok k pl hE
    refine T.call rfl rfl (open_at (l := l) inferInstance rfl hl hc hE) ?_
    rintro _ _ ⟨q, mb, rfl, rfl⟩
    repeat' (first | ((with_reducible apply T.mv); apply rfl; apply rfl) | ((with_reducible apply T.asn); apply rfl; apply rfl) | ((with_reducible apply T.extract); apply rfl; apply rfl; apply rfl) | with_reducible refine Sr.nil ?_ | with_reducible refine S.seq ?_ | with_reducible refine S.reg ?_ | (with_reducible apply T.ofRet) | fail)
    refine T.call rfl rfl (mopen_at (l := l) inferInstance rfl hl hc hE) ?_
    rintro _ _ ⟨pm, aa, ac, rfl, rfl⟩
    repeat' (first | ((with_reducible apply T.neqB); apply rfl; apply rfl; apply rfl; rw [show (!(false == false)) = false from rfl]) | ((with_reducible apply T.eqlP); apply rfl; apply rfl) | ((with_reducible apply T.mv); apply rfl; apply rfl) | ((with_reducible apply T.asn); apply rfl; apply rfl) | ((with_reducible apply T.neq); apply rfl; apply rfl; apply rfl) | ((with_reducible apply T.extract); apply rfl; apply rfl; apply rfl) | ((with_reducible apply T.pickF); apply rfl; apply rfl; apply rfl) | with_reducible refine Sr.nil ?_ | with_reducible refine S.seq ?_ | with_reducible refine S.reg ?_ | with_reducible refine S.skip ?_ | ((with_reducible apply T.ung); apply rfl) | ((with_reducible apply S.condF); apply rfl) | ((with_reducible apply T.retW); apply rfl) | (with_reducible apply T.ofRet) | fail)
    exact ⟨.blk q (bkV mb k) 63 :: bkM mb k :: .blk pm (mdV aa k.ends.length ac k.has k.last) 81 :: .row aa ac 85 2 k.ends.length (k.ends.flatMap enV) :: H, by ((repeat (first | dsimp only [List.set_cons_zero] | dsimp only [List.set_cons_succ])); repeat' first | exact PSub.refl _ | exact PSub.nil | ((with_reducible apply PSub.take); (repeat' first | (with_reducible exact pick_hd) | (with_reducible apply pick_tl))) | (with_reducible apply PSub.drop) | ((apply PSub.take); (repeat' first | exact pick_hd | (apply pick_tl)))), .inr ⟨q, mb, pm, aa, ac, k, k.ends, MInv.self hk, rfl, rfl⟩⟩
end Go.Proofs.Ytcojlgkfkifhmaa
