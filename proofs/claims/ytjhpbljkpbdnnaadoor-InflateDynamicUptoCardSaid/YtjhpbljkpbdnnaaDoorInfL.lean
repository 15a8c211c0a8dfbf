/- The walk of the program's face: what is raised is caught. -/
import Derived.Test.YtjhpbljkpbdnnaaDoorInfK
namespace Go.Proofs.YtjhpbljkpbdnnaaDoor
open Sg Go.IntWalk Infl
set_option maxRecDepth 100000
abbrev raised (code : Int) : Value := .iface 55 (.agg #[.int .i64 code])
theorem clo_ret {F : World} {M : List Nat} {H : List Res} {p q r : Nat} : MeetsR Tryd.prog 32 [.pointer (some ⟨p, 0, none⟩), .pointer (some ⟨q, 0, none⟩), .pointer (some ⟨r, 0, none⟩)] .returning .returning F M H (fun e H' => e = .returned (.tuple #[]) ∧ H' = H) := by
  refine MeetsR.enter Tryd.func32 rfl rfl ?_
  repeat refine SD.seq ?_
  apply SD.recoverA; rfl; rfl; rfl; rfl
  repeat' (first | ((with_reducible apply T.mv); apply rfl; apply rfl) | ((with_reducible apply T.neqNil); apply rfl; apply rfl) | with_reducible refine Sr.nil ?_ | with_reducible refine S.seq ?_ | with_reducible refine S.reg ?_ | with_reducible refine S.skip ?_ | ((with_reducible apply S.condF); apply rfl) | ((with_reducible apply T.doneW); apply rfl) | fail)
  exact ⟨_, .refl _, rfl, rfl⟩
theorem clo_pan {F : World} {M : List Nat} {H : List Res} {p q r : Nat} {x y z : Value} (code : Int) : MeetsR Tryd.prog 32 [.pointer (some ⟨p, 0, none⟩), .pointer (some ⟨q, 0, none⟩), .pointer (some ⟨r, 0, none⟩)] (.panicking [⟨raised code, false, false⟩]) (.panicking [⟨raised code, true, false⟩]) F M (.blk r [z] 24 :: .blk q [y] 3 :: .blk p [x] 22 :: H)
    (fun e H' => e = .returned (.tuple #[]) ∧ H' = .blk r [.int .i64 code] 24 :: .blk q [.int .i64 0] 3 :: .blk p [.slice none 0 0] 22 :: H) := by
  refine MeetsR.enter Tryd.func32 rfl rfl ?_
  repeat refine SD.seq ?_
  apply SD.recoverA; rfl; rfl; rfl; rfl
  repeat' (first | ((with_reducible apply T.mv); apply rfl; apply rfl) | ((with_reducible apply T.asn); apply rfl; apply rfl) | ((with_reducible apply T.extract); apply rfl; apply rfl; apply rfl) | ((with_reducible apply T.notB); apply rfl; apply rfl) | ((with_reducible apply T.assert); apply rfl; apply rfl; apply rfl; apply rfl) | ((with_reducible apply T.neqIf); apply rfl; apply rfl) | ((with_reducible apply T.storeW); apply rfl; apply rfl; infer_instance; (first | rfl | ((first | simp only [List.length_append] | simp only [List.length_map] | simp only [List.length_set] | simp only [List.length_replicate] | simp only [List.length_cons] | simp only [List.length_nil]); (repeat (first | simp only [List.length_append] | simp only [List.length_map] | simp only [List.length_set] | simp only [List.length_replicate] | simp only [List.length_cons] | simp only [List.length_nil])); first | done | omega)); (first | rfl | ((first | simp only [List.length_append] | simp only [List.length_map] | simp only [List.length_set] | simp only [List.length_replicate] | simp only [List.length_cons] | simp only [List.length_nil]); (repeat (first | simp only [List.length_append] | simp only [List.length_map] | simp only [List.length_set] | simp only [List.length_replicate] | simp only [List.length_cons] | simp only [List.length_nil])); first | done | omega)); (first | rfl | (repeat' first | apply all_nV | apply all_bV | apply all_iV | rfl | apply all_app))) | ((with_reducible apply T.alloc); apply rfl; intro nb) | with_reducible refine Sr.nil ?_ | with_reducible refine S.seq ?_ | with_reducible refine S.reg ?_ | with_reducible refine S.skip ?_ | ((with_reducible apply S.condT); apply rfl) | ((with_reducible apply S.condF); apply rfl) | fail)
  ((with_reducible apply S.draw); (case Hs => exact .blk nb [.int .i64 code] 55 :: H); (case es => exact  [2, 3, 4]); (case n => exact  5); (case hn => rfl))
  repeat' (first | ((with_reducible apply T.fieldAddrZ); apply rfl; apply rfl) | ((with_reducible apply T.load); apply rfl; apply rfl; infer_instance; apply rfl; apply rfl) | ((with_reducible apply T.store); apply rfl; apply rfl; infer_instance; (first | decide | (simp; omega) | simp); apply rfl) | with_reducible refine Sr.nil ?_ | ((with_reducible apply T.doneW); apply rfl) | ((with_reducible apply SA.qsn); apply rfl; apply rfl; apply rfl; kernel_rfl; (first | exact fun _ h => h | exact fun _ h => St.psub h (by ((repeat (first | dsimp only [List.set_cons_zero] | dsimp only [List.set_cons_succ])); repeat' first | exact PSub.refl _ | exact PSub.nil | ((with_reducible apply PSub.take); (repeat' first | (with_reducible exact pick_hd) | (with_reducible apply pick_tl))) | (with_reducible apply PSub.drop) | ((apply PSub.take); (repeat' first | exact pick_hd | (apply pick_tl))))))) | ((with_reducible apply SA.en); apply rfl; apply rfl; kernel_rfl) | ((with_reducible apply SA.done); apply rfl; kernel_rfl) | ((with_reducible apply SK.intro); (first | exact fun _ h => h | exact fun _ h => St.psub h (by ((repeat (first | dsimp only [List.set_cons_zero] | dsimp only [List.set_cons_succ])); repeat' first | exact PSub.refl _ | exact PSub.nil | ((with_reducible apply PSub.take); (repeat' first | (with_reducible exact pick_hd) | (with_reducible apply pick_tl))) | (with_reducible apply PSub.drop) | ((apply PSub.take); (repeat' first | exact pick_hd | (apply pick_tl))))))) | fail)
  exact ⟨.blk r [.int .i64 code] 24 :: .blk q [.int .i64 0] 3 :: .blk p [.slice none 0 0] 22 :: H, by ((repeat (first | dsimp only [List.set_cons_zero] | dsimp only [List.set_cons_succ])); repeat' first | exact PSub.refl _ | exact PSub.nil | ((with_reducible apply PSub.take); (repeat' first | (with_reducible exact pick_hd) | (with_reducible apply pick_tl))) | (with_reducible apply PSub.drop) | ((apply PSub.take); (repeat' first | exact pick_hd | (apply pick_tl)))), rfl, rfl⟩
theorem inflate_spec {F : World} {M : List Nat} {H : List Res} {c : Nat} {b : Option Addr} {bs : List UInt8} {most : Int} [hR : Rd F M H b (bs.map bV)] [hg : ∀ H, Rd F M H (some ⟨0, 0, none⟩) (ordL.map nV)] (hb : bs.length ≤ 1000000000000000) :
    Meets Tryd.prog 11 [.slice b bs.length c, .int .i64 most] F M H (fun e H' => ∃ oa oc, e = .returned (.tuple ⟨[.slice oa (infl bs (mostN most)).1.length oc, .int .i64 (infl bs (mostN most)).2.1, .int .i64 (infl bs (mostN most)).2.2]⟩) ∧ H' = rw_ oa oc (infl bs (mostN most)).1 :: H) := by
  refine Meets.enter Tryd.func11 rfl rfl ?_
  have hmost : (if (0 : Int) < (if (1048576 : Int) < most then 1048576 else most) then (if (1048576 : Int) < most then 1048576 else most) else 0) = ((mostN most : Nat) : Int) := by
    unfold mostN
    repeat' split
    all_goals omega
  have hmx : mostN most ≤ 1048576 := by unfold mostN; omega
  generalize hmn : mostN most = mx at hmost hmx ⊢
  repeat' (first | ((with_reducible apply T.max); apply rfl; apply rfl; apply rfl; rw [hmost]) | ((with_reducible apply T.mv); apply rfl; apply rfl) | ((with_reducible apply T.asn); apply rfl; apply rfl) | ((with_reducible apply T.min); apply rfl; apply rfl; apply rfl) | ((with_reducible apply T.buildL); apply rfl; apply rfl; apply rfl) | ((with_reducible apply T.alloc); apply rfl; intro nb) | ((with_reducible apply T.box); apply rfl; apply rfl; intro nb) | ((with_reducible apply S.deferM); apply rfl; apply rfl) | with_reducible refine Sr.nil ?_ | with_reducible refine S.seq ?_ | with_reducible refine S.reg ?_ | fail)
  rename_i p22 p3 p24
  have hrd : [.slice b bs.length c, .int .i64 0, .int .u32 0, .int .i64 0, .int .i64 mx, .slice none 0 0] = rd b bs c 0 mx none ([] : List UInt8).length 0 := rfl
  rw [hrd]
  refine Sr.nilrow 5 1 ?_
  refine Sr.front nb ?_
  have hfl : Tryd.f11.results = (#[.cell 4 22, .cell 5 3, .cell 6 24] : Array ResultVar) := rfl
  refine T.call rfl rfl (blocks_spec (out := []) (pos := 0) (by omega) hb (by simp) hmx) ?_
  cases hbl : blocksL bs mx (8 * bs.length + 1) 0 [] with
  | error k =>
    have hi : infl bs mx = ([], 0, k) := by simp only [infl, blocks, hbl]
    rintro _ _ ⟨rfl, rfl⟩
    rw [hi]
    refine T.ofPan ?_
    refine D.recovered HFn.h hfl rfl rfl (clo_pan k) ?_
    rintro _ _ ⟨rfl, rfl⟩
    refine ⟨⟨_, rfl⟩, [.slice none 0 0, .int .i64 0, .int .i64 k], ?_, rw_ none 0 [] :: H, fun w h => (h.psub (by ((repeat (first | dsimp only [List.set_cons_zero] | dsimp only [List.set_cons_succ])); repeat' first | exact PSub.refl _ | exact PSub.nil | ((with_reducible apply PSub.take); (repeat' first | (with_reducible exact pick_hd) | (with_reducible apply pick_tl))) | (with_reducible apply PSub.drop) | ((apply PSub.take); (repeat' first | exact pick_hd | (apply pick_tl)))))).nilrow 5 1, none, 0, rfl, rfl⟩
    (repeat' first | apply RV.nil | (apply RV.cellP; apply rfl; apply rfl; infer_instance; apply rfl))
  | ok r =>
    obtain ⟨pos, out⟩ := r
    have hi : infl bs mx = (out, (pos + 7) / 8, 0) := by simp only [infl, blocks, hbl]
    rintro _ _ ⟨oa, oc, rfl, rfl, hpos, hout⟩
    rw [hi]
    repeat' (first | with_reducible refine Sr.nil ?_ | with_reducible refine S.seq ?_ | (with_reducible apply T.ofRet) | fail)
    ((with_reducible apply S.draw); (case Hs => exact .blk nb (rd b bs c pos mx oa out.length oc) 59 :: rw_ oa oc out :: H); (case es => exact  [8, 9, 10]); (case n => exact  11); (case hn => rfl))
    repeat' (first | ((with_reducible apply T.mv); apply rfl; apply rfl) | ((with_reducible apply T.nilCheck); apply rfl; apply rfl) | ((with_reducible apply T.fieldAddrZ); apply rfl; apply rfl) | ((with_reducible apply T.load); apply rfl; apply rfl; infer_instance; apply rfl; apply rfl) | ((with_reducible apply T.store); apply rfl; apply rfl; infer_instance; (first | decide | (simp; omega) | simp); apply rfl) | with_reducible refine Sr.nil ?_ | ((with_reducible apply SA.qn); apply rfl; apply rfl; apply rfl; apply rfl; kernel_rfl) | ((with_reducible apply SA.qsn); apply rfl; apply rfl; apply rfl; kernel_rfl; (first | exact fun _ h => h | exact fun _ h => St.psub h (by ((repeat (first | dsimp only [List.set_cons_zero] | dsimp only [List.set_cons_succ])); repeat' first | exact PSub.refl _ | exact PSub.nil | ((with_reducible apply PSub.take); (repeat' first | (with_reducible exact pick_hd) | (with_reducible apply pick_tl))) | (with_reducible apply PSub.drop) | ((apply PSub.take); (repeat' first | exact pick_hd | (apply pick_tl))))))) | ((with_reducible apply SA.en); apply rfl; apply rfl; kernel_rfl) | ((with_reducible apply SA.done); apply rfl; kernel_rfl) | ((with_reducible apply SK.intro); (first | exact fun _ h => h | exact fun _ h => St.psub h (by ((repeat (first | dsimp only [List.set_cons_zero] | dsimp only [List.set_cons_succ])); repeat' first | exact PSub.refl _ | exact PSub.nil | ((with_reducible apply PSub.take); (repeat' first | (with_reducible exact pick_hd) | (with_reducible apply pick_tl))) | (with_reducible apply PSub.drop) | ((apply PSub.take); (repeat' first | exact pick_hd | (apply pick_tl))))))) | fail)
    refine T.retDr hfl rfl rfl clo_ret ?_
    rintro _ _ ⟨rfl, rfl⟩
    refine ⟨⟨_, rfl⟩, [.slice oa out.length oc, .int .i64 ((pos + 7) / 8 : Nat), .int .i64 0], ?_, rw_ oa oc out :: H, fun w h => h.psub (by ((repeat (first | dsimp only [List.set_cons_zero] | dsimp only [List.set_cons_succ])); repeat' first | exact PSub.refl _ | exact PSub.nil | ((with_reducible apply PSub.take); (repeat' first | (with_reducible exact pick_hd) | (with_reducible apply pick_tl))) | (with_reducible apply PSub.drop) | ((apply PSub.take); (repeat' first | exact pick_hd | (apply pick_tl))))), oa, oc, rfl, rfl⟩
    (repeat' first | apply RV.nil | (apply RV.cellP; apply rfl; apply rfl; infer_instance; apply rfl))
end Go.Proofs.YtjhpbljkpbdnnaaDoor
