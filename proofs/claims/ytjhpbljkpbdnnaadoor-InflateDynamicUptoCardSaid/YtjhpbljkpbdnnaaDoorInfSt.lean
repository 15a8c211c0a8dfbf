/- The statement's helper 'started': it returns true. -/
import Derived.Test.YtjhpbljkpbdnnaaDoorInfLa
import Derived.Test.YtjhpbljkpbdnnaaDoorInfL
import Derived.Test.YtjhpbljkpbdnnaaDoorInfM
import Derived.Test.YtjhpbljkpbdnnaaDoorMark
namespace Infl
theorem start1 : infl [1, 3, 0, 252, 255, 97, 98, 99] (mostN 9) = ([97, 98, 99], 8, 0) := by decide +kernel
theorem start2 : infl [75, 76, 4, 0] (mostN 9) = ([97, 97], 4, 0) := by decide +kernel
theorem start3 : infl [7] (mostN 9) = ([], 0, 240) := by decide +kernel
theorem start4 : adler [97] = 6422626 := by decide +kernel
end Infl
namespace Go.Proofs.YtjhpbljkpbdnnaaDoor
open Sg Go.IntWalk Infl
set_option maxRecDepth 100000
set_option maxHeartbeats 1000000
theorem started_spec {F : World} {M : List Nat} {H : List Res} [hg : ∀ H, Rd F M H (some ⟨0, 0, none⟩) (ordL.map nV)] :
    Meets Tryd.prog 16 [] F M H (fun e H' => e = .returned (.bool true) ∧ H' = H) := by
  refine Meets.enter Tryd.func16 rfl rfl ?_
  repeat' (first | ((with_reducible apply T.asn); apply rfl; apply rfl) | ((with_reducible apply T.bs); apply rfl; apply rfl; apply rfl; apply rfl; apply rfl; apply rfl; intro nb) | with_reducible refine Sr.nil ?_ | with_reducible refine S.seq ?_ | with_reducible refine S.reg ?_ | fail)
  have h1 : [Value.int .u8 1, Value.int .u8 3, Value.int .u8 0, Value.int .u8 252, Value.int .u8 255, Value.int .u8 97, Value.int .u8 98, Value.int .u8 99] = ([1, 3, 0, 252, 255, 97, 98, 99] : List UInt8).map bV := rfl
  rw [h1]
  refine T.call rfl rfl (inflate_spec (bs := [1, 3, 0, 252, 255, 97, 98, 99]) (most := 9) (by decide)) ?_
  rintro _ _ ⟨a1, c1, rfl, rfl⟩
  rw [start1]
  dsimp only
  repeat' (first | ((with_reducible apply T.mv); apply rfl; apply rfl) | ((with_reducible apply T.asn); apply rfl; apply rfl) | ((with_reducible apply T.extract); apply rfl; apply rfl; apply rfl) | ((with_reducible apply T.bs); apply rfl; apply rfl; apply rfl; apply rfl; apply rfl; apply rfl; intro nb) | with_reducible refine Sr.nil ?_ | with_reducible refine S.seq ?_ | with_reducible refine S.reg ?_ | (with_reducible apply T.ofRet) | fail)
  have h2 : [Value.int .u8 75, Value.int .u8 76, Value.int .u8 4, Value.int .u8 0] = ([75, 76, 4, 0] : List UInt8).map bV := rfl
  rw [h2]
  refine T.call rfl rfl (inflate_spec (bs := [75, 76, 4, 0]) (most := 9) (by decide)) ?_
  rintro _ _ ⟨a2, c2, rfl, rfl⟩
  rw [start2]
  dsimp only
  repeat' (first | ((with_reducible apply T.mv); apply rfl; apply rfl) | ((with_reducible apply T.asn); apply rfl; apply rfl) | ((with_reducible apply T.extract); apply rfl; apply rfl; apply rfl) | ((with_reducible apply T.bs); apply rfl; apply rfl; apply rfl; apply rfl; apply rfl; apply rfl; intro nb) | with_reducible refine Sr.nil ?_ | with_reducible refine S.seq ?_ | with_reducible refine S.reg ?_ | (with_reducible apply T.ofRet) | fail)
  have h3 : [Value.int .u8 7] = ([7] : List UInt8).map bV := rfl
  rw [h3]
  refine T.call rfl rfl (inflate_spec (bs := [7]) (most := 9) (by decide)) ?_
  rintro _ _ ⟨a3, c3, rfl, rfl⟩
  rw [start3]
  dsimp only
  repeat' (first | ((with_reducible apply T.mv); apply rfl; apply rfl) | ((with_reducible apply T.asn); apply rfl; apply rfl) | ((with_reducible apply T.eql); apply rfl; apply rfl; apply rfl) | ((with_reducible apply T.extract); apply rfl; apply rfl; apply rfl) | ((with_reducible apply T.pickT); apply rfl; apply rfl; apply rfl) | ((with_reducible apply T.bs); apply rfl; apply rfl; apply rfl; apply rfl; apply rfl; apply rfl; intro nb) | with_reducible refine Sr.nil ?_ | with_reducible refine S.seq ?_ | with_reducible refine S.reg ?_ | ((with_reducible apply T.ung); apply rfl) | (with_reducible apply T.ofRet) | fail)
  have h4 : [Value.int .u8 97, Value.int .u8 98, Value.int .u8 99] = ([97, 98, 99] : List UInt8).map bV := rfl
  rw [h4]
  repeat' (first | (apply T.convM; apply rfl; apply rfl) | ((with_reducible apply T.ung); apply rfl) | fail)
  refine T.call rfl rfl (same_eq (xs := [97, 98, 99]) inferInstance inferInstance (by decide)) ?_
  rintro _ _ ⟨rfl, rfl⟩
  repeat' (first | ((with_reducible apply T.mv); apply rfl; apply rfl) | ((with_reducible apply T.eql); apply rfl; apply rfl; apply rfl) | ((with_reducible apply T.pickT); apply rfl; apply rfl; apply rfl) | ((with_reducible apply T.bs); apply rfl; apply rfl; apply rfl; apply rfl; apply rfl; apply rfl; intro nb) | ((with_reducible apply T.ung); apply rfl) | (with_reducible apply T.ofRet) | fail)
  have h5 : [Value.int .u8 97, Value.int .u8 97] = ([97, 97] : List UInt8).map bV := rfl
  rw [h5]
  repeat' (first | (apply T.convM; apply rfl; apply rfl) | ((with_reducible apply T.ung); apply rfl) | fail)
  refine T.call rfl rfl (same_eq (xs := [97, 97]) inferInstance inferInstance (by decide)) ?_
  rintro _ _ ⟨rfl, rfl⟩
  repeat' (first | ((with_reducible apply T.mv); apply rfl; apply rfl) | ((with_reducible apply T.eql); apply rfl; apply rfl; apply rfl) | ((with_reducible apply T.pickT); apply rfl; apply rfl; apply rfl) | ((with_reducible apply T.bs); apply rfl; apply rfl; apply rfl; apply rfl; apply rfl; apply rfl; intro nb) | ((with_reducible apply T.ung); apply rfl) | (with_reducible apply T.ofRet) | fail)
  have h6 : [Value.int .u8 97] = ([97] : List UInt8).map bV := rfl
  rw [h6]
  repeat' (first | (apply T.convM; apply rfl; apply rfl) | ((with_reducible apply T.ung); apply rfl) | fail)
  refine T.call rfl rfl (adler_spec (bs := [97]) (by decide)) ?_
  rintro _ _ ⟨rfl, rfl⟩
  rw [start4]
  repeat' (first | ((with_reducible apply T.asn); apply rfl; apply rfl) | ((with_reducible apply T.eql); apply rfl; apply rfl; apply rfl) | ((with_reducible apply T.pickT); apply rfl; apply rfl; apply rfl) | with_reducible refine Sr.nil ?_ | ((with_reducible apply T.ung); apply rfl) | ((with_reducible apply T.retW); apply rfl) | (with_reducible apply T.ofRet) | fail)
  exact ⟨H, by ((repeat (first | dsimp only [List.set_cons_zero] | dsimp only [List.set_cons_succ])); repeat' first | exact PSub.refl _ | exact PSub.nil | ((with_reducible apply PSub.take); (repeat' first | (with_reducible exact pick_hd) | (with_reducible apply pick_tl))) | (with_reducible apply PSub.drop) | ((apply PSub.take); (repeat' first | exact pick_hd | (apply pick_tl)))), by simp⟩
end Go.Proofs.YtjhpbljkpbdnnaaDoor
