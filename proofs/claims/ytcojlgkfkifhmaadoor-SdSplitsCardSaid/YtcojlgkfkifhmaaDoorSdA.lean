/- Both digests of a text. -/
import Derived.Test.YtcojlgkfkifhmaaDoorShaF
import Derived.Test.YtcojlgkfkifhmaaDoorB64A
import Derived.Test.YtcojlgkfkifhmaaDoorStrB
/- words -/
/- maps -/
namespace Go.Proofs.YtcojlgkfkifhmaaDoor
open Sg Go.IntWalk
set_option maxRecDepth 100000
set_option maxHeartbeats 2000000
/-- What a world's tables hold. -/
structure Tabs (F : World) (M : List Nat) : Prop where
  k : ∀ H, Rd F M H (some ⟨9, 0, none⟩) (k256.map wV)
  g : ∀ H, Rd F M H (some ⟨2, 0, none⟩) (start256.list.map wV)
  rk : ∀ H, Rd F M H (some ⟨6, 0, none⟩) (k256.map wV)
  rg : ∀ H, Rd F M H (some ⟨5, 0, none⟩) (start256.list.map wV)
def digestOf (bs : List UInt8) : List UInt8 := enc urlS (sha256 bs)
theorem digest_spec {F : World} {M : List Nat} {H : List Res} {bs : List UInt8} (hT : Tabs F M) (hn : bs.length ≤ 140737488355000) :
    Meets Tryd.prog 7 [sV bs] F M H (fun e H' => e = .returned (sV (digestOf bs)) ∧ H' = H) := by
  refine Meets.enter Tryd.func7 rfl rfl ?_
  repeat' (first | ((with_reducible apply T.convSB); apply rfl; apply rfl; intro sb sc r hR hc) | ((with_reducible apply T.mv); apply rfl; apply rfl) | ((with_reducible apply T.asn); apply rfl; apply rfl) | ((with_reducible apply T.bs); apply rfl; apply rfl; apply rfl; apply rfl; apply rfl; apply rfl; intro nb) | with_reducible refine Sr.nil ?_ | with_reducible refine S.seq ?_ | with_reducible refine S.reg ?_ | fail)
  have hp : Rd F M (.blk nb [.slice (some ⟨sb, 0, none⟩) bs.length sc] 33 :: r :: H) (some ⟨nb, 0, none⟩) ([((some ⟨sb, 0, none⟩ : Option Addr), sc, bs)].map fun p => .slice p.1 p.2.2.length p.2.1) := Rd.blk0
  have hf : [((some ⟨sb, 0, none⟩ : Option Addr), sc, bs)].flatMap (·.2.2) = bs := by simp
  refine T.call rfl rfl (sum_spec (ps := [((some ⟨sb, 0, none⟩ : Option Addr), sc, bs)]) hT.k hT.g hp (fun p hp => by
    obtain rfl := List.mem_singleton.1 hp
    exact ⟨Rd.tl, hc⟩) (by rw [hf]; omega) (show 1 ≤ 140737488355328 by decide)) ?_
  rintro _ _ ⟨ad, cp, rfl, rfl⟩
  rw [hf]
  refine Sr.capR (ad := ad) inferInstance (fun hcap => ?_)
  skip
  have hl : (sha256 bs).length = 32 := sha256_len bs
  rw [← hl]
  refine T.call rfl rfl (encode_spec (bs := sha256 bs) inferInstance (by omega) (by omega)) ?_
  rintro _ _ ⟨rfl, r2, rfl⟩
  repeat' (first | ((with_reducible apply T.asn); apply rfl; apply rfl) | with_reducible refine Sr.nil ?_ | ((with_reducible apply T.retW); apply rfl) | (with_reducible apply T.ofRet) | fail)
  exact ⟨_, by ((repeat (first | dsimp only [List.set_cons_zero] | dsimp only [List.set_cons_succ])); repeat' first | exact PSub.refl _ | exact PSub.nil | ((with_reducible apply PSub.take); (repeat' first | (with_reducible exact pick_hd) | (with_reducible apply pick_tl))) | (with_reducible apply PSub.drop) | ((apply PSub.take); (repeat' first | exact pick_hd | (apply pick_tl)))), rfl, rfl⟩
theorem refDigest_spec {F : World} {M : List Nat} {H : List Res} {bs : List UInt8} (hT : Tabs F M) (hn : bs.length ≤ 140737488355000) :
    Meets Tryd.prog 8 [sV bs] F M H (fun e H' => e = .returned (sV (digestOf bs)) ∧ H' = H) := by
  refine Meets.enter Tryd.func8 rfl rfl ?_
  refine S.nilrowB 5 ?_
  repeat' (first | ((with_reducible apply T.appendS); apply rfl; apply rfl; infer_instance; omega; apply rfl; intro na nc) | ((with_reducible apply T.mv); apply rfl; apply rfl) | ((with_reducible apply T.asn); apply rfl; apply rfl) | with_reducible refine Sr.nil ?_ | with_reducible refine S.seq ?_ | with_reducible refine S.reg ?_ | fail)
  rw [List.nil_append, Nat.zero_add]
  refine T.call rfl rfl (refSum_spec (bs := bs) inferInstance hn hT.rk hT.rg) ?_
  rintro _ _ ⟨ad, cp, rfl, rfl⟩
  repeat' (first | (with_reducible apply T.ofRet) | fail)
  have hl : (sha256 bs).length = 32 := sha256_len bs
  rw [← hl]
  refine T.call rfl rfl (refEncode_spec (bs := sha256 bs) inferInstance (by omega)) ?_
  rintro _ _ ⟨rfl, r2, rfl⟩
  repeat' (first | ((with_reducible apply T.asn); apply rfl; apply rfl) | with_reducible refine Sr.nil ?_ | ((with_reducible apply T.retW); apply rfl) | (with_reducible apply T.ofRet) | fail)
  exact ⟨_, by ((repeat (first | dsimp only [List.set_cons_zero] | dsimp only [List.set_cons_succ])); repeat' first | exact PSub.refl _ | exact PSub.nil | ((with_reducible apply PSub.take); (repeat' first | (with_reducible exact pick_hd) | (with_reducible apply pick_tl))) | (with_reducible apply PSub.drop) | ((apply PSub.take); (repeat' first | exact pick_hd | (apply pick_tl)))), rfl, rfl⟩
end Go.Proofs.YtcojlgkfkifhmaaDoor
