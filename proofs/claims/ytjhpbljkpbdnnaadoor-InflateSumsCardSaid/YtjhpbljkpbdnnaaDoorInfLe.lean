/- The walk of the statement InflateSums. -/
import Derived.Test.YtjhpbljkpbdnnaaDoorInfSt
import Derived.Test.YtjhpbljkpbdnnaaDoorInfMa
import Derived.Test.YtjhpbljkpbdnnaaDoorInfAi
import Derived.Test.YtjhpbljkpbdnnaaDoorMoreB
namespace Infl
theorem hdr_vals (fl : UInt8) {n : Nat} (hn : n ≤ 65535) : [Go.Value.int .u8 (fl.toNat : Int), .int .u8 ((n : Int) % 256), .int .u8 ((n : Int) / 256 % 256), .int .u8 ((-(n : Int) - 1) % 256), .int .u8 ((-(n : Int) - 1) / 256 % 256)] = (hdr fl n).map Sg.bV := by
  simp only [hdr, List.map_cons, List.map_nil, Sg.bV, List.cons.injEq, Go.Value.int.injEq, true_and, and_true, UInt8.toNat_ofNat']
  omega
theorem be_vals (s : Nat) : [Go.Value.int .u8 (((s / 2 ^ 24 : Nat) : Int) % 256), .int .u8 (((s / 2 ^ 16 : Nat) : Int) % 256), .int .u8 (((s / 2 ^ 8 : Nat) : Int) % 256), .int .u8 ((s : Int) % 256)] = (be32 s).map Sg.bV := by
  simp only [be32, List.map_cons, List.map_nil, Sg.bV, List.cons.injEq, Go.Value.int.injEq, true_and, and_true, UInt8.toNat_ofNat']
  omega
end Infl
namespace Go.Proofs.YtjhpbljkpbdnnaaDoor
open Sg Go.IntWalk Infl
set_option maxRecDepth 100000
set_option maxHeartbeats 1000000
theorem most_bigS : mostN 1048576 = 1048576 := rfl
theorem sums_walk {F : World} {c : Nat} {b : Option Addr} {bs : List UInt8} {at_ : Int} {by_ : UInt8} [hR : ∀ H, Rd F [] H b (bs.map bV)] [hg : ∀ H, Rd F [] H (some ⟨0, 0, none⟩) (ordL.map nV)] (hb : bs.length ≤ 140737488354000) :
    Meets Tryd.prog 9 [.slice b bs.length c, .int .i64 at_, .int .u8 (by_.toNat : Int)] F [] [] (fun e _ => e = .returned (.bool true)) := by
  refine Meets.enter Tryd.func9 rfl rfl ?_
  repeat' (first | ((with_reducible apply T.asn); apply rfl; apply rfl) | with_reducible refine Sr.nil ?_ | with_reducible refine S.seq ?_ | with_reducible refine S.reg ?_ | fail)
  refine T.call rfl rfl started_spec ?_
  rintro _ _ ⟨rfl, rfl⟩
  repeat' (first | ((with_reducible apply T.mv); apply rfl; apply rfl) | ((with_reducible apply T.asn); apply rfl; apply rfl) | ((with_reducible apply T.len); apply rfl; apply rfl) | ((with_reducible apply T.gtr); apply rfl; apply rfl; apply rfl) | ((with_reducible apply T.notB); apply rfl; apply rfl) | with_reducible refine Sr.nil ?_ | with_reducible refine S.seq ?_ | with_reducible refine S.reg ?_ | with_reducible refine S.skip ?_ | ((with_reducible apply S.condF); apply rfl) | ((with_reducible apply T.retW); apply rfl) | (with_reducible apply T.ofRet) | ((with_reducible apply S.condQ); apply rfl; all_goals (intro _; try (exfalso; omega))) | fail)
  · exact ⟨[], PSub.nil, by simp⟩
  refine T.call rfl rfl (adler_spec (by omega)) ?_
  rintro _ _ ⟨rfl, rfl⟩
  have hs := adler_lt bs
  have hlo := adler_snoc bs by_
  have hgood := zlib_good (data := bs)
  have htold := fun hn i h7 hi y => @zlib_told bs hn i h7 hi y
  generalize adler bs = s at *
  repeat' (first | ((with_reducible apply T.notI64); apply rfl; omega; apply rfl) | ((with_reducible apply T.shr8Z); apply rfl; apply rfl) | ((with_reducible apply T.convMU8); apply rfl; apply rfl) | ((with_reducible apply T.mv); apply rfl; apply rfl) | ((with_reducible apply T.asn); apply rfl; apply rfl) | ((with_reducible apply T.bs); apply rfl; apply rfl; apply rfl; apply rfl; apply rfl; apply rfl; intro nb) | with_reducible refine Sr.nil ?_ | with_reducible refine S.seq ?_ | with_reducible refine S.reg ?_ | (with_reducible apply T.ofRet) | fail)
  have hv : [Value.int .u8 120, Value.int .u8 156, Value.int .u8 1, .int .u8 ((bs.length : Int) % 256), .int .u8 ((bs.length : Int) / 256 % 256), .int .u8 ((-(bs.length : Int) - 1) % 256), .int .u8 ((-(bs.length : Int) - 1) / 256 % 256)] = ([120, 156] ++ hdr 1 bs.length).map bV :=
    congrArg (fun t => Value.int .u8 120 :: Value.int .u8 156 :: t) (hdr_vals 1 (by omega))
  rw [hv]
  refine Sr.rowOf (n := 7) rfl (by decide) ?_
  refine T.appendAll (g := bV) (xs := [120, 156] ++ hdr 1 bs.length) (us := bs) (m := bs.length) rfl rfl inferInstance inferInstance rfl (fun _ => rfl) rfl (by constructor <;> omega) rfl ?_
  intro a1 c1
  repeat' (first | ((with_reducible apply T.shrU32 (n := 24)); apply rfl; apply rfl; omega; apply rfl) | ((with_reducible apply T.shrU32 (n := 16)); apply rfl; apply rfl; omega; apply rfl) | ((with_reducible apply T.shrU32 (n := 8)); apply rfl; apply rfl; omega; apply rfl) | ((with_reducible apply T.convMU8); apply rfl; apply rfl) | ((with_reducible apply T.mv); apply rfl; apply rfl) | ((with_reducible apply T.asn); apply rfl; apply rfl) | ((with_reducible apply T.bs); apply rfl; apply rfl; apply rfl; apply rfl; apply rfl; apply rfl; intro nb) | ((with_reducible apply T.append); apply rfl; apply rfl; infer_instance; (first | rfl | (simp; done)); (first | rfl | (simp; done)); apply rfl; apply rfl; (constructor <;> omega); apply rfl; intro na nc) | with_reducible refine Sr.nil ?_ | with_reducible refine S.seq ?_ | with_reducible refine S.reg ?_ | fail)
  have e1 : List.map bV ([120, 156] ++ hdr 1 bs.length ++ bs) ++ (be32 s).map bV = ([120, 156] ++ (hdr 1 bs.length ++ bs) ++ be32 s).map bV := by simp
  rw [be_vals s, e1]
  have hal : 7 + bs.length + 4 = ([120, 156] ++ (hdr 1 bs.length ++ bs) ++ be32 s).length := by simp [hdr_len, be32]; omega
  replace hgood := hgood (by omega)
  replace htold := htold (by omega)
  rw [hal]
  generalize [120, 156] ++ (hdr 1 bs.length ++ bs) ++ be32 s = all at *
  refine Sr.capR (ad := na) inferInstance fun hcap => ?_
  refine T.call rfl rfl (zlib_spec (bs := all) (by omega) (by omega)) ?_
  rintro _ _ ⟨xa, xc, rfl, rfl⟩
  rw [most_bigS, hgood]
  dsimp only
  repeat' (first | ((with_reducible apply T.mv); apply rfl; apply rfl) | ((with_reducible apply T.asn); apply rfl; apply rfl) | ((with_reducible apply T.neq); apply rfl; apply rfl; apply rfl) | ((with_reducible apply T.extract); apply rfl; apply rfl; apply rfl) | with_reducible refine Sr.nil ?_ | with_reducible refine S.seq ?_ | with_reducible refine S.reg ?_ | ((with_reducible apply T.ung); apply rfl) | (with_reducible apply T.ofRet) | fail)
  refine T.call rfl rfl (same_eq inferInstance inferInstance (by omega)) ?_
  rintro _ _ ⟨rfl, rfl⟩
  repeat' (first | ((with_reducible apply T.mv); apply rfl; apply rfl) | ((with_reducible apply T.notB); apply rfl; apply rfl) | ((with_reducible apply T.pickF); apply rfl; apply rfl; apply rfl) | ((with_reducible apply T.bs); apply rfl; apply rfl; apply rfl; apply rfl; apply rfl; apply rfl; intro nb) | with_reducible refine Sr.nil ?_ | with_reducible refine S.seq ?_ | with_reducible refine S.reg ?_ | with_reducible refine S.skip ?_ | ((with_reducible apply T.ung); apply rfl) | ((with_reducible apply S.condF); apply rfl) | (with_reducible apply T.ofRet) | fail)
  refine Sr.rowOf (n := 0) rfl (by decide) ?_
  refine T.appendAll (g := bV) (xs := ([] : List UInt8)) (us := bs) (m := bs.length) rfl rfl inferInstance inferInstance rfl (fun _ => rfl) rfl (by constructor <;> omega) rfl ?_
  intro l1 m1
  rw [List.nil_append, Nat.zero_add]
  repeat' (first | ((with_reducible apply T.mv); apply rfl; apply rfl) | ((with_reducible apply T.asn); apply rfl; apply rfl) | ((with_reducible apply T.bs); apply rfl; apply rfl; apply rfl; apply rfl; apply rfl; apply rfl; intro nb) | ((with_reducible apply T.appendB); apply rfl; apply rfl; infer_instance; apply rfl; (constructor <;> omega); apply rfl; intro na nc) | with_reducible refine Sr.nil ?_ | with_reducible refine S.seq ?_ | with_reducible refine S.reg ?_ | fail)
  have hll : bs.length + 1 = (bs ++ [by_]).length := by simp
  rw [hll]
  have hb8 : by_.toNat < 256 := by_.toNat_lt
  repeat' (first | ((with_reducible apply T.remU32 (n := 65536)); apply rfl; apply rfl; omega; apply rfl) | ((with_reducible apply T.remU32 (n := 65521)); apply rfl; apply rfl; omega; apply rfl) | ((with_reducible apply T.addU32N); apply rfl; apply rfl; omega; apply rfl) | ((with_reducible apply T.mv); apply rfl; apply rfl) | ((with_reducible apply T.asn); apply rfl; apply rfl) | ((with_reducible apply T.convU32); apply rfl; omega; apply rfl) | with_reducible refine Sr.nil ?_ | with_reducible refine S.seq ?_ | with_reducible refine S.reg ?_ | fail)
  refine T.call rfl rfl (adler_spec (bs := bs ++ [by_]) (by omega)) ?_
  rintro _ _ ⟨rfl, rfl⟩
  rw [hlo]
  have hadd : ∀ x : UInt8, ((x.toNat : Int) + (by_.toNat : Int)) % 256 = ((x + by_).toNat : Int) := fun x => by
    rw [UInt8.toNat_add]
    simp
  repeat' (first | ((with_reducible apply T.addU8); apply rfl; apply rfl; apply rfl; rw [hadd]) | ((with_reducible apply T.remU32 (n := 65521)); apply rfl; apply rfl; omega; apply rfl) | ((with_reducible apply T.quoU32 (n := 65536)); apply rfl; apply rfl; omega; omega; apply rfl) | ((with_reducible apply T.addU32N); apply rfl; apply rfl; omega; apply rfl) | ((with_reducible apply T.mulU32N (n := 65536)); apply rfl; apply rfl; omega; apply rfl) | ((with_reducible apply T.mv); apply rfl; apply rfl) | ((with_reducible apply T.asn); apply rfl; apply rfl) | ((with_reducible apply T.len); apply rfl; apply rfl) | ((with_reducible apply T.lss); apply rfl; apply rfl; apply rfl) | ((with_reducible apply T.geq); apply rfl; apply rfl; apply rfl) | ((with_reducible apply T.eql); apply rfl; apply rfl; apply rfl) | ((with_reducible apply T.neq); apply rfl; apply rfl; apply rfl) | ((with_reducible apply T.ix1); apply rfl; apply rfl; infer_instance; omega; (first | omega | (simp; omega)); apply rfl) | ((with_reducible apply T.loadB); apply rfl; infer_instance; omega; apply rfl) | ((with_reducible apply T.pickT); apply rfl; apply rfl; apply rfl) | ((with_reducible apply T.pickF); apply rfl; apply rfl; apply rfl) | ((with_reducible apply T.storeB); apply rfl; apply rfl; infer_instance; (first | omega | (simp; omega))) | with_reducible refine Sr.nil ?_ | with_reducible refine S.seq ?_ | with_reducible refine S.reg ?_ | with_reducible refine S.skip ?_ | ((with_reducible apply T.ung); apply rfl) | ((with_reducible apply T.skip); apply rfl; apply rfl; apply rfl) | ((with_reducible apply S.condT); apply rfl) | ((with_reducible apply T.retW); apply rfl) | (with_reducible apply T.ofRet) | ((with_reducible apply S.condQ); apply rfl; all_goals (intro _; try (exfalso; omega))) | ((with_reducible apply T.gcase); apply rfl; apply rfl; all_goals (intro _; try (exfalso; omega))) | fail)
  · exact ⟨[], PSub.nil, by simp⟩
  · exact ⟨[], PSub.nil, by simp⟩
  · exact ⟨[], PSub.nil, by simp⟩
  · have hne : all.getD at_.toNat 0 + by_ ≠ all.getD at_.toNat 0 := fun h => by
      have h1 := congrArg UInt8.toNat h
      have h2 := (all.getD at_.toNat 0).toNat_lt
      rw [UInt8.toNat_add] at h1
      generalize (all.getD at_.toNat 0).toNat = x at *
      omega
    replace htold := htold at_.toNat (by omega) (by omega) _ hne
    generalize all.getD at_.toNat 0 + by_ = y at *
    have hsl : all.length = (all.set at_.toNat y).length := List.length_set.symm
    have hz1 : (all.set at_.toNat y).length ≤ 1000000 := by omega
    have hz2 := hcap
    rw [hsl] at hz2 ⊢
    generalize all.set at_.toNat y = all2 at *
    refine T.call rfl rfl (zlib_spec (bs := all2) (by omega) hz2) ?_
    rintro _ _ ⟨za, zc, rfl, rfl⟩
    rw [most_bigS, htold]
    dsimp only
    repeat' (first | ((with_reducible apply T.mv); apply rfl; apply rfl) | ((with_reducible apply T.asn); apply rfl; apply rfl) | ((with_reducible apply T.eql); apply rfl; apply rfl; apply rfl) | ((with_reducible apply T.extract); apply rfl; apply rfl; apply rfl) | with_reducible refine Sr.nil ?_ | with_reducible refine S.seq ?_ | with_reducible refine S.reg ?_ | ((with_reducible apply T.retW); apply rfl) | (with_reducible apply T.ofRet) | fail)
    exact ⟨[], PSub.nil, by simp⟩
end Go.Proofs.YtjhpbljkpbdnnaaDoor
