/- Texts put together by a program: B64A ShlI B64E RevF SplP SerP RevG ShaA. -/
import Derived.Test.YtjajcmedipjfhaaGreatDoorFacts
import Derived.Test.YtjajcmedipjfhaaGreatDoorMh
import Derived.Test.YtjajcmedipjfhaaGreatDoorMa
import Derived.Shelf.Small.Strs
import Derived.Test.YtjajcmedipjfhaaGreatDoorProg
import Derived.Test.YtjajcmedipjfhaaGreatDoorMc
import Derived.Test.YtjajcmedipjfhaaGreatDoorMg
import Derived.Test.YtjajcmedipjfhaaGreatDoorMb
import Derived.Test.YtjajcmedipjfhaaGreatDoorMd
/- Both spellings of bytes in 64 signs. -/
namespace Go.Proofs.YtjajcmedipjfhaaGreatDoor
open Sg Go Go.RowKit Go.IntWalk
set_option maxRecDepth 100000
set_option maxHeartbeats 2000000
theorem getD_drop'' {l : List UInt8} {o j : Nat} : (l.drop o).getD j 0 = l.getD (o + j) 0 := by simp [List.getD]
theorem grp_six (bs : List UInt8) (q : Nat) : six bs (4 * q) = grp bs q / 2 ^ 18 % 64 ∧ six bs (4 * q + 1) = grp bs q / 2 ^ 12 % 64 ∧ six bs (4 * q + 2) = grp bs q / 2 ^ 6 % 64 ∧ six bs (4 * q + 3) = grp bs q % 64 := by
 refine ⟨?_, ?_, ?_, ?_⟩
 ·rw [six, show 4 * q / 4 = q by omega, show 4 * q % 4 = 0 by omega]
 ·rw [six, show (4 * q + 1) / 4 = q by omega, show (4 * q + 1) % 4 = 1 by omega]
 ·rw [six, show (4 * q + 2) / 4 = q by omega, show (4 * q + 2) % 4 = 2 by omega]
 ·rw [six, show (4 * q + 3) / 4 = q by omega, show (4 * q + 3) % 4 = 3 by omega, Nat.sub_self, Nat.pow_zero, Nat.div_one]
theorem spell_spec {F : World} {M : List Nat} {H : List Res} {sa : Option Addr} {gs bs : List UInt8} {c : Nat} (hR : Rd F M H sa (bs.map bV)) (hc : bs.length ≤ c) (hS : gs.length = 64) (hn : bs.length ≤ 35184372088832) :
  Meets Tryz.prog 62 [.slice sa bs.length c, sV gs] F M H (fun e H' => ∃ ad cp, e = .returned (.slice ad (enc gs bs).length cp) ∧ H' = .row ad cp 5 1 (enc gs bs).length ((enc gs bs).map bV) :: H) := by
 refine Meets.enter Tryz.func62 rfl rfl ?_
 repeat' (first | ((with_reducible apply T.addKN 2); apply rfl; apply rfl; omega; apply rfl) | ((with_reducible apply T.quoI64 (n := 3)); apply rfl; apply rfl; omega; omega; apply rfl) | ((with_reducible apply T.mulNK 4); apply rfl; apply rfl; omega; apply rfl) | (apply T.makeB0; apply rfl; apply rfl; omega; apply rfl; intro nb) | ((first | apply T.mv | apply T.asn | apply T.len); apply rfl; apply rfl) | (with_reducible first | refine Sr.nil ?_ | refine S.seq ?_ | refine S.block ?_ | refine S.reg ?_) | fail)
 refine S.loopE 1 [1] (fun R b' μ H' e => ∃ (q : Nat) (r : List UInt8) (ra : Option Addr) (rc : Nat) (o : List UInt8) (ad : Option Addr) (cp : Nat), H' = .row ad cp 5 1 o.length (o.map bV) :: R ∧ e = (0, .slice ra r.length rc) :: (5, .slice ad o.length cp) :: b' ∧ r = bs.drop (3 * q) ∧ Rd F M H ra (r.map bV) ∧ r.length ≤ rc ∧ o = (List.range (4 * q)).map (fun i => gs.getD (six bs i) 0) ∧ 3 * q ≤ bs.length ∧ μ = r.length) rfl rfl ?_ _ _ ⟨0, bs, sa, c, [], _, _, rfl, rfl, rfl, hR, hc, rfl, by omega, rfl⟩ (by repeat' first | exact trivial | refine And.intro rfl ?_)
 rintro _ _ _ ⟨q, r, ra, rc, o, ad, cp, rfl, rfl, hr, hRr, hrc, ho, hq, rfl⟩ ih
 have hrl : r.length = bs.length - 3 * q := by rw [hr, List.length_drop]
 have hol : o.length = 4 * q := by rw [ho, List.length_map, List.length_range]
 have hg : ∀ j, r.getD j 0 = bs.getD (3 * q + j) 0 := fun j => by rw [hr, getD_drop'']
 by_cases h1 : 3 ≤ r.length
 ·have b0 := UInt8.toNat_lt (r.getD 0 0)
  have b1 := UInt8.toNat_lt (r.getD 1 0)
  have b2 := UInt8.toNat_lt (r.getD 2 0)
  have hgv : (r.getD 0 0).toNat * 65536 + (r.getD 1 0).toNat * 256 + (r.getD 2 0).toNat = grp bs q := by rw [hg, hg, hg]; rfl
  have hV : grp bs q < 16777216 := by rw [← hgv]; omega
  have hd12 : grp bs q / 2 ^ 12 < 18446744073709551616 := by omega
  have hd6 : grp bs q / 2 ^ 6 < 18446744073709551616 := by omega
  repeat' (first | ((with_reducible apply T.shlU64 (n := 16)); apply rfl; apply rfl; omega; omega; apply rfl) | ((with_reducible apply T.shlU64 (n := 8)); apply rfl; apply rfl; omega; omega; apply rfl) | (apply T.orU64; apply rfl; apply rfl; (first | omega | exact Nat.or_lt_two_pow (n := 64) (by omega) (by omega)); omega; apply rfl) | ((first | apply T.mv | apply T.asn | apply T.len); apply rfl; apply rfl) | (apply T.geq; (iterate 3 apply rfl)) | (apply T.ixC; apply rfl; infer_instance; omega; (first | omega | (simp only [List.length_map]; omega) | (simp; omega)); apply rfl) | (apply T.loadB; apply rfl; infer_instance; omega; apply rfl) | (apply T.convU64; apply rfl; omega; apply rfl) | (with_reducible first | refine Sr.nil ?_ | refine S.seq ?_ | refine S.block ?_ | refine S.reg ?_ | refine S.skip ?_) | (apply S.quiet; apply rfl; kernel_rfl) | (apply S.condQ; apply rfl; all_goals (intro _; try (exfalso; first | omega | with_reducible contradiction))) | fail)
  rw [grp_or b1 b2, hgv]
  (apply S.draw; (case Hs => exact []); (case es => exact  [19, 20]); (case n => exact  22); (case hn => rfl))
  repeat' (first | ((with_reducible apply T.shrU64 (n := 18)); apply rfl; apply rfl; omega; apply rfl) | ((with_reducible apply T.shrU64 (n := 12)); apply rfl; apply rfl; omega; apply rfl) | ((with_reducible apply T.shrU64 (n := 6)); apply rfl; apply rfl; omega; apply rfl) | ((with_reducible apply T.andU64 (n := 63)); apply rfl; apply rfl; omega; omega; apply rfl) | (apply T.sidx; apply rfl; apply rfl; (first | omega | (rw [b64and63, hS]; exact Nat.mod_lt _ (by decide))); apply rfl) | (apply T.append4; apply rfl; apply rfl; infer_instance; apply rfl; (constructor <;> omega); apply rfl; intro na nc) | ((first | apply T.mv | apply T.asn); apply rfl; apply rfl) | (apply T.sliceLC; apply rfl; omega; apply rfl) | (apply T.bs; (iterate 6 apply rfl); intro nb) | (with_reducible first | refine Sr.nil ?_ | refine S.reg ?_ | refine S.inBlock ?_) | (apply SA.qn; (iterate 4 apply rfl); kernel_rfl) | (apply SA.qz; (iterate 4 apply rfl); kernel_rfl) | (apply SA.en; apply rfl; apply rfl; kernel_rfl) | (apply SA.done; apply rfl; kernel_rfl) | (apply SK.intro; (first | exact fun _ h => h | exact fun _ h => St.psub h (by ((repeat (first | dsimp only [List.set_cons_zero] | dsimp only [List.set_cons_succ])); repeat' first | exact PSub.refl _ | exact PSub.nil | (apply PSub.take; (repeat' first | (with_reducible exact pick_hd) | (with_reducible apply pick_tl))) | (with_reducible apply PSub.drop) | ((apply PSub.take); (repeat' first | exact pick_hd | (apply pick_tl))))))) | fail)
  obtain ⟨s0, s1, s2, s3⟩ := grp_six bs q
  have ho2 : o ++ [gs.getD (grp bs q / 2 ^ 18) 0, gs.getD (grp bs q / 2 ^ 12 &&& 63) 0, gs.getD (grp bs q / 2 ^ 6 &&& 63) 0, gs.getD (grp bs q &&& 63) 0] = (List.range (4 * (q + 1))).map (fun i => gs.getD (six bs i) 0) := by
   rw [show 4 * (q + 1) = 4 * q + 4 from rfl, range4, ← ho, b64and63, b64and63, b64and63, s0, s1, s2, s3, Nat.mod_eq_of_lt (show grp bs q / 2 ^ 18 < 64 by omega)]
  have ho3 : o.length + 4 = ((List.range (4 * (q + 1))).map (fun i => gs.getD (six bs i) 0)).length := by rw [← ho2, List.length_append]; rfl
  rw [ho3, ho2, show r.length - 3 = (r.drop 3).length by rw [List.length_drop]]
  exact ih _ _ _ _ ⟨q + 1, r.drop 3, _, rc - 3, _, _, _, rfl, rfl, by rw [hr, List.drop_drop]; rfl, hRr.sub1 (cp := rc) (lo := 3) hrc, by rw [List.length_drop]; omega, rfl, by omega, rfl⟩ (by rw [List.length_drop]; omega) (by repeat' first | exact trivial | refine And.intro rfl ?_)
 ·clear ih
  have hgq : grp bs q = (r.getD 0 0).toNat * 65536 + (r.getD 1 0).toNat * 256 + (r.getD 2 0).toNat := by rw [hg, hg, hg]; rfl
  obtain ⟨s0, s1, s2, s3⟩ := grp_six bs q
  have b0 := UInt8.toNat_lt (r.getD 0 0)
  have b1 := UInt8.toNat_lt (r.getD 1 0)
  have hz : ∀ j, r.length ≤ j → r.getD j 0 = 0 := fun j hj => by simp [List.getD, hj]
  by_cases h2 : r.length = 2
  ·have e1 : ((r.getD 0 0).toNat &&& 3) * 2 ^ 4 ||| (r.getD 1 0).toNat / 2 ^ 4 = (r.getD 0 0).toNat % 4 * 16 + (r.getD 1 0).toNat / 16 := by rw [and3, or16 (by omega)]
   repeat' (first | ((first | apply T.mv | apply T.asn | apply T.len); apply rfl; apply rfl) | ((first | apply T.geq | apply T.eql); (iterate 3 apply rfl)) | (with_reducible first | refine Sr.nil ?_ | refine S.seq ?_ | refine S.block ?_ | refine S.reg ?_) | (apply S.exit; apply rfl) | (apply S.condQ; apply rfl; all_goals (intro _; try (exfalso; first | omega | with_reducible contradiction))) | fail)
   (apply S.draw; (case Hs => exact H); (case es => exact  [26, 27]); (case n => exact  29); (case hn => rfl))
   repeat' (first | ((with_reducible apply T.shrU8 (n := 2)); apply rfl; apply rfl; omega; apply rfl) | ((with_reducible apply T.shrU8 (n := 4)); apply rfl; apply rfl; omega; apply rfl) | ((with_reducible apply T.andU8 (n := 3)); apply rfl; apply rfl; omega; omega; apply rfl) | ((with_reducible apply T.andU8 (n := 15)); apply rfl; apply rfl; omega; omega; apply rfl) | ((with_reducible apply T.shlU8 (n := 4)); apply rfl; apply rfl; (rw [and3]; omega); omega; apply rfl) | ((with_reducible apply T.shlU8 (n := 2)); apply rfl; apply rfl; (rw [b64and15]; omega); omega; apply rfl) | (apply T.orU8; apply rfl; apply rfl; (rw [and3]; omega); omega; apply rfl) | (apply T.sidx; apply rfl; apply rfl; (first | omega | (rw [e1]; omega) | (rw [b64and15]; omega)); apply rfl) | (apply T.append3; apply rfl; apply rfl; infer_instance; apply rfl; (constructor <;> omega); apply rfl; intro na nc) | ((first | apply T.mv | apply T.asn); apply rfl; apply rfl) | (apply T.ixC; apply rfl; infer_instance; omega; (first | omega | (simp only [List.length_map]; omega) | (simp; omega)); apply rfl) | (apply T.loadB; apply rfl; infer_instance; omega; apply rfl) | (apply T.bs; (iterate 6 apply rfl); intro nb) | (with_reducible first | refine Sr.nil ?_ | refine S.seq ?_ | refine S.reg ?_ | refine S.inBlock ?_) | (apply T.retW; apply rfl) | (apply SA.qn; (iterate 4 apply rfl); kernel_rfl) | (apply SA.qz; (iterate 4 apply rfl); kernel_rfl) | (apply SA.qsn; (iterate 3 apply rfl); kernel_rfl; (first | exact fun _ h => h | exact fun _ h => St.psub h (by ((repeat (first | dsimp only [List.set_cons_zero] | dsimp only [List.set_cons_succ])); repeat' first | exact PSub.refl _ | exact PSub.nil | (apply PSub.take; (repeat' first | (with_reducible exact pick_hd) | (with_reducible apply pick_tl))) | (with_reducible apply PSub.drop) | ((apply PSub.take); (repeat' first | exact pick_hd | (apply pick_tl))))))) | (apply SA.en; apply rfl; apply rfl; kernel_rfl) | (apply SA.done; apply rfl; kernel_rfl) | (apply SK.intro; (first | exact fun _ h => h | exact fun _ h => St.psub h (by ((repeat (first | dsimp only [List.set_cons_zero] | dsimp only [List.set_cons_succ])); repeat' first | exact PSub.refl _ | exact PSub.nil | (apply PSub.take; (repeat' first | (with_reducible exact pick_hd) | (with_reducible apply pick_tl))) | (with_reducible apply PSub.drop) | ((apply PSub.take); (repeat' first | exact pick_hd | (apply pick_tl))))))) | fail)
   have hz2 := hz 2 (by omega)
   rw [hz2] at hgq
   have hen : enc gs bs = o ++ [gs.getD ((r.getD 0 0).toNat / 2 ^ 2) 0, gs.getD (((r.getD 0 0).toNat &&& 3) * 2 ^ 4 ||| (r.getD 1 0).toNat / 2 ^ 4) 0, gs.getD (((r.getD 1 0).toNat &&& 15) * 2 ^ 2) 0] := by
    rw [enc, show signsN bs.length = 4 * q + 3 by unfold signsN; omega, range3, ← ho, e1, b64and15, s0, s1, s2, hgq, show (0 : UInt8).toNat = 0 from rfl]
    rw [show ((r.getD 0 0).toNat * 65536 + (r.getD 1 0).toNat * 256 + 0) / 2 ^ 18 % 64 = (r.getD 0 0).toNat / 2 ^ 2 by omega, show ((r.getD 0 0).toNat * 65536 + (r.getD 1 0).toNat * 256 + 0) / 2 ^ 12 % 64 = (r.getD 0 0).toNat % 4 * 16 + (r.getD 1 0).toNat / 16 by omega,
     show ((r.getD 0 0).toNat * 65536 + (r.getD 1 0).toNat * 256 + 0) / 2 ^ 6 % 64 = (r.getD 1 0).toNat % 16 * 2 ^ 2 by omega]
   have hel : o.length + 3 = (enc gs bs).length := by rw [hen, List.length_append]; rfl
   rw [hel, ← hen]
   exact ⟨_, PSub.refl _, _, _, rfl, rfl⟩
  ·by_cases h3 : r.length = 1
   ·repeat' (first | ((first | apply T.mv | apply T.asn | apply T.len); apply rfl; apply rfl) | ((first | apply T.geq | apply T.eql); (iterate 3 apply rfl)) | (with_reducible first | refine Sr.nil ?_ | refine S.seq ?_ | refine S.block ?_ | refine S.reg ?_) | (apply S.exit; apply rfl) | (apply S.condQ; apply rfl; all_goals (intro _; try (exfalso; first | omega | with_reducible contradiction))) | fail)
    (apply S.draw; (case Hs => exact H); (case es => exact  [14, 15]); (case n => exact  17); (case hn => rfl))
    repeat' (first | ((with_reducible apply T.shrU8 (n := 2)); apply rfl; apply rfl; omega; apply rfl) | ((with_reducible apply T.andU8 (n := 3)); apply rfl; apply rfl; omega; omega; apply rfl) | ((with_reducible apply T.shlU8 (n := 4)); apply rfl; apply rfl; (rw [and3]; omega); omega; apply rfl) | (apply T.sidx; apply rfl; apply rfl; (first | omega | (rw [and3]; omega)); apply rfl) | (apply T.append2; apply rfl; apply rfl; infer_instance; apply rfl; (constructor <;> omega); apply rfl; intro na nc) | ((first | apply T.mv | apply T.asn); apply rfl; apply rfl) | (apply T.ixC; apply rfl; infer_instance; omega; (first | omega | (simp only [List.length_map]; omega) | (simp; omega)); apply rfl) | (apply T.loadB; apply rfl; infer_instance; omega; apply rfl) | (apply T.bs; (iterate 6 apply rfl); intro nb) | (with_reducible first | refine Sr.nil ?_ | refine S.seq ?_ | refine S.reg ?_ | refine S.inBlock ?_) | (apply T.retW; apply rfl) | (apply SA.qn; (iterate 4 apply rfl); kernel_rfl) | (apply SA.qz; (iterate 4 apply rfl); kernel_rfl) | (apply SA.en; apply rfl; apply rfl; kernel_rfl) | (apply SA.done; apply rfl; kernel_rfl) | (apply SK.intro; (first | exact fun _ h => h | exact fun _ h => St.psub h (by ((repeat (first | dsimp only [List.set_cons_zero] | dsimp only [List.set_cons_succ])); repeat' first | exact PSub.refl _ | exact PSub.nil | (apply PSub.take; (repeat' first | (with_reducible exact pick_hd) | (with_reducible apply pick_tl))) | (with_reducible apply PSub.drop) | ((apply PSub.take); (repeat' first | exact pick_hd | (apply pick_tl))))))) | fail)
    have hz1 := hz 1 (by omega)
    have hz2 := hz 2 (by omega)
    rw [hz2, hz1] at hgq
    have hen : enc gs bs = o ++ [gs.getD ((r.getD 0 0).toNat / 2 ^ 2) 0, gs.getD (((r.getD 0 0).toNat &&& 3) * 2 ^ 4) 0] := by
     rw [enc, show signsN bs.length = 4 * q + 2 by unfold signsN; omega, range2, ← ho, and3, s0, s1, hgq, show (0 : UInt8).toNat = 0 from rfl]
     rw [show ((r.getD 0 0).toNat * 65536 + 0 * 256 + 0) / 2 ^ 18 % 64 = (r.getD 0 0).toNat / 2 ^ 2 by omega, show ((r.getD 0 0).toNat * 65536 + 0 * 256 + 0) / 2 ^ 12 % 64 = (r.getD 0 0).toNat % 4 * 2 ^ 4 by omega]
    have hel : o.length + 2 = (enc gs bs).length := by rw [hen, List.length_append]; rfl
    rw [hel, ← hen]
    exact ⟨_, PSub.refl _, _, _, rfl, rfl⟩
   ·have hen : enc gs bs = o := by
     rw [enc, show signsN bs.length = 4 * q by unfold signsN; omega, ← ho]
    rw [hen]
    repeat' (first | ((first | apply T.mv | apply T.asn | apply T.len); apply rfl; apply rfl) | ((first | apply T.geq | apply T.eql); (iterate 3 apply rfl)) | (with_reducible first | refine Sr.nil ?_ | refine S.seq ?_ | refine S.block ?_ | refine S.reg ?_ | refine S.skip ?_ | refine S.inBlock ?_) | (apply S.exit; apply rfl) | (apply S.condQ; apply rfl; all_goals (intro _; try (exfalso; first | omega | with_reducible contradiction))) | (apply T.retW; apply rfl) | fail)
    exact ⟨_, PSub.refl _, _, _, rfl, rfl⟩
theorem encode_spec {F : World} {M : List Nat} {H : List Res} {sa : Option Addr} {bs : List UInt8} {c : Nat} (hR : Rd F M H sa (bs.map bV)) (hc : bs.length ≤ c) (hn : bs.length ≤ 35184372088832) :
  Meets Tryz.prog 36 [.slice sa bs.length c] F M H (fun e H' => e = .returned (sV (enc urlS bs)) ∧ ∃ r, H' = r :: H) := by
 refine Meets.enter Tryz.func36 rfl rfl ?_
 repeat' (first | ((first | apply T.mv | apply T.asn); apply rfl; apply rfl) | (with_reducible first | refine Sr.nil ?_ | refine S.seq ?_ | refine S.reg ?_) | fail)
 refine T.call rfl rfl (spell_spec (gs := urlS) hR hc rfl hn) ?_
 rintro _ _ ⟨ad, cp, rfl, rfl⟩
 repeat' (first | (apply T.convS; apply rfl; infer_instance; (first | rfl | assumption | exact beN_len _ _ | (simp; done) | (simp; omega)); apply rfl) | (apply T.asn; apply rfl; apply rfl) | with_reducible refine Sr.nil ?_ | (apply T.retW; apply rfl) | (with_reducible apply T.ofRet) | fail)
 exact ⟨_, PSub.refl _, rfl, _, rfl⟩
/- The document's own spelling. -/
end Go.Proofs.YtjajcmedipjfhaaGreatDoor
/- The library's contracts, laid at this program (printed by the kit's tools lay-shelf and lay-plain, cut out by a program). -/
namespace Go.Proofs
open Go.Shelf
def Tryz.lays137_ren : Go.Shelf.Ren := ⟨fun | 137 => 41 | 217 => 72 | 266 => 103 | n => n, fun | 9 => 9 | 5 => 5 | 3 => 3 | n => n, fun | n => n⟩
theorem Tryz.lays137 : Go.Proofs.Lays.n137 Tryz.prog Tryz.lays137_ren := {
 mixed := by kernel_rfl
 f137 := Tryz.func41.trans (congrArg some (by kernel_rfl))
 f217 := Tryz.func72.trans (congrArg some (by kernel_rfl))
 f266 := Tryz.func103.trans (congrArg some (by kernel_rfl))
 t3 := Tryz.underlying3
 a3 := Tryz.isAgg3
 z3 := Tryz.sizeOf3
 v3 := Tryz.zeroValue3
 t5 := Tryz.underlying5
 a5 := Tryz.isAgg5
 z5 := Tryz.sizeOf5
 v5 := Tryz.zeroValue5
 t9 := Tryz.underlying9
 a9 := Tryz.isAgg9
 z9 := Tryz.sizeOf9
 v9 := Tryz.zeroValue9 }
open Go.RowKit in
theorem Tryz.strings_IndexByte (s : ByteArray) (c : Int) (w : World) :
  Calls Tryz.prog 41 #[.string s, .int .u8 c] w fun e w' => e = .returned (.int .i64 (Lib.indexByte s.data.toList c.toNat.toUInt8)) ∧ w' = w := Any.strings_IndexByte Tryz.lays137 s c w
end Go.Proofs
/- The walk of the program's reading of 64 signs. -/
namespace Go.Proofs.YtjajcmedipjfhaaGreatDoor
open Sg Go Go.RowKit Go.IntWalk
set_option maxRecDepth 100000
set_option maxHeartbeats 4000000
theorem indexByte_pure (s : List UInt8) (ch : UInt8) : PCall Tryz.prog 41 [sV s, .int .u8 (ch.toNat : Nat)] (.int .i64 (Lib.indexByte s ch)) := fun w => by
 have h := Tryz.strings_IndexByte (ByteArray.mk s.toArray) (ch.toNat : Nat) w
 have h2 : ((ch.toNat : Nat) : Int).toNat.toUInt8 = ch := by rw [Int.toNat_natCast]; simp
 rw [h2] at h
 exact h
theorem number_pure {ch : UInt8} (h : ch ∈ urlS) : PCall Tryz.prog 73 [.int .u8 (ch.toNat : Nat), sV urlS] (.int .u64 (urlS.idxOf ch : Nat)) := by
 intro w
 have hlt : urlS.idxOf ch < 64 := List.idxOf_lt_length_iff.2 h
 have hi := idx_eq ch urlS h
 have hc := indexByte_pure urlS ch
 rw [hi] at hc
 generalize urlS.idxOf ch = k at *
 have hw : IntKind.u64.wrap (k : Int) = (k : Int) := by rw [wrap_u64]; omega
 generalize (ch.toNat : Int) = z at hc ⊢
 generalize sV urlS = u at hc ⊢
 clear hi h
 go_enter Tryz.func73, Tryz.ntmps73
 go_wp2_with (go_at_call 41; refine (hc w).mono ?_; rintro e w' ⟨rfl, rfl⟩)
 go_wp2
 go_ret
 exact ⟨rfl, rfl⟩
theorem b64read_spec {F : World} {M : List Nat} {H : List Res} {s : List UInt8} (hs : ∀ c ∈ s, c ∈ urlS) (h4 : s.length % 4 ≠ 1) (hn : s.length ≤ 140737488351232) :
  Meets Tryz.prog 42 [sV s, sV urlS] F M H (fun e H' => ∃ ad cp, e = .returned (.tuple ⟨[.slice ad (decB s).length cp, .bool (spareB s)]⟩) ∧ H' = .row ad cp 5 1 (decB s).length ((decB s).map bV) :: H) := by
 refine Meets.enter Tryz.func42 rfl rfl ?_
 repeat' (first | ((with_reducible apply T.quoI64 (n := 4)); apply rfl; apply rfl; omega; omega; apply rfl) | ((with_reducible apply T.mulNK 3); apply rfl; apply rfl; omega; apply rfl) | ((with_reducible apply T.addKN 2); apply rfl; apply rfl; omega; apply rfl) | (apply T.makeB0; apply rfl; apply rfl; omega; apply rfl; intro nb) | ((first | apply T.slen | apply T.mv | apply T.asn); apply rfl; apply rfl) | (with_reducible first | refine Sr.nil ?_ | refine S.seq ?_ | refine S.block ?_ | refine S.reg ?_) | fail)
 refine S.loopE 1 [1] (fun R b' μ H' e => ∃ (q : Nat) (r o : List UInt8) (ad : Option Addr) (cp : Nat), H' = .row ad cp 5 1 o.length (o.map bV) :: R ∧ e = (0, sV r) :: (6, .slice ad o.length cp) :: b' ∧ (r = s.drop (4 * q) ∧ o = (List.range (3 * q)).map (fun i => UInt8.ofNat (dgrp s (i / 3) / 256 ^ (2 - i % 3))) ∧ 4 * q ≤ s.length) ∧ μ = r.length) rfl rfl ?_ _ _ ⟨0, s, [], _, _, rfl, rfl, ⟨rfl, rfl, by omega⟩, rfl⟩ (by repeat' first | exact trivial | refine And.intro rfl ?_)
 rintro _ _ _ ⟨q, r, o, ad, cp, rfl, rfl, ⟨hr, ho, hq⟩, rfl⟩ ih
 have hrl : r.length = s.length - 4 * q := by rw [hr, List.length_drop]
 have hol : o.length = 3 * q := by rw [ho, List.length_map, List.length_range]
 have hg : ∀ j, j < r.length → sgn s (4 * q + j) = urlS.idxOf (r.getD j 0) := fun j hj => by rw [← sgn_drop, ← hr, sgn_get hj]
 have hm : ∀ j, j < r.length → r.getD j 0 ∈ urlS := fun j hj => by
  have : r.getD j 0 ∈ r := by simp [List.getD, hj]
  exact hs _ (List.mem_of_mem_drop (by rw [← hr]; exact this))
 have hlt : ∀ j, j < r.length → urlS.idxOf (r.getD j 0) < 64 := fun j hj => List.idxOf_lt_length_iff.2 (hm j hj)
 by_cases h1 : 4 ≤ r.length
 ·have m0 := number_pure (hm 0 (by omega))
  have m1 := number_pure (hm 1 (by omega))
  have m2 := number_pure (hm 2 (by omega))
  have m3 := number_pure (hm 3 (by omega))
  have g0 := hg 0 (by omega)
  have g1 := hg 1 (by omega)
  have g2 := hg 2 (by omega)
  have g3 := hg 3 (by omega)
  have l0 := hlt 0 (by omega)
  have l1 := hlt 1 (by omega)
  have l2 := hlt 2 (by omega)
  have l3 := hlt 3 (by omega)
  generalize urlS.idxOf (r.getD 0 0) = n0 at m0 g0 l0
  generalize urlS.idxOf (r.getD 1 0) = n1 at m1 g1 l1
  generalize urlS.idxOf (r.getD 2 0) = n2 at m2 g2 l2
  generalize urlS.idxOf (r.getD 3 0) = n3 at m3 g3 l3
  have hv := dgrp_or (a := n0) l1 l2 l3
  have hd : dgrp s q = n0 * 262144 + n1 * 4096 + n2 * 64 + n3 := by rw [dgrp, ← g0, ← g1, ← g2, ← g3]; rfl
  have o1 : n0 * 2 ^ 18 ||| n1 * 2 ^ 12 < 2 ^ 64 := Nat.or_lt_two_pow (by omega) (by omega)
  have o2 : n0 * 2 ^ 18 ||| n1 * 2 ^ 12 ||| n2 * 2 ^ 6 < 2 ^ 64 := Nat.or_lt_two_pow o1 (by omega)
  repeat' (first | ((first | apply T.slen | apply T.mv); apply rfl; apply rfl) | (apply T.geq; (iterate 3 apply rfl)) | (with_reducible first | refine Sr.nil ?_ | refine S.seq ?_ | refine S.block ?_ | refine S.reg ?_ | refine S.skip ?_) | (apply S.condQ; apply rfl; all_goals (intro _; try (exfalso; first | omega | with_reducible contradiction))) | fail)
  (apply S.draw; (case Hs => exact .row ad cp 5 1 o.length (o.map bV) :: H); (case es => exact  []); (case n => exact  23); (case hn => rfl))
  repeat' (first | (apply Sr.same; refine (T.sidx (i := 0) rfl rfl (by omega) rfl ?_)) | (apply Sr.same; refine (T.sidx (i := 1) rfl rfl (by omega) rfl ?_)) | (apply Sr.same; refine (T.sidx (i := 2) rfl rfl (by omega) rfl ?_)) | (apply Sr.same; refine (T.sidx (i := 3) rfl rfl (by omega) rfl ?_)) | (apply SA.qcall; (iterate 3 apply rfl); kernel_rfl; apply rfl; infer_instance; apply rfl; first | with_reducible exact m0 | with_reducible exact m1 | with_reducible exact m2 | with_reducible exact m3) | ((with_reducible apply T.shlU64 (n := 18)); apply rfl; apply rfl; omega; omega; apply rfl) | ((with_reducible apply T.shlU64 (n := 12)); apply rfl; apply rfl; omega; omega; apply rfl) | ((with_reducible apply T.shlU64 (n := 6)); apply rfl; apply rfl; omega; omega; apply rfl) | (apply T.orU64; apply rfl; apply rfl; (first | exact o1 | exact o2 | omega); omega; apply rfl) | ((first | apply T.mv | apply T.asn); apply rfl; apply rfl) | (with_reducible first | refine Sr.nil ?_ | refine S.seq ?_ | refine S.reg ?_) | (apply SA.qn; (iterate 4 apply rfl); kernel_rfl) | (apply SA.done; apply rfl; kernel_rfl) | fail)
  rw [hv, ← hd]
  repeat' (first | ((with_reducible apply T.shrU64 (n := 16)); apply rfl; apply rfl; omega; apply rfl) | ((with_reducible apply T.shrU64 (n := 8)); apply rfl; apply rfl; omega; apply rfl) | (apply T.convBU64; apply rfl; apply rfl) | (apply T.append3; apply rfl; apply rfl; infer_instance; apply rfl; (constructor <;> omega); apply rfl; intro na nc) | (apply Sr.same; refine (T.ssliceL (i := 4) rfl rfl (by omega) rfl ?_)) | ((first | apply T.mv | apply T.asn); apply rfl; apply rfl) | (apply T.bs; (iterate 6 apply rfl); intro nb) | (with_reducible first | refine Sr.nil ?_ | refine S.reg ?_ | refine S.inBlock ?_) | fail)
  have ho2 := dgrp_bytes s q
  rw [← ho] at ho2
  have ho3 : o.length + 3 = ((List.range (3 * (q + 1))).map (fun i => UInt8.ofNat (dgrp s (i / 3) / 256 ^ (2 - i % 3)))).length := by rw [ho2, List.length_append]; rfl
  rw [ho3]
  have ho4 : o ++ [UInt8.ofNat (dgrp s q / 2 ^ 16), UInt8.ofNat (dgrp s q / 2 ^ 8), UInt8.ofNat (dgrp s q)] = _ := ho2.symm
  rw [ho4]
  exact ih _ _ _ _ ⟨q + 1, r.drop 4, _, _, _, rfl, rfl, ⟨by rw [hr, List.drop_drop]; rfl, rfl, by omega⟩, rfl⟩ (by rw [List.length_drop]; omega) (by repeat' first | exact trivial | refine And.intro rfl ?_)
 ·clear ih
  have hlo : sgn s (4 * q + 3) = 0 := sgn_out (by omega)
  have hq4 : s.length / 4 = q := by omega
  by_cases h2 : r.length = 3
  ·have m0 := number_pure (hm 0 (by omega))
   have m1 := number_pure (hm 1 (by omega))
   have m2 := number_pure (hm 2 (by omega))
   have g0 := hg 0 (by omega)
   have g1 := hg 1 (by omega)
   have g2 := hg 2 (by omega)
   have l0 := hlt 0 (by omega)
   have l1 := hlt 1 (by omega)
   have l2 := hlt 2 (by omega)
   generalize urlS.idxOf (r.getD 0 0) = n0 at m0 g0 l0
   generalize urlS.idxOf (r.getD 1 0) = n1 at m1 g1 l1
   generalize urlS.idxOf (r.getD 2 0) = n2 at m2 g2 l2
   have hv : n2 * 2 ^ 6 ||| (n0 * 2 ^ 18 ||| n1 * 2 ^ 12) = n0 * 262144 + n1 * 4096 + n2 * 64 := by
    have := dgrp_or (a := n0) l1 l2 (show 0 < 64 by decide)
    rw [Nat.or_comm]
    simpa using this
   have hd : dgrp s q = n0 * 262144 + n1 * 4096 + n2 * 64 := by have e0 : sgn s (4 * q) = n0 := g0; rw [dgrp, hlo, e0, g1, g2]; omega
   have o1 : n0 * 2 ^ 18 ||| n1 * 2 ^ 12 < 2 ^ 64 := Nat.or_lt_two_pow (by omega) (by omega)
   repeat' (first | (apply T.pcall; apply rfl; infer_instance; apply rfl; with_reducible exact m2) | (apply Sr.same; refine (T.sidx (i := 2) rfl rfl (by omega) rfl ?_)) | ((with_reducible apply T.shlU64 (n := 6)); apply rfl; apply rfl; omega; omega; apply rfl) | ((first | apply T.slen | apply T.mv | apply T.asn); apply rfl; apply rfl) | ((first | apply T.geq | apply T.eql); (iterate 3 apply rfl)) | (with_reducible first | refine Sr.nil ?_ | refine S.seq ?_ | refine S.block ?_ | refine S.reg ?_ | refine S.inBlock ?_) | (apply S.exit; apply rfl) | (apply S.condQ; apply rfl; all_goals (intro _; try (exfalso; first | omega | with_reducible contradiction))) | fail)
   (apply S.draw; (case Hs => exact .row ad cp 5 1 o.length (o.map bV) :: H); (case es => exact  []); (case n => exact  14); (case hn => rfl))
   repeat' (first | (apply Sr.same; refine (T.sidx (i := 0) rfl rfl (by omega) rfl ?_)) | (apply Sr.same; refine (T.sidx (i := 1) rfl rfl (by omega) rfl ?_)) | (apply SA.qcall; (iterate 3 apply rfl); kernel_rfl; apply rfl; infer_instance; apply rfl; first | with_reducible exact m0 | with_reducible exact m1) | ((with_reducible apply T.shlU64 (n := 18)); apply rfl; apply rfl; omega; omega; apply rfl) | ((with_reducible apply T.shlU64 (n := 12)); apply rfl; apply rfl; omega; omega; apply rfl) | (apply T.orU64; apply rfl; apply rfl; (first | exact o1 | omega); (first | exact o1 | omega); apply rfl) | ((first | apply T.mv | apply T.asn); apply rfl; apply rfl) | (with_reducible first | refine Sr.nil ?_ | refine S.seq ?_ | refine S.reg ?_) | (apply SA.qn; (iterate 4 apply rfl); kernel_rfl) | (apply SA.done; apply rfl; kernel_rfl) | fail)
   rw [hv, ← hd]
   have hdlt : dgrp s q < 18446744073709551616 := by omega
   repeat' (first | ((with_reducible apply T.shrU64 (n := 16)); apply rfl; apply rfl; omega; apply rfl) | ((with_reducible apply T.shrU64 (n := 8)); apply rfl; apply rfl; omega; apply rfl) | (apply T.convBU64; apply rfl; apply rfl) | ((with_reducible apply T.andU64 (n := 255)); apply rfl; apply rfl; omega; omega; apply rfl) | ((first | apply T.slen | apply T.mv | apply T.asn); apply rfl; apply rfl) | (apply T.eql; (iterate 3 apply rfl)) | (apply T.bs; (iterate 6 apply rfl); intro nb) | (apply T.appendB; apply rfl; apply rfl; infer_instance; apply rfl; (constructor <;> omega); apply rfl; intro na nc) | (with_reducible first | refine Sr.nil ?_ | refine S.seq ?_ | refine S.reg ?_) | (apply S.condQ; apply rfl; all_goals (intro _; try (exfalso; first | omega | with_reducible contradiction))) | (apply T.retW; apply rfl) | fail)
   have hdb : decB s = o ++ [UInt8.ofNat (dgrp s q / 2 ^ 16)] ++ [UInt8.ofNat (dgrp s q / 2 ^ 8)] := by
    rw [decB, show s.length * 6 / 8 = 3 * q + 2 by omega, range2, ← ho, show 3 * q / 3 = q by omega, show (3 * q + 1) / 3 = q by omega, show 3 * q % 3 = 0 by omega, show (3 * q + 1) % 3 = 1 by omega, List.append_assoc]
    rfl
   have hsp : decide (((dgrp s q &&& 255 : Nat) : Int) = 0) = spareB s := by
    rw [spareB, if_pos (by omega), hq4, show 255 = 2 ^ 8 - 1 from rfl, Nat.and_two_pow_sub_one_eq_mod]
    rw [decide_eq_decide]
    omega
   have hdl : o.length + 1 + 1 = (decB s).length := by rw [hdb]; simp
   rw [hsp, hdl, ← hdb]
   exact ⟨_, PSub.refl _, _, _, rfl, rfl⟩
  ·by_cases h3 : r.length = 2
   ·have m0 := number_pure (hm 0 (by omega))
    have m1 := number_pure (hm 1 (by omega))
    have g0 := hg 0 (by omega)
    have g1 := hg 1 (by omega)
    have l0 := hlt 0 (by omega)
    have l1 := hlt 1 (by omega)
    have hl2 : sgn s (4 * q + 2) = 0 := sgn_out (by omega)
    generalize urlS.idxOf (r.getD 0 0) = n0 at m0 g0 l0
    generalize urlS.idxOf (r.getD 1 0) = n1 at m1 g1 l1
    have hv : 0 ||| (n0 * 2 ^ 18 ||| n1 * 2 ^ 12) = n0 * 262144 + n1 * 4096 := by
     have := dgrp_or (a := n0) l1 (show 0 < 64 by decide) (show 0 < 64 by decide)
     rw [Nat.or_comm]
     simpa using this
    have hd : dgrp s q = n0 * 262144 + n1 * 4096 := by have e0 : sgn s (4 * q) = n0 := g0; rw [dgrp, hlo, hl2, e0, g1]; omega
    have o1 : n0 * 2 ^ 18 ||| n1 * 2 ^ 12 < 2 ^ 64 := Nat.or_lt_two_pow (by omega) (by omega)
    repeat' (first | ((first | apply T.slen | apply T.mv | apply T.asn); apply rfl; apply rfl) | ((first | apply T.geq | apply T.eql); (iterate 3 apply rfl)) | (with_reducible first | refine Sr.nil ?_ | refine S.seq ?_ | refine S.block ?_ | refine S.reg ?_ | refine S.skip ?_) | (apply S.exit; apply rfl) | (apply S.condQ; apply rfl; all_goals (intro _; try (exfalso; first | omega | with_reducible contradiction))) | fail)
    (apply S.draw; (case Hs => exact .row ad cp 5 1 o.length (o.map bV) :: H); (case es => exact  []); (case n => exact  14); (case hn => rfl))
    repeat' (first | (apply Sr.same; refine (T.sidx (i := 0) rfl rfl (by omega) rfl ?_)) | (apply Sr.same; refine (T.sidx (i := 1) rfl rfl (by omega) rfl ?_)) | (apply SA.qcall; (iterate 3 apply rfl); kernel_rfl; apply rfl; infer_instance; apply rfl; first | with_reducible exact m0 | with_reducible exact m1) | ((with_reducible apply T.shlU64 (n := 18)); apply rfl; apply rfl; omega; omega; apply rfl) | ((with_reducible apply T.shlU64 (n := 12)); apply rfl; apply rfl; omega; omega; apply rfl) | ((with_reducible apply T.orU64 (m := 0)); apply rfl; apply rfl; omega; exact o1; apply rfl) | (apply T.orU64; apply rfl; apply rfl; omega; omega; apply rfl) | ((first | apply T.mv | apply T.asn); apply rfl; apply rfl) | (with_reducible first | refine Sr.nil ?_ | refine S.seq ?_ | refine S.reg ?_) | (apply SA.qn; (iterate 4 apply rfl); kernel_rfl) | (apply SA.done; apply rfl; kernel_rfl) | fail)
    rw [hv, ← hd]
    have hdlt : dgrp s q < 18446744073709551616 := by omega
    repeat' (first | ((with_reducible apply T.shrU64 (n := 16)); apply rfl; apply rfl; omega; apply rfl) | (apply T.convBU64; apply rfl; apply rfl) | ((with_reducible apply T.andU64 (n := 65535)); apply rfl; apply rfl; omega; omega; apply rfl) | ((first | apply T.slen | apply T.mv | apply T.asn); apply rfl; apply rfl) | (apply T.eql; (iterate 3 apply rfl)) | (apply T.bs; (iterate 6 apply rfl); intro nb) | (apply T.appendB; apply rfl; apply rfl; infer_instance; apply rfl; (constructor <;> omega); apply rfl; intro na nc) | (with_reducible first | refine Sr.nil ?_ | refine S.seq ?_ | refine S.reg ?_ | refine S.skip ?_) | (apply S.condQ; apply rfl; all_goals (intro _; try (exfalso; first | omega | with_reducible contradiction))) | (apply T.retW; apply rfl) | fail)
    have hdb : decB s = o ++ [UInt8.ofNat (dgrp s q / 2 ^ 16)] := by
     rw [decB, show s.length * 6 / 8 = 3 * q + 1 by omega, List.range_succ, List.map_append, ← ho]
     simp only [List.map_cons, List.map_nil, show 3 * q / 3 = q by omega, show 3 * q % 3 = 0 by omega]
     try rfl
    have hsp : decide (((dgrp s q &&& 65535 : Nat) : Int) = 0) = spareB s := by
     rw [spareB, if_neg (by omega), if_pos (by omega), hq4, show 65535 = 2 ^ 16 - 1 from rfl, Nat.and_two_pow_sub_one_eq_mod]
     rw [decide_eq_decide]
     omega
    have hdl : o.length + 1 = (decB s).length := by rw [hdb]; simp
    rw [hsp, hdl, ← hdb]
    exact ⟨_, PSub.refl _, _, _, rfl, rfl⟩
   ·have hdb : decB s = o := by rw [decB, show s.length * 6 / 8 = 3 * q by omega, ← ho]
    have hsp : spareB s = true := by rw [spareB, if_neg (by omega), if_neg (by omega)]
    rw [hdb, hsp]
    repeat' (first | ((first | apply T.slen | apply T.mv | apply T.asn); apply rfl; apply rfl) | ((first | apply T.geq | apply T.eql); (iterate 3 apply rfl)) | (with_reducible first | refine Sr.nil ?_ | refine S.seq ?_ | refine S.block ?_ | refine S.reg ?_ | refine S.skip ?_) | (apply S.exit; apply rfl) | (apply S.condQ; apply rfl; all_goals (intro _; try (exfalso; first | omega | with_reducible contradiction))) | (apply T.retW; apply rfl) | fail)
    exact ⟨_, PSub.refl _, _, _, rfl, rfl⟩
def DecP (H : List Res) (s : List UInt8) (e : Ending) (H' : List Res) : Prop := ∃ ad cp, e = .returned (.tuple ⟨[.slice ad (decX s).1.length cp, .int .i64 (decX s).2.1, .int .i64 ((decX s).2.2 : Nat)]⟩) ∧ H' = .row ad cp 5 1 (decX s).1.length ((decX s).1.map bV) :: H
theorem b64decode_spec {F : World} {M : List Nat} {H : List Res} {s : List UInt8} (hn : s.length ≤ 140737488351232) :
  Meets Tryz.prog 20 [sV s] F M H (DecP H s) := by
 refine Meets.enter Tryz.func20 rfl rfl ?_
 unfold DecP
 repeat' (first | ((first | apply T.slen | apply T.mv | apply T.asn); apply rfl; apply rfl) | (with_reducible first | refine Sr.nil ?_ | refine S.seq ?_ | refine S.block ?_ | refine S.reg ?_) | fail)
 refine S.loopE 0 [0, 9] (fun R b' μ H' e => ∃ i : Nat, H' = R ∧ e = (10, .int .i64 i) :: b' ∧ (i ≤ s.length ∧ ∀ j, j < i → s.getD j 0 ∈ urlS) ∧ μ = s.length - i) rfl rfl ?_ _ _ ⟨0, rfl, rfl, ⟨by omega, fun j hj => by omega⟩, rfl⟩ (by repeat' first | exact trivial | refine And.intro rfl ?_)
 rintro _ _ _ ⟨i, rfl, rfl, ⟨hi, hb⟩, rfl⟩ ih
 by_cases h1 : i < s.length
 ·have hx := idx_neg (s.getD i 0) urlS
  by_cases h2 : s.getD i 0 ∈ urlS
  ·have h3 : ¬ Lib.indexByte urlS (s.getD i 0) < 0 := fun h => hx.1 h h2
   repeat' (first | (apply T.pcall; apply rfl; infer_instance; apply rfl; with_reducible exact indexByte_pure _ _) | (apply T.sidx; apply rfl; apply rfl; omega; apply rfl) | ((first | apply T.mv | apply T.asn); apply rfl; apply rfl) | (apply T.lss; (iterate 3 apply rfl)) | (apply T.addI; apply rfl; apply rfl; omega; apply rfl) | (with_reducible first | refine Sr.nil ?_ | refine S.seq ?_ | refine S.block ?_ | refine S.reg ?_ | refine S.skip ?_ | refine S.inBlock ?_) | (apply S.condQ; apply rfl; all_goals (intro _; try (exfalso; first | omega | with_reducible contradiction))) | (apply T.retW; apply rfl) | fail)
   ·rename_i h4
    exact absurd h4 h3
   exact ih _ _ _ _ ⟨i + 1, rfl, rfl, ⟨h1, fun j hj => by
    rcases Nat.lt_succ_iff_lt_or_eq.1 hj with hj | rfl
    ·exact hb j hj
    ·exact h2⟩, rfl⟩ (by omega) (by repeat' first | exact trivial | refine And.intro rfl ?_)
  ·have h3 := hx.2 h2
   have h4 := badB_at h1 h2 hb
   have h5 : decX s = ([], 20, i) := by rw [decX, h4, if_pos h1]
   rw [h5]
   refine S.nilrow 5 1 ?_
   repeat' (first | (apply T.pcall; apply rfl; infer_instance; apply rfl; with_reducible exact indexByte_pure _ _) | (apply T.sidx; apply rfl; apply rfl; omega; apply rfl) | ((first | apply T.mv | apply T.asn); apply rfl; apply rfl) | (apply T.lss; (iterate 3 apply rfl)) | (apply T.addI; apply rfl; apply rfl; omega; apply rfl) | (with_reducible first | refine Sr.nil ?_ | refine S.seq ?_ | refine S.block ?_ | refine S.reg ?_ | refine S.skip ?_ | refine S.inBlock ?_) | (apply S.condQ; apply rfl; all_goals (intro _; try (exfalso; first | omega | with_reducible contradiction))) | (apply T.retW; apply rfl) | fail)
   ·exact ⟨_, PSub.refl _, _, _, rfl, rfl⟩
   ·rename_i h6
    exact absurd h3 h6
 ·obtain rfl : i = s.length := by omega
  clear ih
  have hall : ∀ c ∈ s, c ∈ urlS := fun c hc => by
   obtain ⟨j, hj, rfl⟩ := List.getElem_of_mem hc
   have := hb j hj
   simpa [List.getD, hj] using this
  have hbad : ¬ badB s < s.length := fun h => by
   have h2 := List.findIdx_getElem (p := fun c => !(urlS.contains c)) (w := h)
   exact absurd (hall _ (List.getElem_mem h)) (by unfold badB; simpa using h2)
  by_cases h2 : s.length % 4 = 1
  ·have h5 : decX s = ([], 21, s.length) := by rw [decX, if_neg hbad, if_pos h2]
   rw [h5]
   refine S.nilrow 5 1 ?_
   repeat' (first | ((with_reducible apply T.remI64 (n := 4)); apply rfl; apply rfl; omega; apply rfl) | ((first | apply T.slen | apply T.mv | apply T.asn); apply rfl; apply rfl) | ((first | apply T.lss | apply T.eql); (iterate 3 apply rfl)) | (with_reducible first | refine Sr.nil ?_ | refine S.seq ?_ | refine S.reg ?_) | (apply S.exit; apply rfl) | (apply S.condQ; apply rfl; all_goals (intro _; try (exfalso; first | omega | with_reducible contradiction))) | (apply T.retW; apply rfl) | fail)
   exact ⟨_, PSub.refl _, _, _, rfl, rfl⟩
  ·cases h3 : spareB s with
   | true =>
    have h5 : decX s = (decB s, 0, 0) := by rw [decX, if_neg hbad, if_neg h2, if_pos h3]
    rw [h5]
    repeat' (first | ((with_reducible apply T.remI64 (n := 4)); apply rfl; apply rfl; omega; apply rfl) | ((first | apply T.slen | apply T.mv); apply rfl; apply rfl) | ((first | apply T.lss | apply T.eql); (iterate 3 apply rfl)) | (with_reducible first | refine Sr.nil ?_ | refine S.seq ?_ | refine S.reg ?_ | refine S.skip ?_) | (apply S.exit; apply rfl) | (apply S.condQ; apply rfl; all_goals (intro _; try (exfalso; first | omega | with_reducible contradiction))) | fail)
    refine T.call rfl rfl (b64read_spec hall h2 hn) ?_
    rintro _ _ ⟨ad, cp, rfl, rfl⟩
    rw [h3]
    repeat' (first | ((first | apply T.mv | apply T.asn); apply rfl; apply rfl) | (apply T.extract; (iterate 3 apply rfl)) | (apply T.notB; apply rfl; apply rfl) | (with_reducible first | refine Sr.nil ?_ | refine S.seq ?_ | refine S.reg ?_ | refine S.skip ?_) | (apply S.condFV; apply rfl; (first | with_reducible rfl | decide)) | (apply T.retW; apply rfl) | (with_reducible apply T.ofRet) | fail)
    exact ⟨_, PSub.refl _, _, _, rfl, rfl⟩
   | false =>
    have h4 : 0 < s.length := by
     rcases Nat.eq_zero_or_pos s.length with h0 | h0
     ·rw [spareB, h0] at h3
      cases h3
     ·exact h0
    have h5 : decX s = ([], 22, s.length - 1) := by rw [decX, if_neg hbad, if_neg h2, h3, if_neg (by simp)]
    rw [h5]
    repeat' (first | ((with_reducible apply T.remI64 (n := 4)); apply rfl; apply rfl; omega; apply rfl) | ((first | apply T.slen | apply T.mv); apply rfl; apply rfl) | ((first | apply T.lss | apply T.eql); (iterate 3 apply rfl)) | (with_reducible first | refine Sr.nil ?_ | refine S.seq ?_ | refine S.reg ?_ | refine S.skip ?_) | (apply S.exit; apply rfl) | (apply S.condQ; apply rfl; all_goals (intro _; try (exfalso; first | omega | with_reducible contradiction))) | fail)
    refine T.call rfl rfl (b64read_spec hall h2 hn) ?_
    rintro _ _ ⟨ad, cp, rfl, rfl⟩
    rw [h3]
    refine Sr.nilrow 5 1 ?_
    repeat' (first | ((first | apply T.slen | apply T.mv | apply T.asn); apply rfl; apply rfl) | (apply T.subI; apply rfl; apply rfl; omega; apply rfl) | (apply T.extract; (iterate 3 apply rfl)) | (apply T.notB; apply rfl; apply rfl) | (with_reducible first | refine Sr.nil ?_ | refine S.seq ?_ | refine S.reg ?_) | (apply S.condTV; apply rfl; (first | with_reducible rfl | decide)) | (apply T.retW; apply rfl) | fail)
    exact ⟨_, PSub.take pick_hd (PSub.drop (PSub.refl _)), _, _, by simp; omega, rfl⟩
end Go.Proofs.YtjajcmedipjfhaaGreatDoor
/- The walk of the reading of a disclosure. -/
/- ptrs -/
namespace Go.Proofs.YtjajcmedipjfhaaGreatDoor
open Sg Go.IntWalk
set_option maxRecDepth 100000
set_option maxHeartbeats 4000000
section
variable {F : World} {M : List Nat} {H : List Res} {t dg : List UInt8}
def decO (t : List UInt8) : Option (List UInt8) := if (decX t).2.1 = 0 then some (decX t).1 else none
def RdO (H : List Res) : Option Said → Ending → List Res → Prop
 | none => fun e H' => e = .returned (.tuple ⟨[.pointer none, .bool false]⟩) ∧ H' = H
 | some s => fun e H' => ∃ b va vc r, e = .returned (.tuple ⟨[.pointer (some ⟨b, 0, none⟩), .bool true]⟩) ∧ (∀ F M X, Rd F M (r :: X) va (s.value.flatMap ndV)) ∧ NGood s.value ∧ Fo 1 s.value ∧ s.name.length ≤ maxLen ∧ H' = .blk b [sV s.name, .bool s.member, .slice va s.value.length vc, .bool false] 66 :: r :: H
theorem sdread_spec (hT : Tabs F M) (hn : t.length ≤ 140737488351232) : Meets Tryz.prog 27 [sV t] F M H (RdO H (readX dg (decO t))) := by
 refine Meets.enter Tryz.func27 rfl rfl ?_
 generalize hQ : readX dg (decO t) = Q
 repeat' (first | ((first | apply T.mv | apply T.asn); apply rfl; apply rfl) | (with_reducible first | refine Sr.nil ?_ | refine S.seq ?_ | refine S.reg ?_) | fail)
 refine T.call rfl rfl (b64decode_spec hn) ?_
 rintro _ _ ⟨ad, cp, rfl, rfl⟩
 unfold decO at hQ
 by_cases h0 : (decX t).2.1 = 0
 ·rw [if_pos h0] at hQ
  have hdl : (decX t).1.length ≤ t.length := by
   unfold decX at h0 ⊢
   split
   ·exact Nat.zero_le _
   ·split
    ·exact Nat.zero_le _
    ·split
     ·rw [decB_len]; omega
     ·exact Nat.zero_le _
  generalize (decX t).1 = bs at *
  generalize (decX t).2.1 = ce at *
  subst h0
  repeat' (first | (apply T.convS; apply rfl; infer_instance; (first | rfl | assumption | exact beN_len _ _ | (simp; done) | (simp; omega)); apply rfl) | ((first | apply T.mv | apply T.asn); apply rfl; apply rfl) | ((first | apply T.neq | apply T.extract); (iterate 3 apply rfl)) | (with_reducible first | refine Sr.nil ?_ | refine S.seq ?_ | refine S.reg ?_ | refine S.skip ?_) | (apply S.condFV; apply rfl; (first | with_reducible rfl | decide)) | (with_reducible apply T.ofRet) | fail)
  refine T.call rfl rfl (parse_spec hT (by simp only [maxLen]; omega)) ?_
  unfold readX at hQ
  dsimp only at hQ
  cases hp : parseX wholeX bs with
  | bad c a =>
   rw [hp] at hQ
   dsimp only at hQ
   subst hQ
   have hc := parse_code hp
   rintro _ _ ⟨rfl, rfl⟩
   repeat' (first | ((first | apply T.mv | apply T.asn); apply rfl; apply rfl) | ((first | apply T.neq | apply T.extract); (iterate 3 apply rfl)) | (apply T.pickT; (iterate 3 apply rfl)) | (with_reducible first | refine Sr.nil ?_ | refine S.seq ?_ | refine S.reg ?_) | (apply T.skip; apply rfl; (first | with_reducible rfl | decide); apply rfl) | (apply S.condTV; apply rfl; (first | with_reducible rfl | decide)) | (apply T.gcase; apply rfl; apply rfl; all_goals (intro _; try (exfalso; first | omega | with_reducible contradiction))) | (apply T.retW; apply rfl) | (with_reducible apply T.ofRet) | fail)
   exact ⟨_, PSub.drop (PSub.refl _), rfl, rfl⟩
  | ok a v =>
   rw [hp] at hQ
   dsimp only at hQ
   rintro _ _ ⟨va, vc, rfl, rfl⟩
   have hf := parse_fo hp
   have hg := parse_ngood hp
   have ha := IsAt.of_fo hf
   have hlt := ha.lt
   have hvl := hg.len
   have e0 : headN v = v.getD 0 default := by
    rw [← nodeAt_getD hlt]
    have := valAt_zero hf
    rw [← headN_valAt, this]
   by_cases k6 : (v.getD 0 default).kind = 6
   ·have k6' : (headN v).kind = 6 := by rw [e0]; exact k6
    have ld := fun i => last_drop (i := i) hf
    have kn := fun i => kid_node (i := i) hf
    have hkv := Vl.kids ⟨hf, hg.flat⟩
    have hol : (offs 1 (kidsOf v 0)).length = (kidsOf v 0).length := offs_len ..
    have s2 := said_two (dg := dg) (v := v) k6'
    have s3 := said_three (dg := dg) (v := v) k6'
    have s4 := said_len (dg := dg) (v := v)
    rw [hQ] at s2 s3 s4
    refine Sr.capR (ad := va) inferInstance (fun hcap => ?_)
    repeat' (first | ((first | apply T.mv | apply T.asn); apply rfl; apply rfl) | ((first | apply T.neq | apply T.extract); (iterate 3 apply rfl)) | (apply T.ixF; apply rfl; apply rfl; infer_instance; exact (fun _ => rfl); apply rfl; omega; omega; apply rfl) | (apply T.fieldAddrF; apply rfl; infer_instance; exact (fun _ => rfl); apply rfl; omega; apply rfl) | (apply T.loadF; apply rfl; apply rfl; infer_instance; exact (fun _ => rfl); apply rfl; exact getD_some (by omega); apply rfl; apply rfl) | (apply T.pickF; (iterate 3 apply rfl)) | (with_reducible first | refine Sr.nil ?_ | refine S.seq ?_ | refine S.reg ?_ | refine S.skip ?_) | (apply T.ungV; apply rfl; (first | with_reducible rfl | decide)) | (apply S.condQ; apply rfl; all_goals (intro _; try (exfalso; first | omega | with_reducible contradiction))) | fail)
    refine T.call rfl rfl (kidsI_spec (v := v) rfl hvl ha) ?_
    rintro _ _ ⟨ka, kc, rfl, rfl⟩
    rw [Nat.zero_add]
    generalize hks : kidsOf v 0 = ks at *
    obtain ⟨q, hq⟩ : ∃ q, q = offs 1 ks := ⟨_, rfl⟩
    rw [← hq] at ld kn hol ⊢
    have good : ∀ m, (∀ lo, v.drop lo = m → NGood m) := fun m lo h => by
     subst h
     exact ⟨fun n hn => hg.flat n (List.mem_of_mem_drop hn), fun n hn => hg.texts n (List.mem_of_mem_drop hn), by rw [List.length_drop]; omega⟩
    have rds : ∀ m lo, v.drop lo = m → ∀ F M X, Rd F M (ouR va vc v :: X) (saddr va vc lo 6) (m.flatMap ndV) := fun m lo h F M X => by
     subst h
     exact Rd.subF (g := ndV) (sz := 6) Rd.row (fun _ => rfl) hcap
    by_cases l2 : ks.length = 2
    ·have s2 := s2 l2
     obtain ⟨kn1, kn2⟩ := kn 0 (by omega)
     rw [nodeAt_getD kn1] at kn2
     rw [← kn2] at s2
     have ld1 := ld 1 (by omega)
     have kn3 := (kn 1 (by omega)).1
     have hq2 : q.length = 2 := by omega
     have hx1 : Vl (ks.getD 1 []) := hkv _ (by simp [List.getD, show 1 < ks.length by omega])
     have hl : v.length - q.getD 1 0 = (ks.getD 1 []).length := by rw [← ld1, List.length_drop]
     rw [l2]
     by_cases c5 : (v.getD (q.getD 0 0) default).kind = 5
     ·rw [if_pos c5] at s2
      repeat' (first | (apply T.subI; apply rfl; apply rfl; omega; apply rfl; rw [show ((2 : Nat) : Int) - 1 = ((1 : Nat) : Int) from rfl]) | ((first | apply T.mv | apply T.asn | apply T.len | apply T.nilCheck); apply rfl; apply rfl) | (apply T.fieldAddrZ; apply rfl; apply rfl) | (apply T.load; apply rfl; apply rfl; infer_instance; apply rfl; apply rfl) | ((first | apply T.lss | apply T.gtr | apply T.eql | apply T.neq); (iterate 3 apply rfl)) | (apply T.ixC; apply rfl; infer_instance; omega; (first | omega | (simp only [List.length_map]; omega) | (simp; omega)); apply rfl) | (apply T.ixN; apply rfl; apply rfl; infer_instance; omega; (first | omega | (simp only [List.length_map]; omega) | (simp; omega)); apply rfl) | (apply T.ixF; apply rfl; apply rfl; infer_instance; exact (fun _ => rfl); apply rfl; omega; omega; apply rfl) | (apply T.fieldAddrF; apply rfl; infer_instance; exact (fun _ => rfl); apply rfl; omega; apply rfl) | (apply T.loadF; apply rfl; apply rfl; infer_instance; exact (fun _ => rfl); apply rfl; exact getD_some (by omega); apply rfl; apply rfl) | (apply T.loadNat; apply rfl; infer_instance; (first | omega | (simp only [List.length_map]; omega) | (simp; omega)); apply rfl) | (apply T.pickF; (iterate 3 apply rfl)) | (apply T.buildL; (iterate 3 apply rfl)) | (apply T.sliceLK; apply rfl; apply rfl; omega; apply rfl) | (apply T.box; apply rfl; apply rfl; intro nb) | (with_reducible first | refine Sr.nil ?_ | refine S.seq ?_ | refine S.reg ?_ | refine S.skip ?_) | (apply T.ungV; apply rfl; (first | with_reducible rfl | decide)) | (apply S.condFV; apply rfl; (first | with_reducible rfl | decide)) | (apply S.condQ; apply rfl; all_goals (intro _; try (exfalso; first | omega | with_reducible contradiction))) | (apply T.retW; apply rfl) | (with_reducible apply T.ofRet) | fail)
      rw [hl, s2]
      exact ⟨_, PSub.take pick_hd (PSub.drop (PSub.take pick_hd (PSub.drop (PSub.refl _)))), nb, _, _, _, rfl, rds _ _ ld1, good _ _ ld1, hx1.1, by simp, rfl⟩
     ·rw [if_neg c5] at s2
      rw [s2]
      repeat' (first | ((first | apply T.mv | apply T.asn | apply T.len); apply rfl; apply rfl) | ((first | apply T.lss | apply T.gtr | apply T.neq); (iterate 3 apply rfl)) | (apply T.ixC; apply rfl; infer_instance; omega; (first | omega | (simp only [List.length_map]; omega) | (simp; omega)); apply rfl) | (apply T.ixF; apply rfl; apply rfl; infer_instance; exact (fun _ => rfl); apply rfl; omega; omega; apply rfl) | (apply T.fieldAddrF; apply rfl; infer_instance; exact (fun _ => rfl); apply rfl; omega; apply rfl) | (apply T.loadF; apply rfl; apply rfl; infer_instance; exact (fun _ => rfl); apply rfl; exact getD_some (by omega); apply rfl; apply rfl) | (apply T.loadNat; apply rfl; infer_instance; (first | omega | (simp only [List.length_map]; omega) | (simp; omega)); apply rfl) | (apply T.pickF; (iterate 3 apply rfl)) | (with_reducible first | refine Sr.nil ?_ | refine S.seq ?_ | refine S.reg ?_) | (apply T.ungV; apply rfl; (first | with_reducible rfl | decide)) | (apply S.condQ; apply rfl; all_goals (intro _; try (exfalso; first | omega | with_reducible contradiction))) | (apply T.retW; apply rfl) | (with_reducible apply T.ofRet) | fail)
      exact ⟨H, by repeat (first | exact PSub.refl _ | apply PSub.drop), rfl, rfl⟩
    ·by_cases l3 : ks.length = 3
     ·have s3 := s3 l3
      obtain ⟨kn1, kn2⟩ := kn 0 (by omega)
      rw [nodeAt_getD kn1] at kn2
      rw [← kn2] at s3
      obtain ⟨kn4, kn5⟩ := kn 1 (by omega)
      rw [nodeAt_getD kn4] at kn5
      rw [← kn5] at s3
      have ld1 := ld 2 (by omega)
      have kn3 := (kn 2 (by omega)).1
      have hq2 : q.length = 3 := by omega
      have hx1 : Vl (ks.getD 2 []) := hkv _ (by simp [List.getD, show 2 < ks.length by omega])
      have hl : v.length - q.getD 2 0 = (ks.getD 2 []).length := by rw [← ld1, List.length_drop]
      have htx := (hg.texts _ (nodeAt_mem kn4)).2
      rw [nodeAt_getD kn4] at htx
      rw [l3]
      by_cases c5 : (v.getD (q.getD 0 0) default).kind = 5
      ·by_cases c6 : (v.getD (q.getD 1 0) default).kind = 5
       ·by_cases c7 : (v.getD (q.getD 1 0) default).text = [95, 115, 100]
        ·rw [if_neg (fun h => h.2.2.1 c7)] at s3
         rw [s3]
         repeat' (first | (apply T.subI; apply rfl; apply rfl; omega; apply rfl; rw [show ((3 : Nat) : Int) - 1 = ((2 : Nat) : Int) from rfl]) | (apply T.seql; (iterate 3 apply rfl)) | ((first | apply T.mv | apply T.asn | apply T.len | apply T.nilCheck); apply rfl; apply rfl) | (apply T.fieldAddrZ; apply rfl; apply rfl) | (apply T.load; apply rfl; apply rfl; infer_instance; apply rfl; apply rfl) | ((first | apply T.lss | apply T.gtr | apply T.neq); (iterate 3 apply rfl)) | (apply T.eql; (iterate 3 apply rfl)) | (apply T.ixC; apply rfl; infer_instance; omega; (first | omega | (simp only [List.length_map]; omega) | (simp; omega)); apply rfl) | (apply T.ixN; apply rfl; apply rfl; infer_instance; omega; (first | omega | (simp only [List.length_map]; omega) | (simp; omega)); apply rfl) | (apply T.ixF; apply rfl; apply rfl; infer_instance; exact (fun _ => rfl); apply rfl; omega; omega; apply rfl) | (apply T.fieldAddrF; apply rfl; infer_instance; exact (fun _ => rfl); apply rfl; omega; apply rfl) | (apply T.loadF; apply rfl; apply rfl; infer_instance; exact (fun _ => rfl); apply rfl; exact getD_some (by omega); apply rfl; apply rfl) | (apply T.loadFN; apply rfl; apply rfl; infer_instance; exact (fun _ => rfl); apply rfl; exact getD_some (by omega); apply rfl) | (apply T.loadNat; apply rfl; infer_instance; (first | omega | (simp only [List.length_map]; omega) | (simp; omega)); apply rfl) | (apply T.pickT; (iterate 3 apply rfl)) | (apply T.pickF; (iterate 3 apply rfl)) | (apply T.buildL; (iterate 3 apply rfl)) | (apply T.sliceLK; apply rfl; apply rfl; omega; apply rfl) | (apply T.storeW; apply rfl; apply rfl; infer_instance; (first | rfl | (simp only [List.length_append, List.length_map, List.length_set, List.length_replicate, List.length_cons, List.length_nil]; first | done | omega)); (first | rfl | (simp only [List.length_append, List.length_map, List.length_set, List.length_replicate, List.length_cons, List.length_nil]; first | done | omega)); (first | rfl | (repeat' first | apply all_nV | apply all_bV | apply all_iV | rfl | apply all_app))) | (apply T.alloc; apply rfl; intro nb) | (apply T.box; apply rfl; apply rfl; intro nb) | (with_reducible first | refine Sr.nil ?_ | refine S.seq ?_ | refine S.reg ?_ | refine S.skip ?_) | (apply T.ungV; apply rfl; (first | with_reducible rfl | decide)) | (apply T.skip; apply rfl; (first | with_reducible rfl | decide); apply rfl) | (apply S.condTV; apply rfl; (first | with_reducible rfl | decide)) | (apply S.condQ; apply rfl; all_goals (intro _; try (exfalso; first | omega | with_reducible contradiction))) | (apply T.gcase; apply rfl; apply rfl; all_goals (intro _; try (exfalso; first | omega | with_reducible contradiction))) | (apply T.retW; apply rfl) | (with_reducible apply T.ofRet) | fail)
         exact ⟨H, by repeat (first | exact PSub.refl _ | apply PSub.drop), rfl, rfl⟩
        ·by_cases c8 : (v.getD (q.getD 1 0) default).text = [46, 46, 46]
         ·rw [if_neg (fun h => h.2.2.2 c8)] at s3
          rw [s3]
          repeat' (first | (apply T.subI; apply rfl; apply rfl; omega; apply rfl; rw [show ((3 : Nat) : Int) - 1 = ((2 : Nat) : Int) from rfl]) | (apply T.seql; (iterate 3 apply rfl)) | ((first | apply T.mv | apply T.asn | apply T.len | apply T.nilCheck); apply rfl; apply rfl) | (apply T.fieldAddrZ; apply rfl; apply rfl) | (apply T.load; apply rfl; apply rfl; infer_instance; apply rfl; apply rfl) | ((first | apply T.lss | apply T.gtr | apply T.neq); (iterate 3 apply rfl)) | (apply T.eql; (iterate 3 apply rfl)) | (apply T.ixC; apply rfl; infer_instance; omega; (first | omega | (simp only [List.length_map]; omega) | (simp; omega)); apply rfl) | (apply T.ixN; apply rfl; apply rfl; infer_instance; omega; (first | omega | (simp only [List.length_map]; omega) | (simp; omega)); apply rfl) | (apply T.ixF; apply rfl; apply rfl; infer_instance; exact (fun _ => rfl); apply rfl; omega; omega; apply rfl) | (apply T.fieldAddrF; apply rfl; infer_instance; exact (fun _ => rfl); apply rfl; omega; apply rfl) | (apply T.loadF; apply rfl; apply rfl; infer_instance; exact (fun _ => rfl); apply rfl; exact getD_some (by omega); apply rfl; apply rfl) | (apply T.loadFN; apply rfl; apply rfl; infer_instance; exact (fun _ => rfl); apply rfl; exact getD_some (by omega); apply rfl) | (apply T.loadNat; apply rfl; infer_instance; (first | omega | (simp only [List.length_map]; omega) | (simp; omega)); apply rfl) | (apply T.pickF; (iterate 3 apply rfl)) | (apply T.buildL; (iterate 3 apply rfl)) | (apply T.sliceLK; apply rfl; apply rfl; omega; apply rfl) | (apply T.storeW; apply rfl; apply rfl; infer_instance; (first | rfl | (simp only [List.length_append, List.length_map, List.length_set, List.length_replicate, List.length_cons, List.length_nil]; first | done | omega)); (first | rfl | (simp only [List.length_append, List.length_map, List.length_set, List.length_replicate, List.length_cons, List.length_nil]; first | done | omega)); (first | rfl | (repeat' first | apply all_nV | apply all_bV | apply all_iV | rfl | apply all_app))) | (apply T.alloc; apply rfl; intro nb) | (apply T.box; apply rfl; apply rfl; intro nb) | (with_reducible first | refine Sr.nil ?_ | refine S.seq ?_ | refine S.reg ?_ | refine S.skip ?_) | (apply T.ungV; apply rfl; (first | with_reducible rfl | decide)) | (apply S.condTV; apply rfl; (first | with_reducible rfl | decide)) | (apply S.condQ; apply rfl; all_goals (intro _; try (exfalso; first | omega | with_reducible contradiction))) | (apply T.gcase; apply rfl; apply rfl; all_goals (intro _; try (exfalso; first | omega | with_reducible contradiction))) | (apply T.retW; apply rfl) | (with_reducible apply T.ofRet) | fail)
          exact ⟨H, by repeat (first | exact PSub.refl _ | apply PSub.drop), rfl, rfl⟩
         ·rw [if_pos ⟨c5, c6, c7, c8⟩] at s3
          rw [s3]
          repeat' (first | (apply T.subI; apply rfl; apply rfl; omega; apply rfl; rw [show ((3 : Nat) : Int) - 1 = ((2 : Nat) : Int) from rfl]) | (apply T.seql; (iterate 3 apply rfl)) | ((first | apply T.mv | apply T.asn | apply T.len | apply T.nilCheck); apply rfl; apply rfl) | (apply T.fieldAddrZ; apply rfl; apply rfl) | (apply T.load; apply rfl; apply rfl; infer_instance; apply rfl; apply rfl) | ((first | apply T.lss | apply T.gtr | apply T.neq); (iterate 3 apply rfl)) | (apply T.eql; (iterate 3 apply rfl)) | (apply T.ixC; apply rfl; infer_instance; omega; (first | omega | (simp only [List.length_map]; omega) | (simp; omega)); apply rfl) | (apply T.ixN; apply rfl; apply rfl; infer_instance; omega; (first | omega | (simp only [List.length_map]; omega) | (simp; omega)); apply rfl) | (apply T.ixF; apply rfl; apply rfl; infer_instance; exact (fun _ => rfl); apply rfl; omega; omega; apply rfl) | (apply T.fieldAddrF; apply rfl; infer_instance; exact (fun _ => rfl); apply rfl; omega; apply rfl) | (apply T.loadF; apply rfl; apply rfl; infer_instance; exact (fun _ => rfl); apply rfl; exact getD_some (by omega); apply rfl; apply rfl) | (apply T.loadFN; apply rfl; apply rfl; infer_instance; exact (fun _ => rfl); apply rfl; exact getD_some (by omega); apply rfl) | (apply T.loadNat; apply rfl; infer_instance; (first | omega | (simp only [List.length_map]; omega) | (simp; omega)); apply rfl) | (apply T.pickF; (iterate 3 apply rfl)) | (apply T.buildL; (iterate 3 apply rfl)) | (apply T.sliceLK; apply rfl; apply rfl; omega; apply rfl) | (apply T.storeW; apply rfl; apply rfl; infer_instance; (first | rfl | (simp only [List.length_append, List.length_map, List.length_set, List.length_replicate, List.length_cons, List.length_nil]; first | done | omega)); (first | rfl | (simp only [List.length_append, List.length_map, List.length_set, List.length_replicate, List.length_cons, List.length_nil]; first | done | omega)); (first | rfl | (repeat' first | apply all_nV | apply all_bV | apply all_iV | rfl | apply all_app))) | (apply T.store; apply rfl; apply rfl; infer_instance; (first | decide | (simp; omega) | simp); apply rfl) | (apply T.alloc; apply rfl; intro nb) | (apply T.box; apply rfl; apply rfl; intro nb) | (with_reducible first | refine Sr.nil ?_ | refine S.seq ?_ | refine S.reg ?_ | refine S.skip ?_) | (apply T.ungV; apply rfl; (first | with_reducible rfl | decide)) | (apply S.condTV; apply rfl; (first | with_reducible rfl | decide)) | (apply S.condQ; apply rfl; all_goals (intro _; try (exfalso; first | omega | with_reducible contradiction))) | (apply T.gcase; apply rfl; apply rfl; all_goals (intro _; try (exfalso; first | omega | with_reducible contradiction))) | (apply T.retW; apply rfl) | (with_reducible apply T.ofRet) | fail)
          rw [hl]
          exact ⟨_, PSub.drop (PSub.take pick_hd (PSub.drop (PSub.take pick_hd (PSub.drop (PSub.refl _))))), _, _, _, _, rfl, rds _ _ ld1, good _ _ ld1, hx1.1, htx, rfl⟩
       ·rw [if_neg (fun h => c6 h.2.1)] at s3
        rw [s3]
        repeat' (first | (apply T.subI; apply rfl; apply rfl; omega; apply rfl; rw [show ((3 : Nat) : Int) - 1 = ((2 : Nat) : Int) from rfl]) | ((first | apply T.mv | apply T.asn | apply T.len | apply T.nilCheck); apply rfl; apply rfl) | (apply T.fieldAddrZ; apply rfl; apply rfl) | (apply T.load; apply rfl; apply rfl; infer_instance; apply rfl; apply rfl) | ((first | apply T.lss | apply T.gtr | apply T.eql | apply T.neq); (iterate 3 apply rfl)) | (apply T.ixC; apply rfl; infer_instance; omega; (first | omega | (simp only [List.length_map]; omega) | (simp; omega)); apply rfl) | (apply T.ixN; apply rfl; apply rfl; infer_instance; omega; (first | omega | (simp only [List.length_map]; omega) | (simp; omega)); apply rfl) | (apply T.ixF; apply rfl; apply rfl; infer_instance; exact (fun _ => rfl); apply rfl; omega; omega; apply rfl) | (apply T.fieldAddrF; apply rfl; infer_instance; exact (fun _ => rfl); apply rfl; omega; apply rfl) | (apply T.loadF; apply rfl; apply rfl; infer_instance; exact (fun _ => rfl); apply rfl; exact getD_some (by omega); apply rfl; apply rfl) | (apply T.loadFN; apply rfl; apply rfl; infer_instance; exact (fun _ => rfl); apply rfl; exact getD_some (by omega); apply rfl) | (apply T.loadNat; apply rfl; infer_instance; (first | omega | (simp only [List.length_map]; omega) | (simp; omega)); apply rfl) | (apply T.pickT; (iterate 3 apply rfl)) | (apply T.pickF; (iterate 3 apply rfl)) | (apply T.buildL; (iterate 3 apply rfl)) | (apply T.sliceLK; apply rfl; apply rfl; omega; apply rfl) | (apply T.storeW; apply rfl; apply rfl; infer_instance; (first | rfl | (simp only [List.length_append, List.length_map, List.length_set, List.length_replicate, List.length_cons, List.length_nil]; first | done | omega)); (first | rfl | (simp only [List.length_append, List.length_map, List.length_set, List.length_replicate, List.length_cons, List.length_nil]; first | done | omega)); (first | rfl | (repeat' first | apply all_nV | apply all_bV | apply all_iV | rfl | apply all_app))) | (apply T.alloc; apply rfl; intro nb) | (apply T.box; apply rfl; apply rfl; intro nb) | (with_reducible first | refine Sr.nil ?_ | refine S.seq ?_ | refine S.reg ?_ | refine S.skip ?_) | (apply T.ungV; apply rfl; (first | with_reducible rfl | decide)) | (apply T.skip; apply rfl; (first | with_reducible rfl | decide); apply rfl) | (apply S.condTV; apply rfl; (first | with_reducible rfl | decide)) | (apply S.condQ; apply rfl; all_goals (intro _; try (exfalso; first | omega | with_reducible contradiction))) | (apply T.gcase; apply rfl; apply rfl; all_goals (intro _; try (exfalso; first | omega | with_reducible contradiction))) | (apply T.retW; apply rfl) | (with_reducible apply T.ofRet) | fail)
        exact ⟨H, by repeat (first | exact PSub.refl _ | apply PSub.drop), rfl, rfl⟩
      ·rw [if_neg (fun h => c5 h.1)] at s3
       rw [s3]
       repeat' (first | ((first | apply T.mv | apply T.asn | apply T.len); apply rfl; apply rfl) | ((first | apply T.lss | apply T.gtr | apply T.neq); (iterate 3 apply rfl)) | (apply T.ixC; apply rfl; infer_instance; omega; (first | omega | (simp only [List.length_map]; omega) | (simp; omega)); apply rfl) | (apply T.ixF; apply rfl; apply rfl; infer_instance; exact (fun _ => rfl); apply rfl; omega; omega; apply rfl) | (apply T.fieldAddrF; apply rfl; infer_instance; exact (fun _ => rfl); apply rfl; omega; apply rfl) | (apply T.loadF; apply rfl; apply rfl; infer_instance; exact (fun _ => rfl); apply rfl; exact getD_some (by omega); apply rfl; apply rfl) | (apply T.loadNat; apply rfl; infer_instance; (first | omega | (simp only [List.length_map]; omega) | (simp; omega)); apply rfl) | (apply T.pickF; (iterate 3 apply rfl)) | (with_reducible first | refine Sr.nil ?_ | refine S.seq ?_ | refine S.reg ?_) | (apply T.ungV; apply rfl; (first | with_reducible rfl | decide)) | (apply S.condQ; apply rfl; all_goals (intro _; try (exfalso; first | omega | with_reducible contradiction))) | (apply T.retW; apply rfl) | (with_reducible apply T.ofRet) | fail)
       exact ⟨H, by repeat (first | exact PSub.refl _ | apply PSub.drop), rfl, rfl⟩
     ·rw [s4 l2 l3]
      by_cases l1 : ks.length < 2
      ·repeat' (first | ((first | apply T.mv | apply T.asn | apply T.len); apply rfl; apply rfl) | (apply T.lss; (iterate 3 apply rfl)) | (apply T.pickT; (iterate 3 apply rfl)) | (with_reducible first | refine Sr.nil ?_ | refine S.seq ?_ | refine S.reg ?_) | (apply T.skip; apply rfl; (first | with_reducible rfl | decide); apply rfl) | (apply S.condTV; apply rfl; (first | with_reducible rfl | decide)) | (apply T.gcase; apply rfl; apply rfl; all_goals (intro _; try (exfalso; first | omega | with_reducible contradiction))) | (apply T.retW; apply rfl) | (with_reducible apply T.ofRet) | fail)
       exact ⟨H, by repeat (first | exact PSub.refl _ | apply PSub.drop), rfl, rfl⟩
      ·have hq0 : 0 < q.length := by omega
       repeat' (first | ((first | apply T.mv | apply T.asn | apply T.len); apply rfl; apply rfl) | ((first | apply T.lss | apply T.gtr); (iterate 3 apply rfl)) | (apply T.pickT; (iterate 3 apply rfl)) | (apply T.pickF; (iterate 3 apply rfl)) | (with_reducible first | refine Sr.nil ?_ | refine S.seq ?_ | refine S.reg ?_) | (apply T.ungV; apply rfl; (first | with_reducible rfl | decide)) | (apply T.skip; apply rfl; (first | with_reducible rfl | decide); apply rfl) | (apply S.condTV; apply rfl; (first | with_reducible rfl | decide)) | (apply T.gcase; apply rfl; apply rfl; all_goals (intro _; try (exfalso; first | omega | with_reducible contradiction))) | (apply T.retW; apply rfl) | (with_reducible apply T.ofRet) | fail)
       exact ⟨H, by repeat (first | exact PSub.refl _ | apply PSub.drop), rfl, rfl⟩
   ·rw [said_kind (by rw [e0]; exact k6)] at hQ
    subst hQ
    repeat' (first | ((first | apply T.mv | apply T.asn); apply rfl; apply rfl) | ((first | apply T.neq | apply T.extract); (iterate 3 apply rfl)) | (apply T.ixF; apply rfl; apply rfl; infer_instance; exact (fun _ => rfl); apply rfl; omega; omega; apply rfl) | (apply T.fieldAddrF; apply rfl; infer_instance; exact (fun _ => rfl); apply rfl; omega; apply rfl) | (apply T.loadF; apply rfl; apply rfl; infer_instance; exact (fun _ => rfl); apply rfl; exact getD_some (by omega); apply rfl; apply rfl) | (apply T.pickF; (iterate 3 apply rfl)) | (with_reducible first | refine Sr.nil ?_ | refine S.seq ?_ | refine S.reg ?_) | (apply T.ungV; apply rfl; (first | with_reducible rfl | decide)) | (apply S.condQ; apply rfl; all_goals (intro _; try (exfalso; first | omega | with_reducible contradiction))) | (apply T.retW; apply rfl) | (with_reducible apply T.ofRet) | fail)
    exact ⟨_, PSub.drop (PSub.drop (PSub.refl _)), rfl, rfl⟩
 ·rw [if_neg h0] at hQ
  have hQ' : Q = none := hQ.symm
  subst hQ'
  repeat' (first | ((first | apply T.mv | apply T.asn); apply rfl; apply rfl) | ((first | apply T.neq | apply T.extract); (iterate 3 apply rfl)) | (with_reducible first | refine Sr.nil ?_ | refine S.seq ?_ | refine S.reg ?_) | (apply S.condQ; apply rfl; all_goals (intro _; try (exfalso; first | omega | with_reducible contradiction))) | (apply T.retW; apply rfl) | (with_reducible apply T.ofRet) | fail)
  exact ⟨_, PSub.drop (PSub.refl _), rfl, rfl⟩
end
end Go.Proofs.YtjajcmedipjfhaaGreatDoor
/- How a value is spelled, in plain Lean: of a text, of a value; how long that can be. -/
namespace Sg
def hexD (k : Nat) : UInt8 := if k < 10 then UInt8.ofNat (48 + k) else UInt8.ofNat (87 + k)
def qB (c : UInt8) : List UInt8 :=
 if c.toNat = 34 ∨ c.toNat = 92 then [92, c] else if c.toNat = 8 then [92, 98] else if c.toNat = 12 then [92, 102] else if c.toNat = 10 then [92, 110] else if c.toNat = 13 then [92, 114] else
 if c.toNat = 9 then [92, 116] else if c.toNat < 32 then [92, 117, 48, 48, hexD (c.toNat / 16), hexD (c.toNat % 16)] else [c]
def quoS (s : List UInt8) : List UInt8 := 34 :: (s.flatMap qB ++ [34])
def joinC : List (List UInt8) → List UInt8
 | [] => []
 | x :: r => x ++ r.flatMap (44 :: ·)
theorem joinC_snoc (l : List (List UInt8)) (x : List UInt8) : joinC (l ++ [x]) = joinC l ++ (if l = [] then x else 44 :: x) := by
 cases l with
 | nil => simp [joinC]
 | cons y r => simp [joinC, List.flatMap_append]
def spellX : Nat → List Nd → List UInt8
 | 0, _ => []
 | _ + 1, [] => []
 | f + 1, n :: r =>
  if n.kind = 1 then [110, 117, 108, 108] else if n.kind = 2 then [102, 97, 108, 115, 101] else if n.kind = 3 then [116, 114, 117, 101] else if n.kind = 4 then n.text else if n.kind = 5 then quoS n.text else
  (if n.kind = 7 then 123 else 91) :: (joinC ((splitK n.kids.toNat r).map fun x => (if n.kind = 7 then quoS (headN x).key ++ [58] else []) ++ spellX f x) ++ [if n.kind = 7 then 125 else 93])
def itemS (f : Nat) (obj : Prop) [Decidable obj] (x : List Nd) : List UInt8 := (if obj then quoS (headN x).key ++ [58] else []) ++ spellX f x
theorem spellX_row {f : Nat} {n : Nd} {xs : List (List Nd)} (hk : n.kids = (xs.length : Int)) (hf : ∀ x ∈ xs, Fo 1 x) (h1 : n.kind ≠ 1) (h2 : n.kind ≠ 2) (h3 : n.kind ≠ 3) (h4 : n.kind ≠ 4) (h5 : n.kind ≠ 5) :
  spellX (f + 1) (n :: xs.flatten) = (if n.kind = 7 then 123 else 91) :: (joinC (xs.map (itemS f (n.kind = 7))) ++ [if n.kind = 7 then 125 else 93]) := by
 have h6 : ((xs.length : Nat) : Int).toNat = xs.length := by omega
 have h7 := splitK_fo (xs := xs) [] hf
 rw [List.append_nil] at h7
 rw [spellX, if_neg h1, if_neg h2, if_neg h3, if_neg h4, if_neg h5, hk, h6, h7]
 rfl
theorem qB_len (c : UInt8) : (qB c).length ≤ 6 := by
 unfold qB
 repeat' split
 all_goals simp
theorem flatMap_len {α : Type} {g : α → List UInt8} {k : Nat} (h : ∀ a, (g a).length ≤ k) : ∀ l : List α, (l.flatMap g).length ≤ k * l.length
 | [] => Nat.zero_le _
 | a :: l => by
  have h1 := h a
  have h2 := flatMap_len h l
  rw [List.flatMap_cons, List.length_append, List.length_cons, Nat.mul_succ]
  omega
theorem quoS_len (s : List UInt8) : (quoS s).length ≤ 6 * s.length + 2 := by
 have := flatMap_len qB_len s
 unfold quoS
 rw [List.length_cons, List.length_append, List.length_singleton]
 omega
def wN (n : Nd) : Nat := 6 * (n.text.length + n.key.length) + 20
def wL : List Nd → Nat
 | [] => 0
 | n :: r => wN n + wL r
theorem wL_app : ∀ (a b : List Nd), wL (a ++ b) = wL a + wL b
 | [], b => by simp [wL]
 | n :: a, b => by rw [List.cons_append, wL, wL, wL_app a b, Nat.add_assoc]
theorem joinC_len {g : List Nd → List UInt8} : ∀ {xs : List (List Nd)}, (∀ x ∈ xs, (g x).length + 1 ≤ wL x) → (joinC (xs.map g)).length ≤ wL xs.flatten := by
 have key : ∀ {xs : List (List Nd)}, (∀ x ∈ xs, (g x).length + 1 ≤ wL x) → ((xs.map g).flatMap (44 :: ·)).length ≤ wL xs.flatten := by
  intro xs
  induction xs with
  | nil => intro _; exact Nat.le_refl _
  | cons x r ih =>
   intro h
   have h1 := h x (List.mem_cons_self ..)
   have h2 := ih fun y hy => h y (List.mem_cons_of_mem _ hy)
   rw [List.map_cons, List.flatMap_cons, List.length_append, List.length_cons, List.flatten_cons, wL_app]
   omega
 intro xs h
 cases xs with
 | nil => exact Nat.le_refl _
 | cons x r =>
  have h1 := h x (List.mem_cons_self ..)
  have h2 := key fun y hy => h y (List.mem_cons_of_mem _ hy)
  rw [List.map_cons, joinC, List.length_append, List.flatten_cons, wL_app]
  omega
theorem spell_len : ∀ (f : Nat) (x : List Nd), Fo 1 x → x.length ≤ f → (spellX f x).length + 6 * (headN x).key.length + 10 ≤ wL x
 | 0, x, h, hl => by have := h.le; omega
 | f + 1, x, h, hl => by
  obtain ⟨n, m, a, rfl, h1, h2⟩ := h.one_inv
  obtain ⟨xs, h3, rfl, h4⟩ := h2.list
  subst h3
  have hw : wL (n :: xs.flatten) = 6 * (n.text.length + n.key.length) + 20 + wL xs.flatten := rfl
  have hh : headN (n :: xs.flatten) = n := rfl
  have hx : ∀ x ∈ xs, x.length ≤ f := fun x hx => by
   obtain ⟨a, b, rfl⟩ := List.append_of_mem hx
   rw [List.flatten_append, List.flatten_cons] at hl
   simp only [List.length_cons, List.length_append] at hl
   omega
  rw [hh, hw]
  by_cases k1 : n.kind = 1
  ·rw [spellX, if_pos k1]; simp; omega
  by_cases k2 : n.kind = 2
  ·rw [spellX, if_neg k1, if_pos k2]; simp; omega
  by_cases k3 : n.kind = 3
  ·rw [spellX, if_neg k1, if_neg k2, if_pos k3]; simp; omega
  by_cases k4 : n.kind = 4
  ·rw [spellX, if_neg k1, if_neg k2, if_neg k3, if_pos k4]; omega
  by_cases k5 : n.kind = 5
  ·have := quoS_len n.text
   rw [spellX, if_neg k1, if_neg k2, if_neg k3, if_neg k4, if_pos k5]; omega
  rw [spellX_row h1 h4 k1 k2 k3 k4 k5]
  have hj := joinC_len (g := itemS f (n.kind = 7)) (xs := xs) fun x hm => by
   have h5 := spell_len f x (h4 x hm) (hx x hm)
   have h6 := quoS_len (headN x).key
   unfold itemS
   split
   ·simp only [List.length_append, List.length_singleton]; omega
   ·simp only [List.length_append, List.length_nil]; omega
  simp only [List.length_cons, List.length_append, List.length_nil]
  omega
theorem itemS_len {f : Nat} {obj : Prop} [Decidable obj] {x : List Nd} (h : Fo 1 x) (hl : x.length ≤ f) : (itemS f obj x).length + 1 ≤ wL x := by
 have h5 := spell_len f x h hl
 have h6 := quoS_len (headN x).key
 unfold itemS
 split
 ·simp only [List.length_append, List.length_singleton]; omega
 ·simp only [List.length_append, List.length_nil]; omega
theorem join_next {g : List Nd → List UInt8} {xs : List (List Nd)} {i : Nat} (h : i < xs.length) : joinC ((xs.take (i + 1)).map g) = joinC ((xs.take i).map g) ++ (if i = 0 then g xs[i] else 44 :: g xs[i]) := by
 rw [List.take_succ_eq_append_getElem h, List.map_append, List.map_singleton, joinC_snoc]
 congr 1
 by_cases h0 : i = 0
 ·subst h0; simp
 ·rw [if_neg h0, if_neg]
  intro h1
  have := congrArg List.length h1
  rw [List.length_map, List.length_take, List.length_nil] at this
  omega
theorem wL_split {xs : List (List Nd)} {i : Nat} (h : i < xs.length) : wL xs.flatten = wL (xs.take i).flatten + wL xs[i] + wL (xs.drop (i + 1)).flatten := by
 have h2 : xs.flatten = (xs.take i).flatten ++ (xs.drop i).flatten := by rw [← List.flatten_append, List.take_append_drop]
 rw [h2, List.drop_eq_getElem_cons h, List.flatten_cons, wL_app, wL_app, Nat.add_assoc]
theorem flat_mem_len {x : List Nd} {xs : List (List Nd)} (h : x ∈ xs) : x.length ≤ xs.flatten.length := by
 obtain ⟨a, b, rfl⟩ := List.append_of_mem h
 rw [List.flatten_append, List.flatten_cons, List.length_append, List.length_append]
 omega
theorem wL_take (xs : List (List Nd)) (i : Nat) : wL (xs.take i).flatten ≤ wL xs.flatten := by
 have h2 : xs.flatten = (xs.take i).flatten ++ (xs.drop i).flatten := by rw [← List.flatten_append, List.take_append_drop]
 rw [h2, wL_app]
 omega
def NdSh (n : Nd) : Prop := 1 ≤ n.kind ∧ n.kind ≤ 7 ∧ (¬ isRow n → n.kids = 0)
theorem plain_ok {ok : List UInt8 → Bool} {n : Nd} (h : plainX ok n = true) : NdSh n ∧ 0 ≤ n.kids := by
 unfold plainX at h
 split at h
 ·cases h
 ·rename_i h1
  unfold NdSh isRow
  omega
theorem takeK_fo {ok : List UInt8 → Bool} : ∀ {f d : Nat} {nm : Option (List (List UInt8))} {k : Nat} {l r : List Nd}, takeK ok f d nm k l = some r → ∃ a, l = a ++ r ∧ Fo k a ∧ ∀ n ∈ a, NdSh n
 | f, d, nm, 0, l, r, h => by rw [takeK_zero] at h; cases h; exact ⟨[], rfl, .nil, by simp⟩
 | 0, d, nm, k + 1, l, r, h => by cases h
 | f + 1, d, nm, k + 1, [], r, h => by cases h
 | f + 1, d, nm, k + 1, n :: t, r, h => by
  unfold takeK at h
  simp only at h
  split at h
  ·cases h
  ·rename_i hp
   have hp' : plainX ok n = true := by
    cases hq : plainX ok n with
    | true => rfl
    | false => exact absurd (.inl hq) hp
   obtain ⟨h0, h0'⟩ := plain_ok hp'
   split at h
   ·cases h
   ·rename_i r' h1
    split at h
    ·cases h
    ·obtain ⟨a, rfl, ha, ha'⟩ := takeK_fo h1
     obtain ⟨b, rfl, hb, hb'⟩ := takeK_fo h
     refine ⟨n :: (a ++ b), by simp, .node (by omega) ha hb, fun m hm => ?_⟩
     rcases List.mem_cons.1 hm with rfl | hm
     ·exact h0
     ·exact (List.mem_append.1 hm).elim (ha' m) (hb' m)
theorem shaped_fo {ok : List UInt8 → Bool} {v : List Nd} (h : shapedX ok v = true) : Fo 1 v ∧ ∀ n ∈ v, NdSh n := by
 rw [shapedX_take] at h
 split at h
 ·rename_i h1
  obtain ⟨a, e, h2, h3⟩ := takeK_fo h1
  rw [List.append_nil] at e
  subst e
  exact ⟨h2, h3⟩
 ·cases h
theorem shaped_head {ok : List UInt8 → Bool} {n : Nd} {t : List Nd} (h : shapedX ok (n :: t) = true) : plainX ok n = true := by
 cases hp : plainX ok n with
 | true => rfl
 | false =>
  unfold shapedX at h
  simp only [shM] at h
  rw [if_pos hp] at h
  cases h
theorem numP_ne {t : List UInt8} (h : (numP t).isSome = true) : t ≠ [] := by
 rintro rfl
 revert h
 decide
theorem spell_pos {ok : List UInt8 → Bool} {v : List Nd} (h : shapedX ok v = true) : 0 < (spellX v.length v).length := by
 cases v with
 | nil => cases h
 | cons n t =>
  have hp := shaped_head h
  rw [List.length_cons, spellX]
  split
  ·simp
  split
  ·simp
  split
  ·simp
  split
  ·rename_i k4
   unfold plainX at hp
   rw [if_pos k4] at hp
   split at hp
   ·cases hp
   ·simp only [Bool.and_eq_true] at hp
    exact List.length_pos_iff.2 (numP_ne hp.1.1)
  split
  ·unfold quoS; simp
  ·simp
def printX (ok : List UInt8 → Bool) (v : List Nd) : List UInt8 × Int := if shapedX ok v = true then (if 262144 < (spellX v.length v).length then ([], 10) else (spellX v.length v, 0)) else ([], 31)
end Sg
/- The compact tokens of a JSON form, in plain Lean; by the program's way and by the document's. -/
namespace Sg
def allO {α β : Type} (f : α → Option β) : List α → Option (List β)
 | [] => some []
 | x :: r => match f x with
  | none => none
  | some y => match allO f r with
   | none => none
   | some ys => some (y :: ys)
/- By the program's way. -/
end Sg
/- What is revealed, in plain Lean: the answer, and the bounds of its nodes. -/
namespace Sg
def shaN : List UInt8 := [115, 104, 97, 45, 50, 53, 54]
def algBad (v : List Nd) : Prop := match memV v algN with
 | none => False
 | some k => ¬ ((headN k).kind = 5 ∧ (headN k).text = shaN)
instance (v : List Nd) : Decidable (algBad v) := by
 unfold algBad
 split <;> infer_instance
def dupL (met : List Dg) : Bool := !decide met.Nodup
def revealX (ok : List UInt8 → Bool) (rd : List UInt8 → Option Said) (v : List Nd) (ts : List (List UInt8)) : Int × List Nd :=
 if shapedX ok v = false ∨ (headN v).kind ≠ 7 then (200, []) else if algBad v then (200, []) else
 match allO rd ts with
 | none => (200, [])
 | some L => if dupL (L.map (·.dig)) = true then (201, []) else
  match revV (v.length + pend L [] + 1) L true [] v [] with
  | none => (200, [])
  | some (m, y) => if dupL m = true ∨ ∃ s ∈ L, s.dig ∉ m then (201, []) else if shapedX ok y = false then (11, []) else (0, y)
def addQ {β : Type} (ys : List β) : Option (List β) → Option (List β)
 | none => none
 | some zs => some (ys ++ zs)
theorem addQ_nil {β : Type} (o : Option (List β)) : addQ [] o = o := by cases o <;> rfl
theorem allO_go {α β : Type} {f : α → Option β} {x : α} {r : List α} {y : β} (h : f x = some y) (ys : List β) : addQ ys (allO f (x :: r)) = addQ (ys ++ [y]) (allO f r) := by
 have h2 : allO f (x :: r) = match allO f r with
   | none => none
   | some ys => some (y :: ys) := by rw [allO]; simp only [h]; try rfl
 rw [h2]
 cases allO f r <;> simp [addQ]
theorem allO_no {α β : Type} {f : α → Option β} {x : α} {r : List α} (h : f x = none) (ys : List β) : addQ ys (allO f (x :: r)) = none := by
 unfold allO
 rw [h]
 rfl
def NdB (n : Nd) : Prop := n.text.length ≤ 1100000 ∧ n.key.length ≤ 1100000
def AllB (x : List Nd) : Prop := ∀ n ∈ x, NdB n
theorem AllB.kids {x : List Nd} (hx : Fo 1 x) (h : AllB x) : ∀ y ∈ kidsOf x 0, AllB y := by
 obtain ⟨-, -, h3, -⟩ := kids_size hx
 intro y hy n hn
 refine h n ?_
 rw [h3]
 exact List.mem_cons_of_mem _ (List.mem_flatten.2 ⟨y, hy, hn⟩)
theorem AllB.head {x : List Nd} (hx : Fo 1 x) (h : AllB x) : NdB (headN x) := by
 obtain ⟨-, -, h3, -⟩ := kids_size hx
 exact h _ (by rw [h3]; exact List.mem_cons_self ..)
def Bounds (val : RevV) (L : List Said) : Prop := ∀ met x key m y, Vl x → AllB x → key.length ≤ 1100000 → val met x key = some (m, y) → AllB y
def LOk (L : List Said) : Prop := ∀ s ∈ L, Vl s.value ∧ AllB s.value ∧ s.name.length ≤ 1100000
theorem items_b {val : RevV} {L : List Said} (hv : Bounds val L) (hL : LOk L) : ∀ (r : List (List Nd)) (met : List Dg) (ys : List (List Nd)) (m : List Dg) (zs : List (List Nd)), (∀ y ∈ r, Vl y ∧ AllB y) → (∀ y ∈ ys, AllB y) → itemsA val L met ys r = some (m, zs) → ∀ y ∈ zs, AllB y
 | [], met, ys, m, zs, _, hy, h => by
  rw [itemsA] at h
  cases h
  exact hy
 | x :: r, met, ys, m, zs, hr, hy, h => by
  have hx := hr x (List.mem_cons_self ..)
  have hr' : ∀ y ∈ r, Vl y ∧ AllB y := fun y h => hr y (List.mem_cons_of_mem _ h)
  have app : ∀ {y}, AllB y → ∀ z ∈ ys ++ [y], AllB z := fun h z hz => (List.mem_append.1 hz).elim (hy z) fun e => by rw [List.mem_singleton.1 e]; exact h
  rw [itemsA] at h
  split at h
  ·split at h
   ·cases h
   ·rename_i m1 y h1
    exact items_b hv hL r m1 _ m zs hr' (app (hv _ _ _ _ _ hx.1 hx.2 (by simp) h1)) h
  ·split at h
   ·split at h
    ·exact items_b hv hL r _ ys m zs hr' hy h
    ·rename_i s hs
     obtain ⟨hs1, hs2⟩ := findS_some hs
     obtain ⟨l1, l2, l3⟩ := hL s hs1
     split at h
     ·cases h
     ·split at h
      ·exact items_b hv hL r _ ys m zs hr' hy h
      ·split at h
       ·cases h
       ·rename_i m1 y h1
        exact items_b hv hL r m1 _ m zs hr' (app (hv _ _ _ _ _ l1 l2 (by simp) h1)) h
   ·cases h
theorem members_b {val : RevV} {L : List Said} (hv : Bounds val L) {top : Bool} : ∀ (r : List (List Nd)) (met : List Dg) (ys : List (List Nd)) (m : List Dg) (zs : List (List Nd)), (∀ y ∈ r, Vl y ∧ AllB y) → (∀ y ∈ ys, AllB y) → membersA val top met ys r = some (m, zs) → ∀ y ∈ zs, AllB y
 | [], met, ys, m, zs, _, hy, h => by
  rw [membersA] at h
  cases h
  exact hy
 | x :: r, met, ys, m, zs, hr, hy, h => by
  have hx := hr x (List.mem_cons_self ..)
  have hr' : ∀ y ∈ r, Vl y ∧ AllB y := fun y h => hr y (List.mem_cons_of_mem _ h)
  have app : ∀ {y}, AllB y → ∀ z ∈ ys ++ [y], AllB z := fun h z hz => (List.mem_append.1 hz).elim (hy z) fun e => by rw [List.mem_singleton.1 e]; exact h
  rw [membersA] at h
  split at h
  ·exact members_b hv r _ ys m zs hr' hy h
  ·split at h
   ·exact members_b hv r _ ys m zs hr' hy h
   ·split at h
    ·cases h
    ·rename_i m1 y h1
     exact members_b hv r m1 _ m zs hr' (app (hv _ _ _ _ _ hx.1 hx.2 (hx.2.head hx.1.1).2 h1)) h
theorem discl_b {val : RevV} {L : List Said} (hv : Bounds val L) (hL : LOk L) : ∀ (r : List (List Nd)) (met : List Dg) (ns : List (List UInt8)) (ys : List (List Nd)) (m : List Dg) (zs : List (List Nd)), (∀ y ∈ ys, AllB y) → disclA val L met ns ys r = some (m, zs) → ∀ y ∈ zs, AllB y
 | [], met, ns, ys, m, zs, hy, h => by
  rw [disclA] at h
  cases h
  exact hy
 | x :: r, met, ns, ys, m, zs, hy, h => by
  have app : ∀ {y}, AllB y → ∀ z ∈ ys ++ [y], AllB z := fun h z hz => (List.mem_append.1 hz).elim (hy z) fun e => by rw [List.mem_singleton.1 e]; exact h
  rw [disclA] at h
  split at h
  ·split at h
   ·exact discl_b hv hL r _ _ ys m zs hy h
   ·rename_i s hs
    obtain ⟨hs1, hs2⟩ := findS_some hs
    obtain ⟨l1, l2, l3⟩ := hL s hs1
    split at h
    ·split at h
     ·exact discl_b hv hL r _ _ ys m zs hy h
     ·split at h
      ·cases h
      ·rename_i m1 y h1
       exact discl_b hv hL r m1 _ _ m zs (app (hv _ _ _ _ _ l1 l2 l3 h1)) h
    ·cases h
  ·cases h
theorem row_b {kind : Int} {key : List UInt8} {ys : List (List Nd)} (hk : key.length ≤ 1100000) (h : ∀ y ∈ ys, AllB y) : AllB (rowN kind key ys) := fun n hn => by
 rcases List.mem_cons.1 hn with rfl | hn
 ·exact ⟨Nat.zero_le _, hk⟩
 ·obtain ⟨y, h1, h2⟩ := List.mem_flatten.1 hn
  exact h y h1 n h2
theorem rev_b {L : List Said} (hL : LOk L) : ∀ (f : Nat) (top : Bool), Bounds (revV f L top) L
 | 0, top => fun met x key m y _ _ _ h => by cases h
 | f + 1, top => fun met x key m y hx hb hk h => by
  have ih := rev_b hL f false
  have hkk : ∀ y ∈ kidsOf x 0, Vl y ∧ AllB y := fun y hy => ⟨hx.kids y hy, hb.kids hx.1 y hy⟩
  rw [revV] at h
  simp only at h
  split at h
  ·split at h
   ·cases h
   ·split at h
    ·cases h
    ·rename_i m1 ys h1
     have h2 := members_b ih (kidsOf x 0) met [] m1 ys hkk (fun y hy => by cases hy) h1
     split at h
     ·cases h
      exact row_b hk h2
     ·split at h
      ·split at h
       ·cases h
       ·rename_i m2 zs h5
        have h6 := discl_b ih hL _ _ _ _ _ _ h2 h5
        cases h
        exact row_b hk h6
      ·cases h
  ·split at h
   ·split at h
    ·cases h
    ·rename_i m1 ys h1
     have h2 := items_b ih hL (kidsOf x 0) met [] m1 ys hkk (fun y hy => by cases hy) h1
     cases h
     exact row_b hk h2
   ·cases h
    intro n hn
    obtain rfl := List.mem_singleton.1 hn
    exact ⟨(hb.head hx.1).1, hk⟩
theorem said_ok {dg : List UInt8} {v : List Nd} {s : Said} (hv : Vl v) (hb : AllB v) (h : saidX dg v = some s) : s.dig = dg ∧ s.value.length + 2 ≤ v.length ∧ Vl s.value ∧ AllB s.value ∧ s.name.length ≤ 1100000 := by
 have hk := hv.kids
 have hkb := hb.kids hv.1
 obtain ⟨h1, -, -, -⟩ := kids_size hv.1
 unfold saidX at h
 split at h
 ·match hks : kidsOf v 0 with
  | [] => rw [hks] at h; cases h
  | [_] => rw [hks] at h; cases h
  | [a, x] =>
   rw [hks] at h hk hkb h1
   have ha := (hk a (by simp)).1.pos
   simp only at h
   split at h
   ·cases h
    refine ⟨rfl, ?_, hk x (by simp), hkb x (by simp), by simp⟩
    simp only [List.flatten_cons, List.flatten_nil, List.append_nil, List.length_append] at h1
    show x.length + 2 ≤ v.length
    omega
   ·cases h
  | [a, n, x] =>
   rw [hks] at h hk hkb h1
   have ha := (hk a (by simp)).1.pos
   have hn := (hk n (by simp)).1
   simp only at h
   split at h
   ·cases h
    refine ⟨rfl, ?_, hk x (by simp), hkb x (by simp), ((hkb n (by simp)).head hn).1⟩
    simp only [List.flatten_cons, List.flatten_nil, List.append_nil, List.length_append] at h1
    show x.length + 2 ≤ v.length
    omega
   ·cases h
  | _ :: _ :: _ :: _ :: _ => rw [hks] at h; cases h
 ·cases h
theorem read_ok {dg b : List UInt8} {s : Said} (h : readX dg (some b) = some s) : s.dig = dg ∧ s.value.length + 2 ≤ b.length ∧ Vl s.value ∧ AllB s.value ∧ s.name.length ≤ 1100000 := by
 unfold readX at h
 simp only at h
 split at h
 ·cases h
 ·rename_i a v hp
  obtain ⟨h1, h2, h3⟩ := parse_sz hp
  obtain ⟨q1, q2, q3⟩ := said_ok ⟨parse_fo hp, parse_flat hp⟩ (fun n hn => ⟨Nat.le_trans (h2 n hn).text (by omega), Nat.le_trans (h2 n hn).key (by omega)⟩) h
  exact ⟨q1, by omega, q3⟩
end Sg
/- The program's sum: turns, sizes, and one block by words of 32 bits. -/
namespace Go.Proofs.YtjajcmedipjfhaaGreatDoor
open Sg Go Go.RowKit Go.IntWalk
set_option maxRecDepth 100000
set_option maxHeartbeats 1000000
theorem rotl_spec (x : UInt32) (n k : Nat) (h : n + k = 32) (h0 : 0 < n) (hk : 0 < k) : PCall Tryz.prog 158 [wV x, .int .i64 (-(n : Int))] (wV (rot n x)) := by
 intro w
 unfold wV
 have e1 : bits BinOp.and IntKind.u64 (IntKind.u64.wrap (-(n : Int))) 31 = (k : Int) := by
  have h2 : IntKind.u64.wrap (-(n : Int)) = ((18446744073709551616 - n : Nat) : Int) := by rw [IntKind.wrap_u64]; omega
  rw [h2]
  have h3 := and_u64 (m := 18446744073709551616 - n) (n := 31) (by omega) (by omega)
  refine Eq.trans h3 ?_
  rw [show 31 = 2 ^ 5 - 1 from rfl, Nat.and_two_pow_sub_one_eq_mod]
  omega
 have e2 := rot_bits x h h0 hk
 have hx := UInt32.toNat_lt x
 generalize (rot (n : Int) x).toNat = r at *
 generalize x.toNat = m at *
 have e3 : (32 - (k : Int)) = n := by omega
 rw [or_comm32] at e2
 go_enter Tryz.func158, Tryz.ntmps158
 go_wp2
 go_ret
 exact ⟨rfl, rfl⟩
theorem rotl_at (x : UInt32) (n : Int) (h : 0 < n ∧ n < 32) : PCall Tryz.prog 158 [wV x, .int .i64 (-n)] (wV (rot n x)) := by
 obtain ⟨m, rfl⟩ : ∃ m : Nat, n = (m : Int) := ⟨n.toNat, by omega⟩
 exact rotl_spec x m (32 - m) (by omega) (by omega) (by omega)
theorem rotl7 (x : UInt32) : PCall Tryz.prog 158 [wV x, .int .i64 (-7)] (wV (rot 7 x)) := rotl_at x 7 (by decide)
theorem rotl18 (x : UInt32) : PCall Tryz.prog 158 [wV x, .int .i64 (-18)] (wV (rot 18 x)) := rotl_at x 18 (by decide)
theorem rotl17 (x : UInt32) : PCall Tryz.prog 158 [wV x, .int .i64 (-17)] (wV (rot 17 x)) := rotl_at x 17 (by decide)
theorem rotl19 (x : UInt32) : PCall Tryz.prog 158 [wV x, .int .i64 (-19)] (wV (rot 19 x)) := rotl_at x 19 (by decide)
theorem rotl6 (x : UInt32) : PCall Tryz.prog 158 [wV x, .int .i64 (-6)] (wV (rot 6 x)) := rotl_at x 6 (by decide)
theorem rotl11 (x : UInt32) : PCall Tryz.prog 158 [wV x, .int .i64 (-11)] (wV (rot 11 x)) := rotl_at x 11 (by decide)
theorem rotl25 (x : UInt32) : PCall Tryz.prog 158 [wV x, .int .i64 (-25)] (wV (rot 25 x)) := rotl_at x 25 (by decide)
theorem rotl2 (x : UInt32) : PCall Tryz.prog 158 [wV x, .int .i64 (-2)] (wV (rot 2 x)) := rotl_at x 2 (by decide)
theorem rotl13 (x : UInt32) : PCall Tryz.prog 158 [wV x, .int .i64 (-13)] (wV (rot 13 x)) := rotl_at x 13 (by decide)
theorem rotl22 (x : UInt32) : PCall Tryz.prog 158 [wV x, .int .i64 (-22)] (wV (rot 22 x)) := rotl_at x 22 (by decide)
theorem block_spec (w : World) : Calls Tryz.prog 100 ⟨[.int .i64 1]⟩ w fun e w' => e = .returned (.int .i64 64) ∧ w' = w := by
 go_enter Tryz.func100, Tryz.ntmps100
 go_wp2
 go_ret
 exact ⟨rfl, rfl⟩
theorem block_pure : PCall Tryz.prog 100 [.int .i64 1] (.int .i64 64) := block_spec
def stC (V : V8) (rest : List UInt8) (n : Nat) : List Value := .int .i64 1 :: (V.list.map wV ++ (List.replicate 8 (.int .u64 0) ++ (rest.map bV ++ [.int .u64 (n : Int)])))
abbrev stR (b : Nat) (V : V8) (rest : List UInt8) (n : Nat) : Res := .blk b (stC V rest n) 160
theorem stC_at {V : V8} {rest : List UInt8} {n j : Nat} (h : j < rest.length) : (stC V rest n)[17 + j]? = some (.int .u8 ((rest.getD j 0).toNat : Int)) := by
 have h1 : (rest.map bV)[j]? = some (.int .u8 ((rest.getD j 0).toNat : Int)) := getB h
 rw [stC, show 17 + j = (16 + j) + 1 by omega, List.getElem?_cons_succ, List.getElem?_append_right (by simp [V8.list]; omega), List.getElem?_append_right (by simp [V8.list]; omega), List.getElem?_append_left (by simp [V8.list]; omega)]
 simp only [V8.list, List.length_map, List.length_cons, List.length_nil, List.length_replicate]
 rw [show 16 + j - (0 + 1 + 1 + 1 + 1 + 1 + 1 + 1 + 1) - 8 = j by omega]
 exact h1
theorem stC_n {V : V8} {rest : List UInt8} {n : Nat} (h : rest.length = 128) : (stC V rest n)[145]? = some (.int .u64 (n : Int)) := by
 rw [stC, List.getElem?_cons_succ, List.getElem?_append_right (by simp [V8.list]), List.getElem?_append_right (by simp [V8.list]), List.getElem?_append_right (by simp [V8.list, h])]
 simp [V8.list, h]
theorem stC_len {V : V8} {rest : List UInt8} {n : Nat} (h : rest.length = 128) : (stC V rest n).length = 146 := by simp [stC, V8.list, h]
theorem stC_all {V : V8} {rest : List UInt8} {n : Nat} : (stC V rest n).all (·.oneCell') = true := by
 simp [stC, wV, Value.oneCell']
theorem stC_setN {V : V8} {rest : List UInt8} {n m : Nat} (h : rest.length = 128) : (stC V rest n).set 145 (.int .u64 (m : Int)) = stC V rest m := by
 rw [stC, stC, List.set_cons_succ, List.set_append_right _ _ (by simp [V8.list]), List.set_append_right _ _ (by simp [V8.list]), List.set_append_right _ _ (by simp [V8.list, h])]
 simp [V8.list, h]
def V8.of (l : List UInt32) : V8 := ⟨l.getD 0 0, l.getD 1 0, l.getD 2 0, l.getD 3 0, l.getD 4 0, l.getD 5 0, l.getD 6 0, l.getD 7 0⟩
theorem V8.of_list {l : List UInt32} (h : l.length = 8) : (V8.of l).list = l := by
 match l, h with
 | [a, b, c, d, e, f, g, h], _ => rfl
theorem stC_set {V : V8} {rest : List UInt8} {n i : Nat} {a : UInt32} (h : i < 8) : (stC V rest n).set (1 + i) (wV a) = stC (V8.of (V.list.set i a)) rest n := by
 rw [stC, stC, V8.of_list (by simp [V8.list]), show 1 + i = i + 1 by omega, List.set_cons_succ, List.set_append_left _ _ (by simpa [V8.list] using h), List.map_set]
theorem stC_word {V : V8} {rest : List UInt8} {n i : Nat} (h : i < 8) : (stC V rest n)[1 + i]? = some (wV (V.list.getD i 0)) := by
 rw [stC, show 1 + i = i + 1 by omega, List.getElem?_cons_succ, List.getElem?_append_left (by simpa [V8.list] using h)]
 exact getW (by simpa [V8.list] using h)
instance stC_rest {F : World} {M : List Nat} {H : List Res} {b : Nat} {V : V8} {rest : List UInt8} {n o : Nat} : Rd F M (stR b V rest n :: H) (some ⟨b, 17 + o, none⟩) ((rest.drop o).map bV) := ⟨fun w hw j u hu => by
 refine ⟨_, rfl, ?_⟩
 have hj : o + j < rest.length := by have := (List.getElem?_eq_some_iff.1 hu).1; simp only [List.length_map, List.length_drop] at this; omega
 rw [addr_add, hw.cell (List.mem_cons_self ..), Nat.add_assoc, stC_at hj]
 rw [List.getElem?_map, List.getElem?_drop, List.getElem?_eq_getElem hj] at hu
 simp only [Option.map_some, Option.some.injEq] at hu
 rw [← hu]
 simp [List.getD, hj]⟩
section
variable {q : Mode} {c : Ctx} {ds : List Deferred} {H : List Res} {ops : Array Oper} {l : List Oper} {κ : List Res → Env → Prop} {dr : Bool} {e : Env} {ty : TypeId} {pos : String} {aft : Array Edge}
theorem T.stWord {x y : Operand} {b i n : Nat} {V : V8} {rest : List UInt8} {a : UInt32} {t E : TypeId} {z : Value} {by_ : Nat} [HI c.P t z 1 by_] {f : Res → List Res} (hx : ev e x = some (.pointer (some ⟨b, 1 + i, none⟩))) (hy : ev e y = some (wV a))
  (hb : AtB H b (stC V rest n) E f) (hi : i < 8) (hk : Sr (.eff dr) c ds (f (.blk b (stC (V8.of (V.list.set i a)) rest n) E)) ops l κ e) : Sr (.eff dr) c ds H ops (⟨none, .store t x y, ty, pos, aft, none⟩ :: l) κ e := by
 refine Sr.store (z := z) (by_ := by_) hx hy (by simp [stC, V8.list]; omega) rfl ?_
 rw [stC_set hi]
 exact hk
end
end Go.Proofs.YtjajcmedipjfhaaGreatDoor
