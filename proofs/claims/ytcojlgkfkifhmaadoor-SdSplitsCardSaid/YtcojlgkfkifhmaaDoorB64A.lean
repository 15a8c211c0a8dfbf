/- Both spellings of bytes in 64 signs. -/
import Derived.Test.YtcojlgkfkifhmaaDoorFacts
import Derived.Test.YtcojlgkfkifhmaaDoorB64P
import Derived.Test.YtcojlgkfkifhmaaDoorMapU
/- words -/
/- maps -/
namespace Go.Proofs.YtcojlgkfkifhmaaDoor
open Sg Go Go.RowKit Go.IntWalk
set_option maxRecDepth 100000
set_option maxHeartbeats 2000000
theorem getD_drop'' {l : List UInt8} {o j : Nat} : (l.drop o).getD j 0 = l.getD (o + j) 0 := by simp [List.getD]
theorem grp_six (bs : List UInt8) (q : Nat) : six bs (4 * q) = grp bs q / 2 ^ 18 % 64 ∧ six bs (4 * q + 1) = grp bs q / 2 ^ 12 % 64 ∧ six bs (4 * q + 2) = grp bs q / 2 ^ 6 % 64 ∧ six bs (4 * q + 3) = grp bs q % 64 := by
  refine ⟨?_, ?_, ?_, ?_⟩
  · rw [six, show 4 * q / 4 = q by omega, show 4 * q % 4 = 0 by omega]
  · rw [six, show (4 * q + 1) / 4 = q by omega, show (4 * q + 1) % 4 = 1 by omega]
  · rw [six, show (4 * q + 2) / 4 = q by omega, show (4 * q + 2) % 4 = 2 by omega]
  · rw [six, show (4 * q + 3) / 4 = q by omega, show (4 * q + 3) % 4 = 3 by omega, Nat.sub_self, Nat.pow_zero, Nat.div_one]
theorem spell_spec {F : World} {M : List Nat} {H : List Res} {sa : Option Addr} {gs bs : List UInt8} {c : Nat} (hR : Rd F M H sa (bs.map bV)) (hc : bs.length ≤ c) (hS : gs.length = 64) (hn : bs.length ≤ 35184372088832) :
    Meets Tryd.prog 21 [.slice sa bs.length c, sV gs] F M H (fun e H' => ∃ ad cp, e = .returned (.slice ad (enc gs bs).length cp) ∧ H' = .row ad cp 5 1 (enc gs bs).length ((enc gs bs).map bV) :: H) := by
  refine Meets.enter Tryd.func21 rfl rfl ?_
  repeat' (first | ((with_reducible apply T.addKN 2); apply rfl; apply rfl; omega; apply rfl) | ((with_reducible apply T.quoI64 (n := 3)); apply rfl; apply rfl; omega; omega; apply rfl) | ((with_reducible apply T.mulNK 4); apply rfl; apply rfl; omega; apply rfl) | ((with_reducible apply T.makeB0); apply rfl; apply rfl; omega; apply rfl; intro nb) | ((with_reducible apply T.mv); apply rfl; apply rfl) | ((with_reducible apply T.asn); apply rfl; apply rfl) | ((with_reducible apply T.len); apply rfl; apply rfl) | with_reducible refine Sr.nil ?_ | with_reducible refine S.seq ?_ | with_reducible refine S.block ?_ | with_reducible refine S.reg ?_ | fail)
  refine S.loopE 1 [1] (fun R b' μ H' e => ∃ (q : Nat) (r : List UInt8) (ra : Option Addr) (rc : Nat) (o : List UInt8) (ad : Option Addr) (cp : Nat), H' = .row ad cp 5 1 o.length (o.map bV) :: R ∧ e = (0, .slice ra r.length rc) :: (5, .slice ad o.length cp) :: b' ∧ r = bs.drop (3 * q) ∧ Rd F M H ra (r.map bV) ∧ r.length ≤ rc ∧ o = (List.range (4 * q)).map (fun i => gs.getD (six bs i) 0) ∧ 3 * q ≤ bs.length ∧ μ = r.length) rfl rfl ?_ _ _ ⟨0, bs, sa, c, [], _, _, rfl, rfl, rfl, hR, hc, rfl, by omega, rfl⟩ (by repeat' first | exact trivial | refine And.intro rfl ?_)
  rintro _ _ _ ⟨q, r, ra, rc, o, ad, cp, rfl, rfl, hr, hRr, hrc, ho, hq, rfl⟩ ih
  have hrl : r.length = bs.length - 3 * q := by rw [hr, List.length_drop]
  have hol : o.length = 4 * q := by rw [ho, List.length_map, List.length_range]
  have hg : ∀ j, r.getD j 0 = bs.getD (3 * q + j) 0 := fun j => by rw [hr, getD_drop'']
  by_cases h1 : 3 ≤ r.length
  · have b0 := UInt8.toNat_lt (r.getD 0 0)
    have b1 := UInt8.toNat_lt (r.getD 1 0)
    have b2 := UInt8.toNat_lt (r.getD 2 0)
    have hgv : (r.getD 0 0).toNat * 65536 + (r.getD 1 0).toNat * 256 + (r.getD 2 0).toNat = grp bs q := by rw [hg, hg, hg]; rfl
    have hV : grp bs q < 16777216 := by rw [← hgv]; omega
    have hd12 : grp bs q / 2 ^ 12 < 18446744073709551616 := by omega
    have hd6 : grp bs q / 2 ^ 6 < 18446744073709551616 := by omega
    repeat' (first | ((with_reducible apply T.shlU64 (n := 16)); apply rfl; apply rfl; omega; omega; apply rfl) | ((with_reducible apply T.shlU64 (n := 8)); apply rfl; apply rfl; omega; omega; apply rfl) | ((with_reducible apply T.orU64); apply rfl; apply rfl; (first | omega | exact Nat.or_lt_two_pow (n := 64) (by omega) (by omega)); omega; apply rfl) | ((with_reducible apply T.mv); apply rfl; apply rfl) | ((with_reducible apply T.asn); apply rfl; apply rfl) | ((with_reducible apply T.len); apply rfl; apply rfl) | ((with_reducible apply T.geq); apply rfl; apply rfl; apply rfl) | ((with_reducible apply T.ixC); apply rfl; infer_instance; omega; (first | omega | (simp only [List.length_map]; omega) | (simp; omega)); apply rfl) | ((with_reducible apply T.loadB); apply rfl; infer_instance; omega; apply rfl) | ((with_reducible apply T.convU64); apply rfl; omega; apply rfl) | with_reducible refine Sr.nil ?_ | with_reducible refine S.seq ?_ | with_reducible refine S.block ?_ | with_reducible refine S.reg ?_ | with_reducible refine S.skip ?_ | ((with_reducible apply S.quiet); apply rfl; kernel_rfl) | ((with_reducible apply S.condQ); apply rfl; all_goals (intro _; try (exfalso; omega))) | fail)
    rw [grp_or b1 b2, hgv]
    ((with_reducible apply S.draw); (case Hs => exact []); (case es => exact  [19, 20]); (case n => exact  22); (case hn => rfl))
    repeat' (first | ((with_reducible apply T.shrU64 (n := 18)); apply rfl; apply rfl; omega; apply rfl) | ((with_reducible apply T.shrU64 (n := 12)); apply rfl; apply rfl; omega; apply rfl) | ((with_reducible apply T.shrU64 (n := 6)); apply rfl; apply rfl; omega; apply rfl) | ((with_reducible apply T.andU64 (n := 63)); apply rfl; apply rfl; omega; omega; apply rfl) | ((with_reducible apply T.sidx); apply rfl; apply rfl; (first | omega | (rw [and63, hS]; exact Nat.mod_lt _ (by decide))); apply rfl) | ((with_reducible apply T.append4); apply rfl; apply rfl; infer_instance; apply rfl; (constructor <;> omega); apply rfl; intro na nc) | ((with_reducible apply T.mv); apply rfl; apply rfl) | ((with_reducible apply T.asn); apply rfl; apply rfl) | ((with_reducible apply T.sliceLC); apply rfl; omega; apply rfl) | ((with_reducible apply T.bs); apply rfl; apply rfl; apply rfl; apply rfl; apply rfl; apply rfl; intro nb) | with_reducible refine Sr.nil ?_ | with_reducible refine S.reg ?_ | with_reducible refine S.inBlock ?_ | ((with_reducible apply SA.qn); apply rfl; apply rfl; apply rfl; apply rfl; kernel_rfl) | ((with_reducible apply SA.qsn); apply rfl; apply rfl; apply rfl; kernel_rfl; (first | exact fun _ h => h | exact fun _ h => St.psub h (by ((repeat (first | dsimp only [List.set_cons_zero] | dsimp only [List.set_cons_succ])); repeat' first | exact PSub.refl _ | exact PSub.nil | ((with_reducible apply PSub.take); (repeat' first | (with_reducible exact pick_hd) | (with_reducible apply pick_tl))) | (with_reducible apply PSub.drop) | ((apply PSub.take); (repeat' first | exact pick_hd | (apply pick_tl))))))) | ((with_reducible apply SA.en); apply rfl; apply rfl; kernel_rfl) | ((with_reducible apply SA.done); apply rfl; kernel_rfl) | ((with_reducible apply SK.intro); (first | exact fun _ h => h | exact fun _ h => St.psub h (by ((repeat (first | dsimp only [List.set_cons_zero] | dsimp only [List.set_cons_succ])); repeat' first | exact PSub.refl _ | exact PSub.nil | ((with_reducible apply PSub.take); (repeat' first | (with_reducible exact pick_hd) | (with_reducible apply pick_tl))) | (with_reducible apply PSub.drop) | ((apply PSub.take); (repeat' first | exact pick_hd | (apply pick_tl))))))) | fail)
    obtain ⟨s0, s1, s2, s3⟩ := grp_six bs q
    have ho2 : o ++ [gs.getD (grp bs q / 2 ^ 18) 0, gs.getD (grp bs q / 2 ^ 12 &&& 63) 0, gs.getD (grp bs q / 2 ^ 6 &&& 63) 0, gs.getD (grp bs q &&& 63) 0] = (List.range (4 * (q + 1))).map (fun i => gs.getD (six bs i) 0) := by
      rw [show 4 * (q + 1) = 4 * q + 4 from rfl, range4, ← ho, and63, and63, and63, s0, s1, s2, s3, Nat.mod_eq_of_lt (show grp bs q / 2 ^ 18 < 64 by omega)]
    have ho3 : o.length + 4 = ((List.range (4 * (q + 1))).map (fun i => gs.getD (six bs i) 0)).length := by rw [← ho2, List.length_append]; rfl
    rw [ho3, ho2, show r.length - 3 = (r.drop 3).length by rw [List.length_drop]]
    exact ih _ _ _ _ ⟨q + 1, r.drop 3, _, rc - 3, _, _, _, rfl, rfl, by rw [hr, List.drop_drop]; rfl, hRr.sub1 (cp := rc) (lo := 3) hrc, by rw [List.length_drop]; omega, rfl, by omega, rfl⟩ (by rw [List.length_drop]; omega) (by repeat' first | exact trivial | refine And.intro rfl ?_)
  · clear ih
    have hgq : grp bs q = (r.getD 0 0).toNat * 65536 + (r.getD 1 0).toNat * 256 + (r.getD 2 0).toNat := by rw [hg, hg, hg]; rfl
    obtain ⟨s0, s1, s2, s3⟩ := grp_six bs q
    have b0 := UInt8.toNat_lt (r.getD 0 0)
    have b1 := UInt8.toNat_lt (r.getD 1 0)
    have hz : ∀ j, r.length ≤ j → r.getD j 0 = 0 := fun j hj => by simp [List.getD, hj]
    by_cases h2 : r.length = 2
    · have e1 : ((r.getD 0 0).toNat &&& 3) * 2 ^ 4 ||| (r.getD 1 0).toNat / 2 ^ 4 = (r.getD 0 0).toNat % 4 * 16 + (r.getD 1 0).toNat / 16 := by rw [and3, or16 (by omega)]
      repeat' (first | ((with_reducible apply T.mv); apply rfl; apply rfl) | ((with_reducible apply T.asn); apply rfl; apply rfl) | ((with_reducible apply T.len); apply rfl; apply rfl) | ((with_reducible apply T.geq); apply rfl; apply rfl; apply rfl) | ((with_reducible apply T.eql); apply rfl; apply rfl; apply rfl) | with_reducible refine Sr.nil ?_ | with_reducible refine S.seq ?_ | with_reducible refine S.block ?_ | with_reducible refine S.reg ?_ | ((with_reducible apply S.exit); apply rfl) | ((with_reducible apply S.condQ); apply rfl; all_goals (intro _; try (exfalso; omega))) | fail)
      ((with_reducible apply S.draw); (case Hs => exact H); (case es => exact  [26, 27]); (case n => exact  29); (case hn => rfl))
      repeat' (first | ((with_reducible apply T.shrU8 (n := 2)); apply rfl; apply rfl; omega; apply rfl) | ((with_reducible apply T.shrU8 (n := 4)); apply rfl; apply rfl; omega; apply rfl) | ((with_reducible apply T.andU8 (n := 3)); apply rfl; apply rfl; omega; omega; apply rfl) | ((with_reducible apply T.andU8 (n := 15)); apply rfl; apply rfl; omega; omega; apply rfl) | ((with_reducible apply T.shlU8 (n := 4)); apply rfl; apply rfl; (rw [and3]; omega); omega; apply rfl) | ((with_reducible apply T.shlU8 (n := 2)); apply rfl; apply rfl; (rw [and15]; omega); omega; apply rfl) | ((with_reducible apply T.orU8); apply rfl; apply rfl; (rw [and3]; omega); omega; apply rfl) | ((with_reducible apply T.sidx); apply rfl; apply rfl; (first | omega | (rw [e1]; omega) | (rw [and15]; omega)); apply rfl) | ((with_reducible apply T.append3); apply rfl; apply rfl; infer_instance; apply rfl; (constructor <;> omega); apply rfl; intro na nc) | ((with_reducible apply T.mv); apply rfl; apply rfl) | ((with_reducible apply T.asn); apply rfl; apply rfl) | ((with_reducible apply T.ixC); apply rfl; infer_instance; omega; (first | omega | (simp only [List.length_map]; omega) | (simp; omega)); apply rfl) | ((with_reducible apply T.loadB); apply rfl; infer_instance; omega; apply rfl) | ((with_reducible apply T.bs); apply rfl; apply rfl; apply rfl; apply rfl; apply rfl; apply rfl; intro nb) | with_reducible refine Sr.nil ?_ | with_reducible refine S.seq ?_ | with_reducible refine S.reg ?_ | with_reducible refine S.inBlock ?_ | ((with_reducible apply T.retW); apply rfl) | ((with_reducible apply SA.qn); apply rfl; apply rfl; apply rfl; apply rfl; kernel_rfl) | ((with_reducible apply SA.qsn); apply rfl; apply rfl; apply rfl; kernel_rfl; (first | exact fun _ h => h | exact fun _ h => St.psub h (by ((repeat (first | dsimp only [List.set_cons_zero] | dsimp only [List.set_cons_succ])); repeat' first | exact PSub.refl _ | exact PSub.nil | ((with_reducible apply PSub.take); (repeat' first | (with_reducible exact pick_hd) | (with_reducible apply pick_tl))) | (with_reducible apply PSub.drop) | ((apply PSub.take); (repeat' first | exact pick_hd | (apply pick_tl))))))) | ((with_reducible apply SA.en); apply rfl; apply rfl; kernel_rfl) | ((with_reducible apply SA.done); apply rfl; kernel_rfl) | ((with_reducible apply SK.intro); (first | exact fun _ h => h | exact fun _ h => St.psub h (by ((repeat (first | dsimp only [List.set_cons_zero] | dsimp only [List.set_cons_succ])); repeat' first | exact PSub.refl _ | exact PSub.nil | ((with_reducible apply PSub.take); (repeat' first | (with_reducible exact pick_hd) | (with_reducible apply pick_tl))) | (with_reducible apply PSub.drop) | ((apply PSub.take); (repeat' first | exact pick_hd | (apply pick_tl))))))) | fail)
      have hz2 := hz 2 (by omega)
      rw [hz2] at hgq
      have hen : enc gs bs = o ++ [gs.getD ((r.getD 0 0).toNat / 2 ^ 2) 0, gs.getD (((r.getD 0 0).toNat &&& 3) * 2 ^ 4 ||| (r.getD 1 0).toNat / 2 ^ 4) 0, gs.getD (((r.getD 1 0).toNat &&& 15) * 2 ^ 2) 0] := by
        rw [enc, show signsN bs.length = 4 * q + 3 by unfold signsN; omega, range3, ← ho, e1, and15, s0, s1, s2, hgq, show (0 : UInt8).toNat = 0 from rfl]
        rw [show ((r.getD 0 0).toNat * 65536 + (r.getD 1 0).toNat * 256 + 0) / 2 ^ 18 % 64 = (r.getD 0 0).toNat / 2 ^ 2 by omega, show ((r.getD 0 0).toNat * 65536 + (r.getD 1 0).toNat * 256 + 0) / 2 ^ 12 % 64 = (r.getD 0 0).toNat % 4 * 16 + (r.getD 1 0).toNat / 16 by omega,
          show ((r.getD 0 0).toNat * 65536 + (r.getD 1 0).toNat * 256 + 0) / 2 ^ 6 % 64 = (r.getD 1 0).toNat % 16 * 2 ^ 2 by omega]
      have hel : o.length + 3 = (enc gs bs).length := by rw [hen, List.length_append]; rfl
      rw [hel, ← hen]
      exact ⟨_, PSub.refl _, _, _, rfl, rfl⟩
    · by_cases h3 : r.length = 1
      · repeat' (first | ((with_reducible apply T.mv); apply rfl; apply rfl) | ((with_reducible apply T.asn); apply rfl; apply rfl) | ((with_reducible apply T.len); apply rfl; apply rfl) | ((with_reducible apply T.geq); apply rfl; apply rfl; apply rfl) | ((with_reducible apply T.eql); apply rfl; apply rfl; apply rfl) | with_reducible refine Sr.nil ?_ | with_reducible refine S.seq ?_ | with_reducible refine S.block ?_ | with_reducible refine S.reg ?_ | ((with_reducible apply S.exit); apply rfl) | ((with_reducible apply S.condQ); apply rfl; all_goals (intro _; try (exfalso; omega))) | fail)
        ((with_reducible apply S.draw); (case Hs => exact H); (case es => exact  [14, 15]); (case n => exact  17); (case hn => rfl))
        repeat' (first | ((with_reducible apply T.shrU8 (n := 2)); apply rfl; apply rfl; omega; apply rfl) | ((with_reducible apply T.andU8 (n := 3)); apply rfl; apply rfl; omega; omega; apply rfl) | ((with_reducible apply T.shlU8 (n := 4)); apply rfl; apply rfl; (rw [and3]; omega); omega; apply rfl) | ((with_reducible apply T.sidx); apply rfl; apply rfl; (first | omega | (rw [and3]; omega)); apply rfl) | ((with_reducible apply T.append2); apply rfl; apply rfl; infer_instance; apply rfl; (constructor <;> omega); apply rfl; intro na nc) | ((with_reducible apply T.mv); apply rfl; apply rfl) | ((with_reducible apply T.asn); apply rfl; apply rfl) | ((with_reducible apply T.ixC); apply rfl; infer_instance; omega; (first | omega | (simp only [List.length_map]; omega) | (simp; omega)); apply rfl) | ((with_reducible apply T.loadB); apply rfl; infer_instance; omega; apply rfl) | ((with_reducible apply T.bs); apply rfl; apply rfl; apply rfl; apply rfl; apply rfl; apply rfl; intro nb) | with_reducible refine Sr.nil ?_ | with_reducible refine S.seq ?_ | with_reducible refine S.reg ?_ | with_reducible refine S.inBlock ?_ | ((with_reducible apply T.retW); apply rfl) | ((with_reducible apply SA.qn); apply rfl; apply rfl; apply rfl; apply rfl; kernel_rfl) | ((with_reducible apply SA.qsn); apply rfl; apply rfl; apply rfl; kernel_rfl; (first | exact fun _ h => h | exact fun _ h => St.psub h (by ((repeat (first | dsimp only [List.set_cons_zero] | dsimp only [List.set_cons_succ])); repeat' first | exact PSub.refl _ | exact PSub.nil | ((with_reducible apply PSub.take); (repeat' first | (with_reducible exact pick_hd) | (with_reducible apply pick_tl))) | (with_reducible apply PSub.drop) | ((apply PSub.take); (repeat' first | exact pick_hd | (apply pick_tl))))))) | ((with_reducible apply SA.en); apply rfl; apply rfl; kernel_rfl) | ((with_reducible apply SA.done); apply rfl; kernel_rfl) | ((with_reducible apply SK.intro); (first | exact fun _ h => h | exact fun _ h => St.psub h (by ((repeat (first | dsimp only [List.set_cons_zero] | dsimp only [List.set_cons_succ])); repeat' first | exact PSub.refl _ | exact PSub.nil | ((with_reducible apply PSub.take); (repeat' first | (with_reducible exact pick_hd) | (with_reducible apply pick_tl))) | (with_reducible apply PSub.drop) | ((apply PSub.take); (repeat' first | exact pick_hd | (apply pick_tl))))))) | fail)
        have hz1 := hz 1 (by omega)
        have hz2 := hz 2 (by omega)
        rw [hz2, hz1] at hgq
        have hen : enc gs bs = o ++ [gs.getD ((r.getD 0 0).toNat / 2 ^ 2) 0, gs.getD (((r.getD 0 0).toNat &&& 3) * 2 ^ 4) 0] := by
          rw [enc, show signsN bs.length = 4 * q + 2 by unfold signsN; omega, range2, ← ho, and3, s0, s1, hgq, show (0 : UInt8).toNat = 0 from rfl]
          rw [show ((r.getD 0 0).toNat * 65536 + 0 * 256 + 0) / 2 ^ 18 % 64 = (r.getD 0 0).toNat / 2 ^ 2 by omega, show ((r.getD 0 0).toNat * 65536 + 0 * 256 + 0) / 2 ^ 12 % 64 = (r.getD 0 0).toNat % 4 * 2 ^ 4 by omega]
        have hel : o.length + 2 = (enc gs bs).length := by rw [hen, List.length_append]; rfl
        rw [hel, ← hen]
        exact ⟨_, PSub.refl _, _, _, rfl, rfl⟩
      · have hen : enc gs bs = o := by
          rw [enc, show signsN bs.length = 4 * q by unfold signsN; omega, ← ho]
        rw [hen]
        repeat' (first | ((with_reducible apply T.mv); apply rfl; apply rfl) | ((with_reducible apply T.asn); apply rfl; apply rfl) | ((with_reducible apply T.len); apply rfl; apply rfl) | ((with_reducible apply T.geq); apply rfl; apply rfl; apply rfl) | ((with_reducible apply T.eql); apply rfl; apply rfl; apply rfl) | with_reducible refine Sr.nil ?_ | with_reducible refine S.seq ?_ | with_reducible refine S.block ?_ | with_reducible refine S.reg ?_ | with_reducible refine S.skip ?_ | with_reducible refine S.inBlock ?_ | ((with_reducible apply S.exit); apply rfl) | ((with_reducible apply T.retW); apply rfl) | ((with_reducible apply S.condQ); apply rfl; all_goals (intro _; try (exfalso; omega))) | fail)
        exact ⟨_, PSub.refl _, _, _, rfl, rfl⟩
theorem encode_spec {F : World} {M : List Nat} {H : List Res} {sa : Option Addr} {bs : List UInt8} {c : Nat} (hR : Rd F M H sa (bs.map bV)) (hc : bs.length ≤ c) (hn : bs.length ≤ 35184372088832) :
    Meets Tryd.prog 13 [.slice sa bs.length c] F M H (fun e H' => e = .returned (sV (enc urlS bs)) ∧ ∃ r, H' = r :: H) := by
  refine Meets.enter Tryd.func13 rfl rfl ?_
  repeat' (first | ((with_reducible apply T.mv); apply rfl; apply rfl) | ((with_reducible apply T.asn); apply rfl; apply rfl) | with_reducible refine Sr.nil ?_ | with_reducible refine S.seq ?_ | with_reducible refine S.reg ?_ | fail)
  refine T.call rfl rfl (spell_spec (gs := urlS) hR hc rfl hn) ?_
  rintro _ _ ⟨ad, cp, rfl, rfl⟩
  repeat' (first | ((with_reducible apply T.convS); apply rfl; infer_instance; (first | rfl | assumption | exact beN_len _ _ | (simp; done) | (simp; omega)); apply rfl) | ((with_reducible apply T.asn); apply rfl; apply rfl) | with_reducible refine Sr.nil ?_ | ((with_reducible apply T.retW); apply rfl) | (with_reducible apply T.ofRet) | fail)
  exact ⟨_, PSub.refl _, rfl, _, rfl⟩
/- The document's own spelling. -/
theorem bit_spec {F : World} {M : List Nat} {H : List Res} {sa : Option Addr} {bs : List UInt8} {c k : Nat} (hR : Rd F M H sa (bs.map bV)) (hk : k ≤ 1000000000000000) :
    Meets Tryd.prog 35 [.slice sa bs.length c, .int .i64 (k : Int)] F M H (fun e H' => e = .returned (.int .i64 (bitN bs k : Nat)) ∧ H' = H) := by
  refine Meets.enter Tryd.func35 rfl rfl ?_
  by_cases h1 : k / 8 < bs.length
  · have hb := UInt8.toNat_lt (bs.getD (k / 8) 0)
    have hd : ((bs.getD (k / 8) 0).toNat : Int).toNat / 2 ^ (7 - ((k % 8 : Nat) : Int)).toNat < 256 := Nat.lt_of_le_of_lt (Nat.div_le_self _ _) (by omega)
    have he : ((bs.getD (k / 8) 0).toNat : Int).toNat / 2 ^ (7 - ((k % 8 : Nat) : Int)).toNat &&& 1 = bitN bs k := by
      rw [Nat.and_one_is_mod, Int.toNat_natCast, show (7 - ((k % 8 : Nat) : Int)).toNat = 7 - k % 8 by omega]
      rfl
    repeat' (first | ((with_reducible apply T.quoI64 (n := 8)); apply rfl; apply rfl; omega; omega; apply rfl) | ((with_reducible apply T.remI64 (n := 8)); apply rfl; apply rfl; omega; apply rfl) | ((with_reducible apply T.shrGU8); apply rfl; apply rfl; omega; apply rfl) | ((with_reducible apply T.convI64); apply rfl; (constructor; exact Int.le_trans (by decide) (Int.natCast_nonneg _); exact Int.ofNat_le.2 (Nat.le_of_lt (Nat.lt_trans hd (by decide)))); apply rfl) | ((with_reducible apply T.andI64 (n := 1)); apply rfl; apply rfl; exact Nat.lt_trans hd (by decide); omega; apply rfl) | ((with_reducible apply T.mv); apply rfl; apply rfl) | ((with_reducible apply T.asn); apply rfl; apply rfl) | ((with_reducible apply T.len); apply rfl; apply rfl) | ((with_reducible apply T.geq); apply rfl; apply rfl; apply rfl) | ((with_reducible apply T.subI); apply rfl; apply rfl; omega; apply rfl) | ((with_reducible apply T.ixN); apply rfl; apply rfl; infer_instance; omega; (first | omega | (simp only [List.length_map]; omega) | (simp; omega)); apply rfl) | ((with_reducible apply T.loadB); apply rfl; infer_instance; omega; apply rfl) | ((with_reducible apply T.convU64); apply rfl; omega; apply rfl) | with_reducible refine Sr.nil ?_ | with_reducible refine S.seq ?_ | with_reducible refine S.reg ?_ | with_reducible refine S.skip ?_ | ((with_reducible apply T.retW); apply rfl) | ((with_reducible apply S.condQ); apply rfl; all_goals (intro _; try (exfalso; omega))) | fail)
    rw [he]
    exact ⟨_, PSub.refl _, rfl, rfl⟩
  · have he : bitN bs k = 0 := by
      rw [bitN, show bs.getD (k / 8) 0 = 0 by simp [List.getD, Nat.le_of_not_lt h1]]
      show 0 / _ % 2 = 0
      rw [Nat.zero_div]
    rw [he]
    repeat' (first | ((with_reducible apply T.quoI64 (n := 8)); apply rfl; apply rfl; omega; omega; apply rfl) | ((with_reducible apply T.mv); apply rfl; apply rfl) | ((with_reducible apply T.asn); apply rfl; apply rfl) | ((with_reducible apply T.len); apply rfl; apply rfl) | ((with_reducible apply T.geq); apply rfl; apply rfl; apply rfl) | with_reducible refine Sr.nil ?_ | with_reducible refine S.seq ?_ | with_reducible refine S.reg ?_ | ((with_reducible apply T.retW); apply rfl) | ((with_reducible apply S.condQ); apply rfl; all_goals (intro _; try (exfalso; omega))) | fail)
    exact ⟨_, PSub.refl _, rfl, rfl⟩
theorem signs_spec : PCall Tryd.prog 34 [.bool false] (sV urlS) := by
  intro w
  go_enter Tryd.func34, Tryd.ntmps34
  go_wp2
  go_ret
  exact ⟨rfl, rfl⟩
theorem refEncode_spec {F : World} {M : List Nat} {H : List Res} {sa : Option Addr} {bs : List UInt8} {c : Nat} (hR : Rd F M H sa (bs.map bV)) (hn : bs.length ≤ 17592186044416) :
    Meets Tryd.prog 15 [.slice sa bs.length c] F M H (fun e H' => e = .returned (sV (enc urlS bs)) ∧ ∃ r, H' = r :: H) := by
  have hsp : Meets Tryd.prog 25 [.slice sa bs.length c, .bool false] F M H (fun e H' => e = .returned (sV (enc urlS bs)) ∧ ∃ r, H' = r :: H) := by
    refine Meets.enter Tryd.func25 rfl rfl ?_
    have hb : ∀ {H : List Res} (k : Nat), Rd F M H sa (bs.map bV) → k ≤ 1000000000000000 → Meets Tryd.prog 35 [.slice sa bs.length c, .int .i64 (k : Int)] F M H (fun e H' => e = .returned (.int .i64 (bitN bs k : Nat)) ∧ H' = H) := fun k h1 h2 => bit_spec h1 h2
    refine S.nilrowB 5 ?_
    repeat' (first | ((with_reducible apply T.pcall); apply rfl; infer_instance; apply rfl; with_reducible exact signs_spec) | ((with_reducible apply T.mv); apply rfl; apply rfl) | ((with_reducible apply T.asn); apply rfl; apply rfl) | with_reducible refine Sr.nil ?_ | with_reducible refine S.seq ?_ | with_reducible refine S.block ?_ | with_reducible refine S.reg ?_ | fail)
    refine S.loopE 1 [0, 5] (fun R b' μ H' e => ∃ (i : Nat) (o : List UInt8) (ad : Option Addr) (cp : Nat), H' = .row ad cp 5 1 o.length (o.map bV) :: R ∧ e = (6, .slice ad o.length cp) :: (7, .int .i64 ((6 * i : Nat) : Int)) :: b' ∧ o = (List.range i).map (fun i => urlS.getD (six bs i) 0) ∧ i ≤ signsN bs.length ∧ μ = signsN bs.length - i) rfl rfl ?_ _ _ ⟨0, [], _, _, rfl, rfl, rfl, by omega, rfl⟩ (by repeat' first | exact trivial | refine And.intro rfl ?_)
    rintro _ _ _ ⟨i, o, ad, cp, rfl, rfl, ho, hi, rfl⟩ ih
    have hol : o.length = i := by rw [ho, List.length_map, List.length_range]
    have hsn : signsN bs.length = (8 * bs.length + 5) / 6 := rfl
    by_cases h1 : i < signsN bs.length
    · repeat' (first | ((with_reducible apply T.mulKN 8); apply rfl; apply rfl; omega; apply rfl) | ((with_reducible apply T.mv); apply rfl; apply rfl) | ((with_reducible apply T.asn); apply rfl; apply rfl) | ((with_reducible apply T.len); apply rfl; apply rfl) | ((with_reducible apply T.lss); apply rfl; apply rfl; apply rfl) | with_reducible refine Sr.nil ?_ | with_reducible refine S.seq ?_ | with_reducible refine S.block ?_ | with_reducible refine S.reg ?_ | with_reducible refine S.skip ?_ | ((with_reducible apply S.condQ); apply rfl; all_goals (intro _; try (exfalso; omega))) | fail)
      refine S.loopE 0 [0, 5, 6, 7] (fun R b' μ H' e => ∃ k : Nat, H' = R ∧ e = (8, .int .i64 (sumB bs (6 * i) k : Nat)) :: (9, .int .i64 k) :: b' ∧ k ≤ 6 ∧ μ = 6 - k) rfl rfl ?_ _ _ ⟨0, rfl, rfl, by omega, rfl⟩ (by repeat' first | exact trivial | refine And.intro rfl ?_)
      rintro _ _ _ ⟨k, rfl, rfl, hk, rfl⟩ ih2
      have hrl := sumB_lt bs (6 * i) k
      by_cases h2 : k < 6
      · have hrl2 : sumB bs (6 * i) k < 64 := Nat.lt_of_lt_of_le hrl (Nat.pow_le_pow_right (by decide) (show k ≤ 6 by omega))
        have hbl := bitN_lt bs (6 * i + k)
        repeat' (first | ((with_reducible apply T.mulKN 2); apply rfl; apply rfl; omega; apply rfl) | ((with_reducible apply T.addNN); apply rfl; apply rfl; omega; apply rfl) | ((with_reducible apply T.mv); apply rfl; apply rfl) | ((with_reducible apply T.lss); apply rfl; apply rfl; apply rfl) | with_reducible refine Sr.nil ?_ | with_reducible refine S.seq ?_ | with_reducible refine S.block ?_ | with_reducible refine S.reg ?_ | with_reducible refine S.skip ?_ | ((with_reducible apply S.condQ); apply rfl; all_goals (intro _; try (exfalso; omega))) | fail)
        refine T.call rfl rfl (hb (6 * i + k) inferInstance (by omega)) ?_
        rintro _ _ ⟨rfl, rfl⟩
        repeat' (first | ((with_reducible apply T.addNN); apply rfl; apply rfl; omega; apply rfl) | ((with_reducible apply T.mv); apply rfl; apply rfl) | ((with_reducible apply T.asn); apply rfl; apply rfl) | ((with_reducible apply T.addI); apply rfl; apply rfl; omega; apply rfl) | with_reducible refine Sr.nil ?_ | with_reducible refine S.reg ?_ | with_reducible refine S.inBlock ?_ | (with_reducible apply T.ofRet) | fail)
        exact ih2 _ _ _ _ ⟨k + 1, rfl, rfl, by omega, rfl⟩ (by omega) (by repeat' first | exact trivial | refine And.intro rfl ?_)
      · obtain rfl : k = 6 := by omega
        clear ih2
        rw [six_bits]
        have h6 := six_lt bs i
        repeat' (first | ((with_reducible apply T.sidx); apply rfl; apply rfl; exact h6; apply rfl) | ((with_reducible apply T.mv); apply rfl; apply rfl) | ((with_reducible apply T.asn); apply rfl; apply rfl) | ((with_reducible apply T.lss); apply rfl; apply rfl; apply rfl) | ((with_reducible apply T.addI); apply rfl; apply rfl; omega; apply rfl) | ((with_reducible apply T.bs); apply rfl; apply rfl; apply rfl; apply rfl; apply rfl; apply rfl; intro nb) | ((with_reducible apply T.appendB); apply rfl; apply rfl; infer_instance; apply rfl; (constructor <;> omega); apply rfl; intro na nc) | with_reducible refine Sr.nil ?_ | with_reducible refine S.seq ?_ | with_reducible refine S.reg ?_ | with_reducible refine S.inBlock ?_ | ((with_reducible apply S.exit); apply rfl) | ((with_reducible apply S.condF); apply rfl) | fail)
        have ho2 : o ++ [urlS.getD (six bs i) 0] = (List.range (i + 1)).map (fun i => urlS.getD (six bs i) 0) := by rw [List.range_succ, List.map_append, ← ho]; rfl
        rw [show o.length + 1 = (o ++ [urlS.getD (six bs i) 0]).length by rw [List.length_append]; rfl, ho2, show ((6 * i : Nat) : Int) + 6 = ((6 * (i + 1) : Nat) : Int) by omega]
        exact ih _ _ _ _ ⟨i + 1, _, _, _, rfl, rfl, rfl, by omega, rfl⟩ (by omega) (by repeat' first | exact trivial | refine And.intro rfl ?_)
    · obtain rfl : i = signsN bs.length := by omega
      have hen : o = enc urlS bs := ho
      subst hen
      repeat' (first | ((with_reducible apply T.mulKN 8); apply rfl; apply rfl; omega; apply rfl) | ((with_reducible apply T.convS); apply rfl; infer_instance; (first | rfl | assumption | exact beN_len _ _ | (simp; done) | (simp; omega)); apply rfl) | ((with_reducible apply T.mv); apply rfl; apply rfl) | ((with_reducible apply T.asn); apply rfl; apply rfl) | ((with_reducible apply T.len); apply rfl; apply rfl) | ((with_reducible apply T.lss); apply rfl; apply rfl; apply rfl) | with_reducible refine Sr.nil ?_ | with_reducible refine S.seq ?_ | with_reducible refine S.reg ?_ | ((with_reducible apply S.exit); apply rfl) | ((with_reducible apply T.retW); apply rfl) | ((with_reducible apply S.condQ); apply rfl; all_goals (intro _; try (exfalso; omega))) | fail)
      exact ⟨_, PSub.refl _, rfl, _, rfl⟩
  refine Meets.enter Tryd.func15 rfl rfl ?_
  repeat' (first | ((with_reducible apply T.mv); apply rfl; apply rfl) | ((with_reducible apply T.asn); apply rfl; apply rfl) | with_reducible refine Sr.nil ?_ | with_reducible refine S.seq ?_ | with_reducible refine S.reg ?_ | fail)
  refine T.call rfl rfl hsp ?_
  rintro _ _ ⟨rfl, r, rfl⟩
  repeat' (first | ((with_reducible apply T.asn); apply rfl; apply rfl) | with_reducible refine Sr.nil ?_ | ((with_reducible apply T.retW); apply rfl) | (with_reducible apply T.ofRet) | fail)
  exact ⟨_, PSub.refl _, rfl, _, rfl⟩
end Go.Proofs.YtcojlgkfkifhmaaDoor
