/- The walk of the statement InflateStored. -/
import Derived.Test.YtjhpbljkpbdnnaaDoorInfSt
import Derived.Test.YtjhpbljkpbdnnaaDoorInfAh
import Derived.Test.YtjhpbljkpbdnnaaDoorInfAi
import Derived.Test.YtjhpbljkpbdnnaaDoorMoreB
namespace Infl
theorem hdr_valsS (fl : UInt8) {n : Nat} (hn : n ≤ 65535) : [Go.Value.int .u8 (fl.toNat : Int), .int .u8 ((n : Int) % 256), .int .u8 ((n : Int) / 256 % 256), .int .u8 ((-(n : Int) - 1) % 256), .int .u8 ((-(n : Int) - 1) / 256 % 256)] = (hdr fl n).map Sg.bV := by
  simp only [hdr, List.map_cons, List.map_nil, Sg.bV, List.cons.injEq, Go.Value.int.injEq, true_and, and_true, UInt8.toNat_ofNat']
  omega
end Infl
namespace Go.Proofs.YtjhpbljkpbdnnaaDoor
open Sg Go.IntWalk Infl
set_option maxRecDepth 100000
set_option maxHeartbeats 1000000
theorem most_bigT : mostN 1048576 = 1048576 := rfl
theorem stored_walk {F : World} {c ch : Nat} {b h : Option Addr} {bs bh : List UInt8} {each most cut : Int} [hR : ∀ H, Rd F [] H b (bs.map bV)] [hRh : ∀ H, Rd F [] H h (bh.map bV)] [hg : ∀ H, Rd F [] H (some ⟨0, 0, none⟩) (ordL.map nV)] (hb : bs.length + bh.length ≤ 1048576) (hc : bs.length ≤ c) :
    Meets Tryd.prog 6 [.slice b bs.length c, .int .i64 each, .slice h bh.length ch, .int .i64 cut, .int .i64 most] F [] [] (fun e _ => e = .returned (.bool true)) := by
  refine Meets.enter Tryd.func6 rfl rfl ?_
  refine S.nilrow 5 1 ?_
  repeat' (first | ((with_reducible apply T.asn); apply rfl; apply rfl) | with_reducible refine Sr.nil ?_ | with_reducible refine S.seq ?_ | with_reducible refine S.reg ?_ | fail)
  refine T.call rfl rfl started_spec ?_
  rintro _ _ ⟨rfl, rfl⟩
  repeat' (first | ((with_reducible apply T.notB); apply rfl; apply rfl) | with_reducible refine Sr.nil ?_ | with_reducible refine S.skip ?_ | ((with_reducible apply S.condF); apply rfl) | (with_reducible apply T.ofRet) | fail)
  refine S.seq ?_
  skip
  refine S.seq ?_
  refine S.cut (fun H' e' => H' = rw_ none 0 [] :: [] ∧ e' = [(31, .bool (decide (each < 1 ∨ 65535 < each))), (0, .slice b bs.length c), (1, .int .i64 each), (2, .slice h bh.length ch), (3, .int .i64 cut), (4, .int .i64 most)]) ?_ ?_
  · intro k' hrest
    repeat' (first | ((with_reducible apply T.mv); apply rfl; apply rfl) | ((with_reducible apply T.lss); apply rfl; apply rfl; apply rfl) | ((with_reducible apply T.gtr); apply rfl; apply rfl; apply rfl) | ((with_reducible apply T.pickT); apply rfl; apply rfl; apply rfl) | ((with_reducible apply T.pickF); apply rfl; apply rfl; apply rfl) | with_reducible refine Sr.nil ?_ | with_reducible refine S.reg ?_ | ((with_reducible apply T.ung); apply rfl) | ((with_reducible apply T.skip); apply rfl; apply rfl; apply rfl) | ((with_reducible apply T.gcase); apply rfl; apply rfl; all_goals (intro _; try (exfalso; omega))) | fail)
    · exact hrest _ _ _ ⟨rfl, rfl⟩ (by rw [decide_eq_true (by omega)]; exact (by repeat' first | exact trivial | refine And.intro rfl ?_))
    · rename_i h1
      refine hrest _ _ _ ⟨rfl, rfl⟩ ?_
      rw [show (decide (each < 1 ∨ 65535 < each)) = decide (65535 < each) from decide_eq_decide.2 (by omega)]
      exact (by repeat' first | exact trivial | refine And.intro rfl ?_)
  rintro _ _ ⟨rfl, rfl⟩
  refine S.cut (fun H' e' => ∃ E : Nat, 1 ≤ E ∧ E ≤ 65535 ∧ H' = rw_ none 0 [] :: [] ∧ e' = [(0, .slice b bs.length c), (1, .int .i64 E), (2, .slice h bh.length ch), (3, .int .i64 cut), (4, .int .i64 most)]) ?_ ?_
  · intro k' hrest
    by_cases he : each < 1 ∨ 65535 < each
    · rw [decide_eq_true he]
      repeat' (first | ((with_reducible apply T.asn); apply rfl; apply rfl) | with_reducible refine Sr.nil ?_ | with_reducible refine S.reg ?_ | ((with_reducible apply S.condT); apply rfl) | fail)
      exact hrest _ _ _ ⟨65535, by omega, by omega, rfl, rfl⟩ (by repeat' first | exact trivial | refine And.intro rfl ?_)
    · rw [decide_eq_false he]
      obtain ⟨E, rfl⟩ := Int.eq_ofNat_of_zero_le (show 0 ≤ each by omega)
      repeat' (first | with_reducible refine S.skip ?_ | ((with_reducible apply S.condF); apply rfl) | fail)
      exact hrest _ _ _ ⟨E, by omega, by omega, rfl, rfl⟩ (by repeat' first | exact trivial | refine And.intro rfl ?_)
  rintro _ _ ⟨E, hE1, hE2, rfl, rfl⟩
  repeat' (first | ((with_reducible apply T.mv); apply rfl; apply rfl) | ((with_reducible apply T.asn); apply rfl; apply rfl) | with_reducible refine Sr.nil ?_ | with_reducible refine S.seq ?_ | with_reducible refine S.block ?_ | with_reducible refine S.reg ?_ | fail)
  refine S.loopE 1 [0, 1, 2, 3, 4] (fun R b' μ H' e => ∃ (d rest all : List UInt8) (k : Nat) (la ra : Option Addr) (lc rc : Nat), H' = rw_ la lc all :: R ∧ e = (11, .slice la all.length lc) :: (12, .slice ra rest.length rc) :: b' ∧ (d ++ rest = bs ∧ Reads all d k ∧ all.length ≤ 6 * d.length ∧ rest.length ≤ rc ∧ ∀ H, Rd F [] H ra (rest.map bV)) ∧ μ = rest.length) rfl rfl ?_ _ _ ⟨[], bs, [], 0, none, b, 0, c, rfl, rfl, ⟨rfl, reads_nil, by simp, hc, hR⟩, rfl⟩ (by repeat' first | exact trivial | refine And.intro rfl ?_)
  rintro _ _ _ ⟨d, rest, all, k, la, ra, lc, rc, rfl, rfl, ⟨hdr1, hrd, hal, hrc, hRr⟩, rfl⟩ ih
  have hdl : d.length + rest.length = bs.length := by rw [← hdr1, List.length_append]
  repeat' (first | ((with_reducible apply T.notI64); apply rfl; omega; apply rfl) | ((with_reducible apply T.shr8Z); apply rfl; apply rfl) | ((with_reducible apply T.convMU8); apply rfl; apply rfl) | ((with_reducible apply T.mv); apply rfl; apply rfl) | ((with_reducible apply T.asn); apply rfl; apply rfl) | ((with_reducible apply T.len); apply rfl; apply rfl) | ((with_reducible apply T.gtr); apply rfl; apply rfl; apply rfl) | ((with_reducible apply T.sliceHK); apply rfl; apply rfl; omega; apply rfl) | ((with_reducible apply T.bs); apply rfl; apply rfl; apply rfl; apply rfl; apply rfl; apply rfl; intro nb) | ((with_reducible apply T.append); apply rfl; apply rfl; infer_instance; (first | rfl | (simp; done)); (first | rfl | (simp; done)); apply rfl; apply rfl; (constructor <;> omega); apply rfl; intro na nc) | with_reducible refine Sr.nil ?_ | with_reducible refine S.seq ?_ | with_reducible refine S.block ?_ | with_reducible refine S.reg ?_ | with_reducible refine S.skip ?_ | ((with_reducible apply S.exit); apply rfl) | ((with_reducible apply S.condQ); apply rfl; all_goals (intro _; try (exfalso; omega))) | fail)
  · have hv : [Value.int .u8 0, .int .u8 ((E : Int) % 256), .int .u8 ((E : Int) / 256 % 256), .int .u8 ((-(E : Int) - 1) % 256), .int .u8 ((-(E : Int) - 1) / 256 % 256)] = (hdr 0 E).map bV := hdr_valsS 0 hE2
    have htl : (rest.take E).length = E := by rw [List.length_take]; omega
    rw [hv, ← List.map_append]
    refine T.appendAll (g := bV) (xs := all ++ hdr 0 E) (us := rest.take E) (m := E) rfl rfl inferInstance (Rd.take1 inferInstance E) htl (fun _ => rfl) rfl (by constructor <;> omega) rfl ?_
    intro a1 c1
    have hL : all.length + 5 + E = (all ++ (hdr 0 E ++ rest.take E)).length := by simp [hdr_len]; omega
    have hD : rest.length - E = (rest.drop E).length := by simp
    have hr := reads_more (data := rest.take E) hrd (by omega)
    rw [htl] at hr
    rw [hL, List.append_assoc]
    repeat' (first | ((with_reducible apply T.mv); apply rfl; apply rfl) | ((with_reducible apply T.asn); apply rfl; apply rfl) | ((with_reducible apply T.sliceLK); apply rfl; apply rfl; omega; apply rfl) | with_reducible refine Sr.nil ?_ | with_reducible refine S.reg ?_ | with_reducible refine S.inBlock ?_ | fail)
    rw [hD]
    exact ih _ _ _ _ ⟨d ++ rest.take E, rest.drop E, all ++ (hdr 0 E ++ rest.take E), k + 1, _, _, _, rc - E, rfl, rfl, ⟨by rw [List.append_assoc, List.take_append_drop]; exact hdr1, hr, by rw [← hL, List.length_append, htl]; omega, by omega, fun H => Rd.sub1 (hRr H) (by omega)⟩, rfl⟩ (by omega) (by repeat' first | exact trivial | refine And.intro rfl ?_)
  clear ih
  have hv : [Value.int .u8 1, .int .u8 ((rest.length : Int) % 256), .int .u8 ((rest.length : Int) / 256 % 256), .int .u8 ((-(rest.length : Int) - 1) % 256), .int .u8 ((-(rest.length : Int) - 1) / 256 % 256)] = (hdr 1 rest.length).map bV := hdr_valsS 1 (by omega)
  rw [hv, ← List.map_append]
  refine T.appendAll (g := bV) (xs := all ++ hdr 1 rest.length) (us := rest) (m := rest.length) rfl rfl inferInstance inferInstance rfl (fun _ => rfl) rfl (by constructor <;> omega) rfl ?_
  intro a1 c1
  repeat' (first | ((with_reducible apply T.mv); apply rfl; apply rfl) | ((with_reducible apply T.asn); apply rfl; apply rfl) | ((with_reducible apply T.len); apply rfl; apply rfl) | with_reducible refine Sr.nil ?_ | with_reducible refine S.seq ?_ | with_reducible refine S.reg ?_ | fail)
  refine T.appendAll (g := bV) (xs := all ++ hdr 1 rest.length ++ rest) (us := bh) (m := bh.length) rfl rfl inferInstance inferInstance rfl (fun _ => rfl) rfl (by constructor <;> omega) rfl ?_
  intro a2 c2
  have he := fun m => reads_end hrd (data := rest) (by omega) bh m
  have hA : all ++ hdr 1 rest.length ++ rest ++ bh = all ++ (hdr 1 rest.length ++ rest) ++ bh := by simp
  have hlen : all.length + 5 + rest.length + bh.length = (all ++ (hdr 1 rest.length ++ rest) ++ bh).length := by simp [hdr_len]; omega
  rw [hA, hlen]
  rw [hdr1, hdl] at he
  have hsz : all.length + 5 + rest.length ≤ 6 * bs.length + 5 := by omega
  generalize all ++ (hdr 1 rest.length ++ rest) ++ bh = zs at *
  generalize all.length + 5 + rest.length = size at *
  have hcut := fun c => infl_cut (b := zs) (c := c) (most := 1048576)
  have hbig := he 1048576
  rw [if_pos (by omega)] at hbig
  rw [hbig] at hcut
  clear hv hA hrd hal hdl hrc hRr hdr1
  repeat' (first | ((with_reducible apply T.mv); apply rfl; apply rfl) | ((with_reducible apply T.asn); apply rfl; apply rfl) | with_reducible refine Sr.nil ?_ | with_reducible refine S.seq ?_ | with_reducible refine S.reg ?_ | fail)
  refine Sr.capR (ad := a2) inferInstance fun hcap => ?_
  refine T.call rfl rfl (inflate_spec (bs := zs) (most := 1048576) (by omega)) ?_
  rintro _ _ ⟨xa, xc, rfl, rfl⟩
  rw [most_bigT, hbig]
  dsimp only
  repeat' (first | ((with_reducible apply T.mv); apply rfl; apply rfl) | ((with_reducible apply T.asn); apply rfl; apply rfl) | ((with_reducible apply T.len); apply rfl; apply rfl) | ((with_reducible apply T.gtr); apply rfl; apply rfl; apply rfl) | ((with_reducible apply T.neq); apply rfl; apply rfl; apply rfl) | ((with_reducible apply T.extract); apply rfl; apply rfl; apply rfl) | ((with_reducible apply T.pickF); apply rfl; apply rfl; apply rfl) | with_reducible refine Sr.nil ?_ | with_reducible refine S.seq ?_ | with_reducible refine S.reg ?_ | with_reducible refine S.skip ?_ | ((with_reducible apply T.ung); apply rfl) | (with_reducible apply T.ofRet) | ((with_reducible apply S.condQ); apply rfl; all_goals (intro _; try (exfalso; omega))) | ((with_reducible apply T.gcase); apply rfl; apply rfl; all_goals (intro _; try (exfalso; omega))) | fail)
  refine T.call rfl rfl (same_eq inferInstance inferInstance (by omega)) ?_
  rintro _ _ ⟨rfl, rfl⟩
  repeat' (first | ((with_reducible apply T.notB); apply rfl; apply rfl) | ((with_reducible apply T.pickF); apply rfl; apply rfl; apply rfl) | with_reducible refine Sr.nil ?_ | with_reducible refine S.skip ?_ | ((with_reducible apply T.ung); apply rfl) | ((with_reducible apply S.condF); apply rfl) | (with_reducible apply T.ofRet) | fail)
  refine S.seq ?_
  skip
  refine S.seq ?_
  refine S.cut (fun H' e' => H' = rw_ xa xc bs :: rw_ a2 c2 zs :: [] ∧ e' = [(124, .bool (decide (0 ≤ cut ∧ cut < size))), (0, .slice b bs.length c), (3, .int .i64 cut), (4, .int .i64 most), (11, .slice a2 zs.length c2)]) ?_ ?_
  · intro k' hrest
    repeat' (first | ((with_reducible apply T.mv); apply rfl; apply rfl) | ((with_reducible apply T.lss); apply rfl; apply rfl; apply rfl) | ((with_reducible apply T.geq); apply rfl; apply rfl; apply rfl) | ((with_reducible apply T.pickT); apply rfl; apply rfl; apply rfl) | ((with_reducible apply T.pickF); apply rfl; apply rfl; apply rfl) | with_reducible refine Sr.nil ?_ | with_reducible refine S.reg ?_ | ((with_reducible apply T.ung); apply rfl) | ((with_reducible apply T.skip); apply rfl; apply rfl; apply rfl) | ((with_reducible apply T.gcase); apply rfl; apply rfl; all_goals (intro _; try (exfalso; omega))) | fail)
    · rename_i h1
      refine hrest _ _ _ ⟨rfl, rfl⟩ ?_
      rw [show (decide (0 ≤ cut ∧ cut < size)) = decide (cut < size) from decide_eq_decide.2 (by omega)]
      exact (by repeat' first | exact trivial | refine And.intro rfl ?_)
    · exact hrest _ _ _ ⟨rfl, rfl⟩ (by rw [decide_eq_false (by omega)]; exact (by repeat' first | exact trivial | refine And.intro rfl ?_))
  rintro _ _ ⟨rfl, rfl⟩
  refine S.cut (fun H' e' => H' = rw_ a2 c2 zs :: [] ∧ e' = [(0, .slice b bs.length c), (4, .int .i64 most), (11, .slice a2 zs.length c2)]) ?_ ?_
  · intro k' hrest
    by_cases hct : 0 ≤ cut ∧ cut < size
    · rw [decide_eq_true hct]
      obtain ⟨n, rfl⟩ := Int.eq_ofNat_of_zero_le hct.1
      have h3 := hcut n rfl (by simp only; omega)
      have hnl : n = (zs.take n).length := by rw [List.length_take]; omega
      have hTR : ∀ H, Rd F [] H a2 (zs.map bV) → Rd F [] H a2 ((zs.take n).map bV) := fun H h => Rd.take1 h n
      obtain ⟨ys, hys⟩ : ∃ ys, ys = zs.take n := ⟨_, rfl⟩
      rw [← hys] at h3 hnl hTR
      clear hys
      subst hnl
      repeat' (first | ((with_reducible apply T.mv); apply rfl; apply rfl) | ((with_reducible apply T.sliceHK); apply rfl; apply rfl; omega; apply rfl) | with_reducible refine S.seq ?_ | with_reducible refine S.reg ?_ | ((with_reducible apply S.condT); apply rfl) | fail)
      refine T.call rfl rfl (inflate_spec (hR := hTR _ inferInstance) (most := 1048576) (by omega)) ?_
      rintro _ _ ⟨ua, uc, rfl, rfl⟩
      rw [most_bigT, h3]
      dsimp only
      repeat' (first | ((with_reducible apply T.mv); apply rfl; apply rfl) | ((with_reducible apply T.asn); apply rfl; apply rfl) | ((with_reducible apply T.neq); apply rfl; apply rfl; apply rfl) | ((with_reducible apply T.extract); apply rfl; apply rfl; apply rfl) | with_reducible refine Sr.nil ?_ | with_reducible refine S.seq ?_ | with_reducible refine S.reg ?_ | with_reducible refine S.skip ?_ | ((with_reducible apply S.condF); apply rfl) | (with_reducible apply T.ofRet) | fail)
      exact S.sublist (hrest _ _ _ ⟨rfl, rfl⟩ (by repeat' first | exact trivial | refine And.intro rfl ?_)) (by ((repeat (first | dsimp only [List.set_cons_zero] | dsimp only [List.set_cons_succ])); repeat' first | exact PSub.refl _ | exact PSub.nil | ((with_reducible apply PSub.take); (repeat' first | (with_reducible exact pick_hd) | (with_reducible apply pick_tl))) | (with_reducible apply PSub.drop) | ((apply PSub.take); (repeat' first | exact pick_hd | (apply pick_tl)))))
    · rw [decide_eq_false hct]
      repeat' (first | with_reducible refine S.skip ?_ | ((with_reducible apply S.condF); apply rfl) | fail)
      exact S.sublist (hrest _ _ _ ⟨rfl, rfl⟩ (by repeat' first | exact trivial | refine And.intro rfl ?_)) (by ((repeat (first | dsimp only [List.set_cons_zero] | dsimp only [List.set_cons_succ])); repeat' first | exact PSub.refl _ | exact PSub.nil | ((with_reducible apply PSub.take); (repeat' first | (with_reducible exact pick_hd) | (with_reducible apply pick_tl))) | (with_reducible apply PSub.drop) | ((apply PSub.take); (repeat' first | exact pick_hd | (apply pick_tl)))))
  rintro _ _ ⟨rfl, rfl⟩
  repeat' (first | ((with_reducible apply T.mv); apply rfl; apply rfl) | with_reducible refine S.seq ?_ | with_reducible refine S.reg ?_ | fail)
  refine T.call rfl rfl (inflate_spec (bs := zs) (most := most) (by omega)) ?_
  rintro _ _ ⟨ya, yc, rfl, rfl⟩
  have hmost := he (mostN most)
  have hmN : mostN most ≤ 1048576 := mostN_le most
  rcases Nat.lt_or_ge (mostN most) bs.length with hc1 | hc1
  · have h3 : most < bs.length ∧ 0 < bs.length := by unfold mostN at hc1; omega
    rw [if_neg (by omega)] at hmost
    rw [hmost]
    dsimp only
    repeat' (first | ((with_reducible apply T.mv); apply rfl; apply rfl) | ((with_reducible apply T.asn); apply rfl; apply rfl) | ((with_reducible apply T.len); apply rfl; apply rfl) | ((with_reducible apply T.lss); apply rfl; apply rfl; apply rfl) | ((with_reducible apply T.gtr); apply rfl; apply rfl; apply rfl) | ((with_reducible apply T.eql); apply rfl; apply rfl; apply rfl) | ((with_reducible apply T.extract); apply rfl; apply rfl; apply rfl) | ((with_reducible apply T.pickT); apply rfl; apply rfl; apply rfl) | with_reducible refine Sr.nil ?_ | with_reducible refine S.seq ?_ | with_reducible refine S.reg ?_ | ((with_reducible apply T.ung); apply rfl) | ((with_reducible apply T.retW); apply rfl) | (with_reducible apply T.ofRet) | ((with_reducible apply S.condQ); apply rfl; all_goals (intro _; try (exfalso; omega))) | ((with_reducible apply T.gcase); apply rfl; apply rfl; all_goals (intro _; try (exfalso; omega))) | fail)
    exact ⟨[], PSub.nil, by simp⟩
  · have h3 : (bs.length : Int) ≤ most ∨ bs.length = 0 := by unfold mostN at hc1; omega
    rw [if_pos hc1] at hmost
    rw [hmost]
    dsimp only
    repeat' (first | ((with_reducible apply T.mv); apply rfl; apply rfl) | ((with_reducible apply T.asn); apply rfl; apply rfl) | ((with_reducible apply T.len); apply rfl; apply rfl) | ((with_reducible apply T.lss); apply rfl; apply rfl; apply rfl) | ((with_reducible apply T.gtr); apply rfl; apply rfl; apply rfl) | ((with_reducible apply T.eql); apply rfl; apply rfl; apply rfl) | ((with_reducible apply T.extract); apply rfl; apply rfl; apply rfl) | ((with_reducible apply T.pickT); apply rfl; apply rfl; apply rfl) | ((with_reducible apply T.pickF); apply rfl; apply rfl; apply rfl) | with_reducible refine Sr.nil ?_ | with_reducible refine S.seq ?_ | with_reducible refine S.reg ?_ | with_reducible refine S.skip ?_ | ((with_reducible apply T.ung); apply rfl) | ((with_reducible apply T.skip); apply rfl; apply rfl; apply rfl) | ((with_reducible apply S.condF); apply rfl) | (with_reducible apply T.ofRet) | ((with_reducible apply S.condQ); apply rfl; all_goals (intro _; try (exfalso; omega))) | ((with_reducible apply T.gcase); apply rfl; apply rfl; all_goals (intro _; try (exfalso; omega))) | fail)
    all_goals
      refine T.call rfl rfl (same_eq inferInstance inferInstance (by omega)) ?_
      rintro _ _ ⟨rfl, rfl⟩
      repeat' (first | ((with_reducible apply T.asn); apply rfl; apply rfl) | ((with_reducible apply T.pickT); apply rfl; apply rfl; apply rfl) | with_reducible refine Sr.nil ?_ | ((with_reducible apply T.retW); apply rfl) | (with_reducible apply T.ofRet) | fail)
      exact ⟨[], PSub.nil, by simp⟩
end Go.Proofs.YtjhpbljkpbdnnaaDoor
