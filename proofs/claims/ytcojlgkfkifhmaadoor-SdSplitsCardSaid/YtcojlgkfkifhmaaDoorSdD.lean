/- The law of Split: walked. -/
import Derived.Test.YtcojlgkfkifhmaaDoorSdC
/- words -/
/- maps -/
namespace Go.Proofs.YtcojlgkfkifhmaaDoor
open Sg Go.IntWalk
set_option maxRecDepth 100000
set_option maxHeartbeats 4000000
theorem same_self {F : World} {M : List Nat} {H : List Res} {a b : Option Addr} {ca cb : Nat} {xs : List (List UInt8)} (ha : Rd F M H a (xs.map sV)) (hb : Rd F M H b (xs.map sV)) (hn : xs.length ≤ 140737488355328) :
    Meets Tryd.prog 6 [.slice a xs.length ca, .slice b xs.length cb] F M H (fun e H' => e = .returned (.bool true) ∧ H = H') := by
  refine Meets.enter Tryd.func6 rfl rfl ?_
  repeat' (first | ((with_reducible apply T.mv); apply rfl; apply rfl) | ((with_reducible apply T.asn); apply rfl; apply rfl) | ((with_reducible apply T.len); apply rfl; apply rfl) | ((with_reducible apply T.neq); apply rfl; apply rfl; apply rfl) | with_reducible refine Sr.nil ?_ | with_reducible refine S.seq ?_ | with_reducible refine S.block ?_ | with_reducible refine S.reg ?_ | with_reducible refine S.skip ?_ | ((with_reducible apply S.condQ); apply rfl; all_goals (intro _; try (exfalso; omega))) | fail)
  refine S.loopE 0 [0, 1] (fun R b' μ H' e => ∃ i : Nat, H' = R ∧ e = (5, .int .i64 i) :: b' ∧ i ≤ xs.length ∧ μ = xs.length - i) rfl rfl ?_ _ _ ⟨0, rfl, rfl, by omega, rfl⟩ (by repeat' first | exact trivial | refine And.intro rfl ?_)
  rintro _ _ _ ⟨i, rfl, rfl, hi, rfl⟩ ih
  by_cases h1 : i < xs.length
  · repeat' (first | ((with_reducible apply T.sneqR); apply rfl; apply rfl; apply rfl) | ((with_reducible apply T.loadS); apply rfl; infer_instance; (first | omega | (simp only [List.length_map]; omega)); apply rfl) | ((with_reducible apply T.mv); apply rfl; apply rfl) | ((with_reducible apply T.asn); apply rfl; apply rfl) | ((with_reducible apply T.len); apply rfl; apply rfl) | ((with_reducible apply T.lss); apply rfl; apply rfl; apply rfl) | ((with_reducible apply T.addI); apply rfl; apply rfl; omega; apply rfl) | ((with_reducible apply T.ixN); apply rfl; apply rfl; infer_instance; omega; (first | omega | (simp only [List.length_map]; omega) | (simp; omega)); apply rfl) | with_reducible refine Sr.nil ?_ | with_reducible refine S.seq ?_ | with_reducible refine S.block ?_ | with_reducible refine S.reg ?_ | with_reducible refine S.skip ?_ | with_reducible refine S.inBlock ?_ | ((with_reducible apply S.quiet); apply rfl; kernel_rfl) | ((with_reducible apply S.condF); apply rfl) | ((with_reducible apply S.condQ); apply rfl; all_goals (intro _; try (exfalso; omega))) | fail)
    exact ih _ _ _ _ ⟨i + 1, rfl, rfl, by omega, rfl⟩ (by omega) (by repeat' first | exact trivial | refine And.intro rfl ?_)
  · repeat' (first | ((with_reducible apply T.mv); apply rfl; apply rfl) | ((with_reducible apply T.asn); apply rfl; apply rfl) | ((with_reducible apply T.len); apply rfl; apply rfl) | ((with_reducible apply T.lss); apply rfl; apply rfl; apply rfl) | with_reducible refine Sr.nil ?_ | with_reducible refine S.seq ?_ | with_reducible refine S.reg ?_ | ((with_reducible apply S.exit); apply rfl) | ((with_reducible apply T.retW); apply rfl) | ((with_reducible apply S.condQ); apply rfl; all_goals (intro _; try (exfalso; omega))) | fail)
    exact ⟨_, PSub.refl _, rfl, rfl⟩
def spoilt : List UInt8 := [115, 112, 111, 105, 108, 116]
def moreT : List UInt8 := [109, 111, 114, 101]
/-- The parts put together again. -/
theorem joined {bs hd : List UInt8} {tl : List (List UInt8)} (h : splitA bs = (hd, tl, 0)) : (hd ++ [126]) ++ tl.flatMap (· ++ [126]) = bs ∧ tl.length ≤ 262144 := by
  unfold splitA at h
  split at h
  · simp at h
  · rename_i hlen
    split at h
    · rename_i hs
      obtain ⟨r, rfl⟩ := (suffix_one 126 bs).1 hs.1
      rw [List.dropLast_concat] at h
      simp only [Prod.mk.injEq, and_true] at h
      have hj := pieces_join 126 r
      have hl := pieces_len 126 r
      rw [← pieces_cons 126 r, h.1, h.2] at hj hl
      rw [List.flatMap_cons] at hj
      rw [List.length_append, List.length_singleton] at hlen
      rw [List.length_cons] at hl
      exact ⟨hj, by omega⟩
    · simp at h
theorem splits_walk {F : World} {bs : List UInt8} (hT : Tabs F []) (hm : MaxL F []) (hn : bs.length ≤ 140737488351232) :
    Meets Tryd.prog 3 [sV bs] F [] [] (fun e _ => e = .returned (.bool true)) := by
  refine Meets.enter Tryd.func3 rfl rfl ?_
  have hj := fun hd tl => joined (bs := bs) (hd := hd) (tl := tl)
  have hsp : ∀ {H : List Res}, Meets Tryd.prog 4 [sV bs] F [] H (fun e H' => ∃ ad cp, e = .returned (.tuple ⟨[sV (splitA bs).1, .slice ad (splitA bs).2.1.length cp, .int .i64 (splitA bs).2.2]⟩) ∧ H' = .row ad cp 9 1 (splitA bs).2.1.length ((splitA bs).2.1.map sV) :: H) := split_spec hm (by omega)
  have hrs : ∀ {H : List Res}, Meets Tryd.prog 5 [sV bs] F [] H (fun e H' => ∃ ad cp, e = .returned (.tuple ⟨[sV (splitA bs).1, .slice ad (splitA bs).2.1.length cp, .int .i64 (splitA bs).2.2]⟩) ∧ H' = .row ad cp 9 1 (splitA bs).2.1.length ((splitA bs).2.1.map sV) :: H) := refSplit_spec (by omega)
  have hcase : splitA bs = ([], [], 10) ∨ splitA bs = ([], [], 200) ∨ ∃ hd tl, splitA bs = (hd, tl, 0) := by
    unfold splitA
    split
    · exact .inl rfl
    · split
      · exact .inr (.inr ⟨_, _, rfl⟩)
      · exact .inr (.inl rfl)
  have hll : (splitA bs).2.1.length ≤ 262144 := by
    rcases hcase with h | h | ⟨hd, tl, h⟩
    · rw [h]; decide
    · rw [h]; decide
    · have := (hj hd tl h).2
      rw [h]
      exact this
  obtain ⟨t, l, er, hA⟩ : ∃ t l er, splitA bs = (t, l, er) := ⟨_, _, _, rfl⟩
  rw [hA] at hsp hrs hll hcase
  dsimp only at hsp hrs hll
  repeat' (first | ((with_reducible apply T.mv); apply rfl; apply rfl) | ((with_reducible apply T.asn); apply rfl; apply rfl) | with_reducible refine Sr.nil ?_ | with_reducible refine S.seq ?_ | with_reducible refine S.reg ?_ | fail)
  refine T.call rfl rfl hsp ?_
  rintro _ _ ⟨a1, c1, rfl, rfl⟩
  repeat' (first | ((with_reducible apply T.mv); apply rfl; apply rfl) | ((with_reducible apply T.asn); apply rfl; apply rfl) | ((with_reducible apply T.extract); apply rfl; apply rfl; apply rfl) | with_reducible refine Sr.nil ?_ | with_reducible refine S.seq ?_ | with_reducible refine S.reg ?_ | (with_reducible apply T.ofRet) | fail)
  refine T.call rfl rfl hrs ?_
  rintro _ _ ⟨a2, c2, rfl, rfl⟩
  repeat' (first | ((with_reducible apply T.sneqR); apply rfl; apply rfl; apply rfl) | ((with_reducible apply T.mv); apply rfl; apply rfl) | ((with_reducible apply T.asn); apply rfl; apply rfl) | ((with_reducible apply T.extract); apply rfl; apply rfl; apply rfl) | with_reducible refine Sr.nil ?_ | with_reducible refine S.seq ?_ | with_reducible refine S.reg ?_ | ((with_reducible apply T.ung); apply rfl) | (with_reducible apply T.ofRet) | fail)
  refine T.call rfl rfl (same_self inferInstance inferInstance (by omega)) ?_
  rintro _ _ ⟨rfl, rfl⟩
  repeat' (first | ((with_reducible apply T.neqR); apply rfl; apply rfl; apply rfl) | ((with_reducible apply T.mv); apply rfl; apply rfl) | ((with_reducible apply T.notB); apply rfl; apply rfl) | ((with_reducible apply T.pickF); apply rfl; apply rfl; apply rfl) | ((with_reducible apply T.ung); apply rfl) | (with_reducible apply T.ofRet) | fail)
  refine T.call rfl rfl (digest_spec hT (by omega)) ?_
  rintro _ _ ⟨rfl, hH⟩
  have hH' := hH.symm
  subst hH'
  repeat' (first | ((with_reducible apply T.mv); apply rfl; apply rfl) | ((with_reducible apply T.ung); apply rfl) | (with_reducible apply T.ofRet) | fail)
  refine T.call rfl rfl (refDigest_spec hT (by omega)) ?_
  rintro _ _ ⟨rfl, hH⟩
  have hH' := hH.symm
  subst hH'
  rcases hcase with h | h | ⟨hd, tl, h⟩
  · simp only [Prod.mk.injEq] at h
    obtain ⟨rfl, rfl, rfl⟩ := h
    repeat' (first | ((with_reducible apply T.sneqR); apply rfl; apply rfl; apply rfl) | ((with_reducible apply T.seql); apply rfl; apply rfl; apply rfl) | ((with_reducible apply T.mv); apply rfl; apply rfl) | ((with_reducible apply T.asn); apply rfl; apply rfl) | ((with_reducible apply T.len); apply rfl; apply rfl) | ((with_reducible apply T.eql); apply rfl; apply rfl; apply rfl) | ((with_reducible apply T.neq); apply rfl; apply rfl; apply rfl) | ((with_reducible apply T.pickT); apply rfl; apply rfl; apply rfl) | ((with_reducible apply T.pickF); apply rfl; apply rfl; apply rfl) | with_reducible refine Sr.nil ?_ | with_reducible refine S.seq ?_ | with_reducible refine S.reg ?_ | with_reducible refine S.skip ?_ | ((with_reducible apply T.ung); apply rfl) | ((with_reducible apply S.condT); apply rfl) | ((with_reducible apply S.condF); apply rfl) | ((with_reducible apply T.retW); apply rfl) | (with_reducible apply T.ofRet) | fail)
    exact ⟨_, PSub.refl _, rfl⟩
  · simp only [Prod.mk.injEq] at h
    obtain ⟨rfl, rfl, rfl⟩ := h
    repeat' (first | ((with_reducible apply T.sneqR); apply rfl; apply rfl; apply rfl) | ((with_reducible apply T.seql); apply rfl; apply rfl; apply rfl) | ((with_reducible apply T.mv); apply rfl; apply rfl) | ((with_reducible apply T.asn); apply rfl; apply rfl) | ((with_reducible apply T.len); apply rfl; apply rfl) | ((with_reducible apply T.eql); apply rfl; apply rfl; apply rfl) | ((with_reducible apply T.neq); apply rfl; apply rfl; apply rfl) | ((with_reducible apply T.pickT); apply rfl; apply rfl; apply rfl) | ((with_reducible apply T.pickF); apply rfl; apply rfl; apply rfl) | with_reducible refine Sr.nil ?_ | with_reducible refine S.seq ?_ | with_reducible refine S.reg ?_ | with_reducible refine S.skip ?_ | ((with_reducible apply T.ung); apply rfl) | ((with_reducible apply S.condT); apply rfl) | ((with_reducible apply S.condF); apply rfl) | ((with_reducible apply T.retW); apply rfl) | (with_reducible apply T.ofRet) | fail)
    exact ⟨_, PSub.refl _, rfl⟩
  · simp only [Prod.mk.injEq] at h
    obtain ⟨rfl, rfl, rfl⟩ := h
    obtain ⟨hjn, -⟩ := hj _ _ hA
    repeat' (first | ((with_reducible apply T.sneqR); apply rfl; apply rfl; apply rfl) | ((with_reducible apply T.mv); apply rfl; apply rfl) | ((with_reducible apply T.neq); apply rfl; apply rfl; apply rfl) | ((with_reducible apply T.pickF); apply rfl; apply rfl; apply rfl) | with_reducible refine Sr.nil ?_ | with_reducible refine S.seq ?_ | with_reducible refine S.reg ?_ | with_reducible refine S.skip ?_ | ((with_reducible apply T.ung); apply rfl) | ((with_reducible apply S.condF); apply rfl) | (with_reducible apply T.ofRet) | fail)
    refine T.call rfl rfl hsp ?_
    rintro _ _ ⟨a3, c3, rfl, rfl⟩
    have hjl : ∀ i, ((t ++ [126]) ++ (l.take i).flatMap (· ++ [126])).length ≤ bs.length := fun i => by
      conv => rhs; rw [← hjn, ← List.take_append_drop i l, List.flatMap_append, ← List.append_assoc, List.length_append]
      omega
    have hjl0 : t.length + 1 ≤ bs.length := by
      have := hjl 0
      rw [List.take_zero, List.flatMap_nil, List.append_nil, List.length_append] at this
      exact this
    repeat' (first | ((with_reducible apply T.sadd); apply rfl; apply rfl; (first | omega | (simp only [List.length_cons, List.length_nil]; omega)); apply rfl) | ((with_reducible apply T.mv); apply rfl; apply rfl) | ((with_reducible apply T.asn); apply rfl; apply rfl) | ((with_reducible apply T.extract); apply rfl; apply rfl; apply rfl) | with_reducible refine Sr.nil ?_ | with_reducible refine S.seq ?_ | with_reducible refine S.block ?_ | with_reducible refine S.reg ?_ | (with_reducible apply T.ofRet) | fail)
    refine S.frontR a1 ?_
    refine S.loopE 1 [0, 4, 7, 10] (fun R b' μ H' e => ∃ (i : Nat) (w : List UInt8) (xs : List (List UInt8)), H' = .row a1 c1 9 1 l.length (xs.map sV) :: R ∧ e = (12, sV w) :: (13, .int .i64 i) :: b' ∧ w = (t ++ [126]) ++ (l.take i).flatMap (· ++ [126]) ∧ xs = List.replicate i spoilt ++ l.drop i ∧ i ≤ l.length ∧ μ = l.length - i) rfl rfl ?_ _ _ ⟨0, _, l, rfl, rfl, by rw [List.take_zero, List.flatMap_nil, List.append_nil], rfl, by omega, rfl⟩ (by repeat' first | exact trivial | refine And.intro rfl ?_)
    rintro _ _ _ ⟨i, w, xs, rfl, rfl, hw, hxs, hi, rfl⟩ ih
    have hxl : xs.length = l.length := by rw [hxs, List.length_append, List.length_replicate, List.length_drop]; omega
    have hwl := hjl i
    rw [← hw] at hwl
    by_cases h1 : i < l.length
    · have hg : xs.getD i [] = l.getD i [] := by
        rw [hxs, List.getD, List.getElem?_append_right (by simp), List.length_replicate, Nat.sub_self, List.getElem?_drop, Nat.add_zero]
        rfl
      have hwn : w ++ l.getD i [] ++ [126] = (t ++ [126]) ++ (l.take (i + 1)).flatMap (· ++ [126]) := by
        rw [hw, List.take_succ_eq_append_getElem h1, List.flatMap_append]
        simp [List.getD, h1]
      have hwl2 : w.length + (xs.getD i []).length + 1 ≤ bs.length := by
        have := hjl (i + 1)
        rw [← hwn, List.length_append, List.length_append, List.length_singleton] at this
        rw [hg]
        exact this
      have hset : (xs.map sV).set i (sV spoilt) = (List.replicate (i + 1) spoilt ++ l.drop (i + 1)).map sV := by
        rw [← List.map_set, hxs, List.set_append_right _ _ (by simp), List.length_replicate, Nat.sub_self, List.replicate_succ', List.append_assoc]
        congr 2
        obtain ⟨x, r, hxr⟩ : ∃ x r, l.drop i = x :: r := by
          cases h : l.drop i with
          | nil => have := congrArg List.length h; rw [List.length_drop, List.length_nil] at this; omega
          | cons x r => exact ⟨x, r, rfl⟩
        have hr : l.drop (i + 1) = r := by rw [← List.drop_drop, hxr]; rfl
        rw [hxr, hr]
        rfl
      repeat' (first | ((with_reducible apply T.sadd); apply rfl; apply rfl; (first | omega | (simp only [List.length_append, List.length_cons, List.length_nil]; omega)); apply rfl) | ((with_reducible apply T.loadS); apply rfl; infer_instance; (first | omega | (simp only [List.length_map]; omega)); apply rfl) | ((with_reducible apply T.mv); apply rfl; apply rfl) | ((with_reducible apply T.asn); apply rfl; apply rfl) | ((with_reducible apply T.len); apply rfl; apply rfl) | ((with_reducible apply T.lss); apply rfl; apply rfl; apply rfl) | ((with_reducible apply T.addI); apply rfl; apply rfl; omega; apply rfl) | ((with_reducible apply T.ixN); apply rfl; apply rfl; infer_instance; omega; (first | omega | (simp only [List.length_map]; omega) | (simp; omega)); apply rfl) | ((with_reducible apply T.storeE); apply rfl; apply rfl; infer_instance; (first | omega | (simp only [List.length_map]; omega) | (simp; omega)); apply rfl) | with_reducible refine Sr.nil ?_ | with_reducible refine S.seq ?_ | with_reducible refine S.block ?_ | with_reducible refine S.reg ?_ | with_reducible refine S.skip ?_ | with_reducible refine S.inBlock ?_ | ((with_reducible apply S.condQ); apply rfl; all_goals (intro _; try (exfalso; omega))) | fail)
      rw [show Value.string { data := #[115, 112, 111, 105, 108, 116] } = sV spoilt from rfl, hset, hg, hwn]
      exact ih _ _ _ _ ⟨i + 1, _, _, rfl, rfl, rfl, rfl, by omega, rfl⟩ (by omega) (by repeat' first | exact trivial | refine And.intro rfl ?_)
    · obtain rfl : i = l.length := by omega
      rw [List.take_length, hjn] at hw
      rw [List.drop_length, List.append_nil] at hxs
      subst hw
      subst hxs
      clear ih
      repeat' (first | ((with_reducible apply T.mv); apply rfl; apply rfl) | ((with_reducible apply T.asn); apply rfl; apply rfl) | ((with_reducible apply T.len); apply rfl; apply rfl) | ((with_reducible apply T.lss); apply rfl; apply rfl; apply rfl) | with_reducible refine Sr.nil ?_ | with_reducible refine S.seq ?_ | with_reducible refine S.block ?_ | with_reducible refine S.reg ?_ | ((with_reducible apply S.exit); apply rfl) | ((with_reducible apply S.condQ); apply rfl; all_goals (intro _; try (exfalso; omega))) | fail)
      clear hjl hjl0 hwl hxl hjn hj
      have hS0 : (List.replicate l.length spoilt).length = l.length := List.length_replicate ..
      refine S.loopE 1 [0, 4, 7, 10, 12] (fun R b' μ H' e => ∃ (j : Nat) (ad : Option Addr) (cp : Nat) (X : List Res) (zs : List (List UInt8)), H' = .row ad cp 9 1 (l.length + j) (zs.map sV) :: (X ++ R) ∧ e = (14, .slice ad (l.length + j) cp) :: (15, .int .i64 j) :: b' ∧ zs = List.replicate l.length spoilt ++ List.replicate j moreT ∧
        (ad = a1 ∨ Rd F [] (X ++ [.row a3 c3 9 1 l.length (l.map sV), .row a2 c2 9 1 l.length (l.map sV)]) a1 ((List.replicate l.length spoilt).map sV)) ∧ j ≤ 70 ∧ μ = 70 - j) rfl rfl ?_ _ _ ⟨0, a1, c1, [], List.replicate l.length spoilt, rfl, rfl, by rw [List.replicate_zero, List.append_nil], .inl rfl, by omega, rfl⟩ (by repeat' first | exact trivial | refine And.intro rfl ?_)
      rintro _ _ _ ⟨j, ad, cp, X, zs, rfl, rfl, hzs, hor, hj, rfl⟩ ih
      have hzl : zs.length = l.length + j := by rw [hzs, List.length_append, List.length_replicate, List.length_replicate]
      have htk : (zs.map sV).take l.length = (List.replicate l.length spoilt).map sV := by
        rw [hzs, List.map_append, List.take_append_of_le_length (by simp), List.take_of_length_le (by simp)]
      by_cases h2 : j < 70
      · repeat' (first | ((with_reducible apply T.appendK1); apply rfl; apply rfl; apply rfl; apply rfl; (constructor <;> omega); apply rfl; intro na nc Y hY) | ((with_reducible apply T.mv); apply rfl; apply rfl) | ((with_reducible apply T.asn); apply rfl; apply rfl) | ((with_reducible apply T.lss); apply rfl; apply rfl; apply rfl) | ((with_reducible apply T.addI); apply rfl; apply rfl; omega; apply rfl) | ((with_reducible apply T.bs); apply rfl; apply rfl; apply rfl; apply rfl; apply rfl; apply rfl; intro nb) | with_reducible refine Sr.nil ?_ | with_reducible refine S.seq ?_ | with_reducible refine S.block ?_ | with_reducible refine S.reg ?_ | with_reducible refine S.skip ?_ | with_reducible refine S.inBlock ?_ | ((with_reducible apply S.condQ); apply rfl; all_goals (intro _; try (exfalso; omega))) | fail)
        have hz2 : zs.map sV ++ [sV moreT] = (zs ++ [moreT]).map sV := by rw [List.map_append]; rfl
        have hz3 : zs ++ [moreT] = List.replicate l.length spoilt ++ List.replicate (j + 1) moreT := by rw [hzs, List.replicate_succ', List.append_assoc]
        rw [show Value.string { data := #[109, 111, 114, 101] } = sV moreT from rfl, hz2, ← List.append_assoc]
        refine ih _ _ _ _ ⟨j + 1, na, nc, Y ++ X, zs ++ [moreT], rfl, rfl, hz3, ?_, by omega, rfl⟩ (by omega) (by repeat' first | exact trivial | refine And.intro rfl ?_)
        rcases hY with ⟨rfl, rfl⟩ | rfl
        · exact hor
        · right
          rcases hor with rfl | hor
          · have h1 : Rd F [] (.row ad cp 9 1 (l.length + j) (zs.map sV) :: (X ++ [.row a3 c3 9 1 l.length (l.map sV), .row a2 c2 9 1 l.length (l.map sV)])) ad (zs.map sV) := Rd.row
            have h2 := h1.take l.length
            rw [htk] at h2
            exact h2
          · show Rd F [] (.row ad cp 9 1 (l.length + j) (zs.map sV) :: (X ++ [.row a3 c3 9 1 l.length (l.map sV), .row a2 c2 9 1 l.length (l.map sV)])) a1 _
            exact Rd.tl
      · obtain rfl : j = 70 := by omega
        clear ih
        have hRl : Rd F [] (.row ad cp 9 1 (l.length + 70) (zs.map sV) :: (X ++ [.row a3 c3 9 1 l.length (l.map sV), .row a2 c2 9 1 l.length (l.map sV)])) a1 ((List.replicate l.length spoilt).map sV) := by
          rcases hor with rfl | hor
          · have h1 : Rd F [] (.row ad cp 9 1 (l.length + 70) (zs.map sV) :: (X ++ [.row a3 c3 9 1 l.length (l.map sV), .row a2 c2 9 1 l.length (l.map sV)])) ad (zs.map sV) := Rd.row
            have h2 := h1.take l.length
            rw [htk] at h2
            exact h2
          · exact Rd.tl
        have hR2 : Rd F [] (X ++ [.row a3 c3 9 1 l.length (l.map sV), .row a2 c2 9 1 l.length (l.map sV)]) a2 (l.map sV) := Rd.app inferInstance X
        have hR3 : Rd F [] (X ++ [.row a3 c3 9 1 l.length (l.map sV), .row a2 c2 9 1 l.length (l.map sV)]) a3 (l.map sV) := Rd.app inferInstance X
        clear hor htk
        generalize X ++ [Res.row a3 c3 9 1 l.length (l.map sV), Res.row a2 c2 9 1 l.length (l.map sV)] = Z at *
        repeat' (first | ((with_reducible apply T.mv); apply rfl; apply rfl) | ((with_reducible apply T.lss); apply rfl; apply rfl; apply rfl) | with_reducible refine Sr.nil ?_ | with_reducible refine S.seq ?_ | with_reducible refine S.reg ?_ | ((with_reducible apply S.exit); apply rfl) | ((with_reducible apply S.condF); apply rfl) | fail)
        refine T.call rfl rfl hsp ?_
        rintro _ _ ⟨a5, c5, rfl, rfl⟩
        repeat' (first | ((with_reducible apply T.sneqR); apply rfl; apply rfl; apply rfl) | ((with_reducible apply T.neqR); apply rfl; apply rfl; apply rfl) | ((with_reducible apply T.mv); apply rfl; apply rfl) | ((with_reducible apply T.asn); apply rfl; apply rfl) | ((with_reducible apply T.extract); apply rfl; apply rfl; apply rfl) | ((with_reducible apply T.pickF); apply rfl; apply rfl; apply rfl) | with_reducible refine Sr.nil ?_ | with_reducible refine S.seq ?_ | with_reducible refine S.reg ?_ | ((with_reducible apply T.ung); apply rfl) | (with_reducible apply T.ofRet) | fail)
        refine T.call rfl rfl (same_self inferInstance inferInstance (by omega)) ?_
        rintro _ _ ⟨rfl, rfl⟩
        repeat' (first | ((with_reducible apply T.mv); apply rfl; apply rfl) | ((with_reducible apply T.notB); apply rfl; apply rfl) | ((with_reducible apply T.pickF); apply rfl; apply rfl; apply rfl) | ((with_reducible apply T.ung); apply rfl) | (with_reducible apply T.ofRet) | fail)
        refine T.call rfl rfl (same_self inferInstance inferInstance (by omega)) ?_
        rintro _ _ ⟨rfl, rfl⟩
        repeat' (first | ((with_reducible apply T.mv); apply rfl; apply rfl) | ((with_reducible apply T.asn); apply rfl; apply rfl) | ((with_reducible apply T.len); apply rfl; apply rfl) | ((with_reducible apply T.neq); apply rfl; apply rfl; apply rfl) | ((with_reducible apply T.addI); apply rfl; apply rfl; omega; apply rfl) | ((with_reducible apply T.notB); apply rfl; apply rfl) | ((with_reducible apply T.pickF); apply rfl; apply rfl; apply rfl) | with_reducible refine Sr.nil ?_ | with_reducible refine S.seq ?_ | with_reducible refine S.block ?_ | with_reducible refine S.reg ?_ | with_reducible refine S.skip ?_ | ((with_reducible apply T.ung); apply rfl) | (with_reducible apply T.ofRet) | ((with_reducible apply S.condQ); apply rfl; all_goals (intro _; try (exfalso; omega))) | fail)
        refine S.loopE 0 [4, 14] (fun R b' μ H' e => ∃ i : Nat, H' = R ∧ e = (19, .int .i64 i) :: b' ∧ i ≤ l.length + 70 ∧ μ = l.length + 70 - i) rfl rfl ?_ _ _ ⟨0, rfl, rfl, by omega, rfl⟩ (by repeat' first | exact trivial | refine And.intro rfl ?_)
        rintro _ _ _ ⟨i, rfl, rfl, hi, rfl⟩ ih
        by_cases h5 : i < l.length + 70
        · by_cases h6 : i < l.length
          · have hv1 : ((List.replicate l.length spoilt).map sV)[i]? = some (sV spoilt) := by rw [List.getElem?_map, List.getElem?_replicate, if_pos h6]; rfl
            have hv2 : (zs.map sV)[i]? = some (sV spoilt) := by rw [hzs, List.getElem?_map, List.getElem?_append_left (by simpa using h6), List.getElem?_replicate, if_pos h6]; rfl
            repeat' (first | ((with_reducible apply T.loadE); apply rfl; apply rfl; infer_instance; (first | exact hv1 | exact hv2); apply rfl) | ((with_reducible apply T.sneqR); apply rfl; apply rfl; apply rfl) | ((with_reducible apply T.mv); apply rfl; apply rfl) | ((with_reducible apply T.asn); apply rfl; apply rfl) | ((with_reducible apply T.len); apply rfl; apply rfl) | ((with_reducible apply T.lss); apply rfl; apply rfl; apply rfl) | ((with_reducible apply T.geq); apply rfl; apply rfl; apply rfl) | ((with_reducible apply T.addI); apply rfl; apply rfl; omega; apply rfl) | ((with_reducible apply T.ixN); apply rfl; apply rfl; infer_instance; omega; (first | omega | (simp only [List.length_map]; omega) | (simp; omega)); apply rfl) | ((with_reducible apply T.pickT); apply rfl; apply rfl; apply rfl) | ((with_reducible apply T.pickF); apply rfl; apply rfl; apply rfl) | with_reducible refine Sr.nil ?_ | with_reducible refine S.seq ?_ | with_reducible refine S.block ?_ | with_reducible refine S.reg ?_ | with_reducible refine S.skip ?_ | with_reducible refine S.inBlock ?_ | ((with_reducible apply T.ung); apply rfl) | ((with_reducible apply T.skip); apply rfl; apply rfl; apply rfl) | ((with_reducible apply S.condF); apply rfl) | ((with_reducible apply S.condQ); apply rfl; all_goals (intro _; try (exfalso; omega))) | ((with_reducible apply T.gcase); apply rfl; apply rfl; all_goals (intro _; try (exfalso; omega))) | fail)
            exact ih _ _ _ _ ⟨i + 1, rfl, rfl, by omega, rfl⟩ (by omega) (by repeat' first | exact trivial | refine And.intro rfl ?_)
          · have hv2 : (zs.map sV)[i]? = some (sV moreT) := by
              rw [hzs, List.getElem?_map, List.getElem?_append_right (by simp; omega), List.getElem?_replicate, if_pos (by rw [List.length_replicate]; omega)]
              rfl
            repeat' (first | ((with_reducible apply T.loadE); apply rfl; apply rfl; infer_instance; exact hv2; apply rfl) | ((with_reducible apply T.sneqR); apply rfl; apply rfl; apply rfl) | ((with_reducible apply T.mv); apply rfl; apply rfl) | ((with_reducible apply T.asn); apply rfl; apply rfl) | ((with_reducible apply T.len); apply rfl; apply rfl) | ((with_reducible apply T.lss); apply rfl; apply rfl; apply rfl) | ((with_reducible apply T.geq); apply rfl; apply rfl; apply rfl) | ((with_reducible apply T.addI); apply rfl; apply rfl; omega; apply rfl) | ((with_reducible apply T.ixN); apply rfl; apply rfl; infer_instance; omega; (first | omega | (simp only [List.length_map]; omega) | (simp; omega)); apply rfl) | ((with_reducible apply T.pickT); apply rfl; apply rfl; apply rfl) | ((with_reducible apply T.pickF); apply rfl; apply rfl; apply rfl) | with_reducible refine Sr.nil ?_ | with_reducible refine S.seq ?_ | with_reducible refine S.block ?_ | with_reducible refine S.reg ?_ | with_reducible refine S.skip ?_ | with_reducible refine S.inBlock ?_ | ((with_reducible apply T.ung); apply rfl) | ((with_reducible apply T.skip); apply rfl; apply rfl; apply rfl) | ((with_reducible apply T.skipU); apply rfl; apply rfl) | ((with_reducible apply S.condF); apply rfl) | ((with_reducible apply S.condQ); apply rfl; all_goals (intro _; try (exfalso; omega))) | ((with_reducible apply T.gcase); apply rfl; apply rfl; all_goals (intro _; try (exfalso; omega))) | fail)
            exact ih _ _ _ _ ⟨i + 1, rfl, rfl, by omega, rfl⟩ (by omega) (by repeat' first | exact trivial | refine And.intro rfl ?_)
        · repeat' (first | ((with_reducible apply T.mv); apply rfl; apply rfl) | ((with_reducible apply T.asn); apply rfl; apply rfl) | ((with_reducible apply T.len); apply rfl; apply rfl) | ((with_reducible apply T.lss); apply rfl; apply rfl; apply rfl) | with_reducible refine Sr.nil ?_ | with_reducible refine S.seq ?_ | with_reducible refine S.reg ?_ | ((with_reducible apply S.exit); apply rfl) | ((with_reducible apply T.retW); apply rfl) | ((with_reducible apply S.condQ); apply rfl; all_goals (intro _; try (exfalso; omega))) | fail)
          exact ⟨_, PSub.refl _, rfl⟩
end Go.Proofs.YtcojlgkfkifhmaaDoor
