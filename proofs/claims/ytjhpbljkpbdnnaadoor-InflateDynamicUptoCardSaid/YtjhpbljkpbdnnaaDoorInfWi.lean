/- The walk of the statement InflateDynamic. -/
import Derived.Test.YtjhpbljkpbdnnaaDoorInfWe
import Derived.Test.YtjhpbljkpbdnnaaDoorInfWg
import Derived.Test.YtjhpbljkpbdnnaaDoorMoreC
namespace Infl
theorem le15_at {ls : List Nat} (h : ∀ x ∈ ls, x ≤ 15) (s : Nat) : ls.getD s 0 ≤ 15 := by
  rw [List.getD_eq_getElem?_getD]
  cases hs : ls[s]? with
  | none => simp
  | some x => exact h x (List.mem_of_getElem? hs)
theorem fit_of {l : List Tk} {out : List UInt8} (hv : Valid out l) : ∀ t ∈ l, Fit t := by
  induction l generalizing out with
  | nil => exact fun t h => absurd h List.not_mem_nil
  | cons t l ih =>
    obtain ⟨h1, h2⟩ := hv
    intro x hx
    rcases List.mem_cons.1 hx with rfl | hx
    · rcases h1 with h | h
      · exact .inl h
      · exact .inr ⟨h.1, h.2.1, h.2.2.1, h.2.2.2.1⟩
    · exact ih h2 x hx
end Infl
namespace Sg
open Go
theorem T.gcaseB {c : Ctx} {ds : List Deferred} {H : List Res} {e : Env} {ops : Array Oper} {l : List Oper} {κ : List Res → Env → Prop} {ty : TypeId} {pos : String} {aft : Array Edge} {q : Mode} [NotUni q] {o : Op} {d : Option Tmp} {j t : Nat} {b x : Bool} (hj : (ops[j]?).bind (·.dst) = some t) (h : get? e t = some (.bool x))
    (ht : x = true → Sr q c ds H ops (⟨d, o, ty, pos, aft, some (j, b)⟩ :: l) κ ((t, .bool true) :: e)) (hf : x = false → Sr q c ds H ops (⟨d, o, ty, pos, aft, some (j, b)⟩ :: l) κ ((t, .bool false) :: e)) : Sr q c ds H ops (⟨d, o, ty, pos, aft, some (j, b)⟩ :: l) κ e :=
  T.gcase (p := x = true) hj (by rw [h]; cases x <;> rfl) ht (fun hn => hf (by cases x <;> simp_all))
end Sg
namespace Go.Proofs.YtjhpbljkpbdnnaaDoor
open Sg Go.IntWalk Infl
set_option maxRecDepth 100000
set_option maxHeartbeats 2000000
theorem dynamic_walk {F : World} {tc lc dc : Nat} {ta la da : Option Addr} {xs : List Rk} {ls ds : List Int} [hT : ∀ H, Rd F [] H ta (xs.flatMap rkV)] [hL : ∀ H, Rd F [] H la (ls.map iV)] [hD : ∀ H, Rd F [] H da (ds.map iV)] [hg : ∀ H, Rd F [] H (some ⟨0, 0, none⟩) (ordL.map nV)] (hb : xs.length ≤ 1048576) (hbl : ls.length ≤ 1048576) (hbd : ds.length ≤ 1048576) :
    Meets Tryd.prog 5 [.slice ta xs.length tc, .slice la ls.length lc, .slice da ds.length dc] F [] [] (fun e _ => e = .returned (.bool true)) := by
  refine Meets.enter Tryd.func5 rfl rfl ?_
  repeat' (first | ((with_reducible apply T.asn); apply rfl; apply rfl) | with_reducible refine Sr.nil ?_ | with_reducible refine S.seq ?_ | with_reducible refine S.reg ?_ | fail)
  refine T.call rfl rfl started_spec ?_
  rintro _ _ ⟨rfl, rfl⟩
  repeat' (first | ((with_reducible apply T.mv); apply rfl; apply rfl) | ((with_reducible apply T.notB); apply rfl; apply rfl) | with_reducible refine Sr.nil ?_ | with_reducible refine S.seq ?_ | with_reducible refine S.reg ?_ | with_reducible refine S.skip ?_ | ((with_reducible apply S.condF); apply rfl) | (with_reducible apply T.ofRet) | fail)
  refine T.call rfl rfl (lengthsOf_spec (xs := ls) (least := 257) (most := 286) (by omega) (by omega) (by omega)) ?_
  rintro _ _ ⟨La, Lc, rfl, rfl⟩
  have hLl := lensOf_len ls (least := 257) (most := 286) (by omega)
  have hL15 := lensOf_le ls 257 286
  generalize lensOf ls 257 286 = L at *
  repeat' (first | ((with_reducible apply T.mv); apply rfl; apply rfl) | ((with_reducible apply T.asn); apply rfl; apply rfl) | with_reducible refine Sr.nil ?_ | with_reducible refine S.seq ?_ | with_reducible refine S.reg ?_ | (with_reducible apply T.ofRet) | fail)
  refine T.call rfl rfl (lengthsOf_spec (xs := ds) (least := 1) (most := 30) (by omega) (by omega) (by omega)) ?_
  rintro _ _ ⟨Da, Dc, rfl, rfl⟩
  have hDl := lensOf_len ds (least := 1) (most := 30) (by omega)
  have hD15 := lensOf_le ds 1 30
  generalize lensOf ds 1 30 = D at *
  have h15 : ∀ x ∈ L ++ D, x ≤ 15 := fun x hx => by
    rcases List.mem_append.1 hx with h | h
    · exact hL15 x h
    · exact hD15 x h
  repeat' (first | ((with_reducible apply T.mv); apply rfl; apply rfl) | ((with_reducible apply T.asn); apply rfl; apply rfl) | with_reducible refine Sr.nil ?_ | with_reducible refine S.seq ?_ | with_reducible refine S.reg ?_ | (with_reducible apply T.ofRet) | fail)
  refine T.call rfl rfl (unfolded_spec (xs := xs) (by omega)) ?_
  rintro _ _ ⟨oa, oc, aa, ac2, rfl, rfl⟩
  have hv := unfR_valid xs []
  have hln := unfR_len xs [] (by simp)
  generalize unfR xs [] = cs at *
  obtain ⟨hl1, hl2⟩ := hln
  have hfit := fit_of hv
  repeat' (first | ((with_reducible apply T.mv); apply rfl; apply rfl) | ((with_reducible apply T.asn); apply rfl; apply rfl) | ((with_reducible apply T.extract); apply rfl; apply rfl; apply rfl) | ((with_reducible apply T.buildL); apply rfl; apply rfl; apply rfl) | ((with_reducible apply T.box); apply rfl; apply rfl; intro nb) | with_reducible refine Sr.nil ?_ | with_reducible refine S.seq ?_ | with_reducible refine S.reg ?_ | (with_reducible apply T.ofRet) | fail)
  refine Sr.nilrow 5 1 ?_
  change Sr _ _ _ (.row none 0 5 1 0 [] :: .blk nb (wr none 0 ([], 0)) 37 :: _) _ _ _ _
  refine Sr.front nb ?_
  refine T.call rfl rfl (numberW_spec (oa := none) (oc := 0) (st := ([], 0)) (n := 1) (k := 1) wr_nil (by omega) (by omega) (by simp)) ?_
  rintro _ _ ⟨o1, q1, rfl, rfl⟩
  have hw1 := wr_puts wr_nil (more := numB 1 1) numB_two
  repeat' (first | ((with_reducible apply T.mv); apply rfl; apply rfl) | with_reducible refine Sr.nil ?_ | with_reducible refine S.seq ?_ | with_reducible refine S.reg ?_ | (with_reducible apply T.ofRet) | fail)
  refine T.call rfl rfl (numberW_spec (n := 2) (k := 2) hw1 (by omega) (by omega) (by simp [numB_len])) ?_
  rintro _ _ ⟨o2, q2, rfl, rfl⟩
  have hw2 := wr_puts hw1 (more := numB 2 2) numB_two
  repeat' (first | ((with_reducible apply T.mv); apply rfl; apply rfl) | with_reducible refine Sr.nil ?_ | with_reducible refine S.seq ?_ | with_reducible refine S.reg ?_ | (with_reducible apply T.ofRet) | fail)
  refine T.call rfl rfl (dynamicW_spec (L := L) (D := D) hw2 (by simp [numB_len]) hLl hDl h15) ?_
  rintro _ _ ⟨o3, q3, rfl, rfl⟩
  have hs3 : wputs (wputs (wputs ([], 0) (numB 1 1)) (numB 2 2)) (dynB L D) = wputs ([], 0) (dynH L D) := by simp only [← wputs_app, dynH, List.append_assoc]
  rw [hs3]
  have hw3 := wr_puts wr_nil (more := dynH L D) (dynH_two L D)
  rw [List.nil_append] at hw3
  have hB3 : (dynH L D).length ≤ 10000 := by
    have := dyn_len L D
    rw [dynH, List.length_append, List.length_append, numB_len, numB_len]
    omega
  have hbad := fun hno => infl_bad (m := 1048576) hw3 hLl hDl h15 hno
  clear hs3 hw1 hw2
  generalize hs3 : wputs ([], 0) (dynH L D) = s3 at *
  obtain ⟨b1, hb1⟩ : ∃ b, decide (((L.getD 256 0 : Nat) : Int) = 0) = b := ⟨_, rfl⟩
  obtain ⟨c2, hc2⟩ : ∃ b, decide (kraft L = 32768) = !b := ⟨!decide (kraft L = 32768), by simp⟩
  obtain ⟨c3, hc3⟩ : ∃ b, decide (L.sum = 1) = !b := ⟨!decide (L.sum = 1), by simp⟩
  obtain ⟨d2, hd2⟩ : ∃ b, decide (kraft D = 32768) = !b := ⟨!decide (kraft D = 32768), by simp⟩
  obtain ⟨d3, hd3⟩ : ∃ b, decide (D.sum = 1) = !b := ⟨!decide (D.sum = 1), by simp⟩
  obtain ⟨d4, hd4⟩ : ∃ b, decide (D.sum = 0) = !b := ⟨!decide (D.sum = 0), by simp⟩
  have hmay : (b1 || (c2 && c3) || ((d2 && d3) && d4)) = decide (¬ may L D) := by
    have e1 : b1 = decide (L.getD 256 0 = 0) := by rw [← hb1]; exact decide_eq_decide.2 (by omega)
    have e2 : c2 = !decide (kraft L = 32768) := by rw [hc2, Bool.not_not]
    have e3 : c3 = !decide (L.sum = 1) := by rw [hc3, Bool.not_not]
    have e4 : d2 = !decide (kraft D = 32768) := by rw [hd2, Bool.not_not]
    have e5 : d3 = !decide (D.sum = 1) := by rw [hd3, Bool.not_not]
    have e6 : d4 = !decide (D.sum = 0) := by rw [hd4, Bool.not_not]
    rw [e1, e2, e3, e4, e5, e6]
    unfold may
    by_cases h2 : kraft L = 32768 <;> by_cases h3 : L.sum = 1 <;> by_cases h4 : kraft D = 32768 <;> by_cases h5 : D.sum = 1 <;> by_cases h6 : D.sum = 0 <;> simp [h2, h3, h4, h5, h6]
  repeat' (first | with_reducible refine Sr.nil ?_ | (with_reducible apply T.ofRet) | fail)
  refine S.seq ?_
  refine S.seq ?_
  refine S.cut (fun H' e' => H' = .blk nb (wr o3 q3 s3) 37 :: rw_ o3 q3 s3.1 :: rw_ oa oc (unf [] cs) :: .row aa ac2 67 3 cs.length (cs.flatMap tkV) :: .row Da Dc 3 1 D.length (D.map nV) :: .row La Lc 3 1 L.length (L.map nV) :: [] ∧ e' = [(64, .bool (b1 || (c2 && c3) || ((d2 && d3) && d4))), (7, .slice La L.length Lc), (8, .slice Da D.length Dc), (9, .slice oa (unf [] cs).length oc), (10, .slice aa cs.length ac2), (11, .pointer (some ⟨nb, 0, none⟩))]) ?_ ?_
  · intro k' hrest
    have m2 := full_spec (F := F) (M := []) (H := .blk nb (wr o3 q3 s3) 37 :: rw_ o3 q3 s3.1 :: rw_ oa oc (unf [] cs) :: .row aa ac2 67 3 cs.length (cs.flatMap tkV) :: .row Da Dc 3 1 D.length (D.map nV) :: .row La Lc 3 1 L.length (L.map nV) :: []) (la := La) (lc := Lc) (ls := L) (by omega) hL15
    have m3 := single_spec (F := F) (M := []) (H := .blk nb (wr o3 q3 s3) 37 :: rw_ o3 q3 s3.1 :: rw_ oa oc (unf [] cs) :: .row aa ac2 67 3 cs.length (cs.flatMap tkV) :: .row Da Dc 3 1 D.length (D.map nV) :: .row La Lc 3 1 L.length (L.map nV) :: []) (la := La) (lc := Lc) (ls := L) (by omega) hL15
    have n2 := full_spec (F := F) (M := []) (H := .blk nb (wr o3 q3 s3) 37 :: rw_ o3 q3 s3.1 :: rw_ oa oc (unf [] cs) :: .row aa ac2 67 3 cs.length (cs.flatMap tkV) :: .row Da Dc 3 1 D.length (D.map nV) :: .row La Lc 3 1 L.length (L.map nV) :: []) (la := Da) (lc := Dc) (ls := D) (by omega) hD15
    have n3 := single_spec (F := F) (M := []) (H := .blk nb (wr o3 q3 s3) 37 :: rw_ o3 q3 s3.1 :: rw_ oa oc (unf [] cs) :: .row aa ac2 67 3 cs.length (cs.flatMap tkV) :: .row Da Dc 3 1 D.length (D.map nV) :: .row La Lc 3 1 L.length (L.map nV) :: []) (la := Da) (lc := Dc) (ls := D) (by omega) hD15
    have n4 := bare_spec (F := F) (M := []) (H := .blk nb (wr o3 q3 s3) 37 :: rw_ o3 q3 s3.1 :: rw_ oa oc (unf [] cs) :: .row aa ac2 67 3 cs.length (cs.flatMap tkV) :: .row Da Dc 3 1 D.length (D.map nV) :: .row La Lc 3 1 L.length (L.map nV) :: []) (la := Da) (lc := Dc) (ls := D) (by omega) hD15
    rw [hc2] at m2
    rw [hc3] at m3
    rw [hd2] at n2
    rw [hd3] at n3
    rw [hd4] at n4
    clear hmay hbad hw3
    repeat' (first | ((with_reducible apply T.eql); apply rfl; apply rfl; apply rfl; rw [hb1]) | ((with_reducible apply T.notB); apply rfl; apply rfl; rw [Bool.not_not]) | ((with_reducible apply T.call); apply rfl; apply rfl; with_reducible exact m2; rintro _ _ ⟨rfl, rfl⟩) | ((with_reducible apply T.call); apply rfl; apply rfl; with_reducible exact m3; rintro _ _ ⟨rfl, rfl⟩) | ((with_reducible apply T.call); apply rfl; apply rfl; with_reducible exact n2; rintro _ _ ⟨rfl, rfl⟩) | ((with_reducible apply T.call); apply rfl; apply rfl; with_reducible exact n3; rintro _ _ ⟨rfl, rfl⟩) | ((with_reducible apply T.call); apply rfl; apply rfl; with_reducible exact n4; rintro _ _ ⟨rfl, rfl⟩) | ((with_reducible apply T.gcaseB); apply rfl; apply rfl; all_goals (intro hh; subst hh)) | ((with_reducible apply T.mv); apply rfl; apply rfl) | ((with_reducible apply T.ixC); apply rfl; infer_instance; omega; (first | omega | (simp only [List.length_map]; omega) | (simp; omega)); apply rfl) | ((with_reducible apply T.loadNat); apply rfl; infer_instance; (first | omega | (simp only [List.length_map]; omega) | (simp; omega)); apply rfl) | ((with_reducible apply T.pickT); apply rfl; apply rfl; apply rfl) | ((with_reducible apply T.pickF); apply rfl; apply rfl; apply rfl) | with_reducible refine Sr.nil ?_ | with_reducible refine S.reg ?_ | ((with_reducible apply T.ung); apply rfl) | ((with_reducible apply T.skip); apply rfl; apply rfl; apply rfl) | ((with_reducible apply T.skipU); apply rfl; apply rfl) | (with_reducible apply T.ofRet) | fail)
    all_goals exact hrest _ _ _ ⟨rfl, rfl⟩ (by repeat' first | exact trivial | refine And.intro rfl ?_)
  rintro _ _ ⟨rfl, rfl⟩
  rw [hmay]
  clear hb1 hc2 hc3 hd2 hd3 hd4 hmay
  by_cases hm : may L D
  · rw [decide_eq_false (fun h => h hm)]
    repeat' (first | ((with_reducible apply T.mv); apply rfl; apply rfl) | with_reducible refine S.seq ?_ | with_reducible refine S.reg ?_ | with_reducible refine S.skip ?_ | ((with_reducible apply S.condF); apply rfl) | fail)
    refine T.call rfl rfl (tokens_spec (ts := cs) (ll := L) (dl := D) hw3 (by omega) hfit hLl.1 (by omega) (by omega) (le15_at hL15) (le15_at hD15)) ?_
    rintro _ _ ⟨o4, q4, st', ok, rfl, rfl, g1, g2⟩
    cases ok with
    | false =>
      repeat' (first | ((with_reducible apply T.asn); apply rfl; apply rfl) | ((with_reducible apply T.notB); apply rfl; apply rfl) | with_reducible refine Sr.nil ?_ | with_reducible refine S.seq ?_ | with_reducible refine S.reg ?_ | ((with_reducible apply S.condT); apply rfl) | ((with_reducible apply T.retW); apply rfl) | (with_reducible apply T.ofRet) | fail)
      exact ⟨[], PSub.nil, by simp⟩
    | true =>
      obtain ⟨rfl, hok⟩ := g1 rfl
      have hwz := wr_puts hw3 (more := toksB L D cs) (toksB_two L D cs)
      have hI := infl_dyn (m := 1048576) hwz hLl hDl h15 hm hv hok (by omega)
      have hzl := hwz.len
      have hzf := hwz.fr
      have htl := toks_len (le15_at hL15) (le15_at hD15) hfit
      have hte : (toksB L D cs).length ≤ 48 * cs.length + 15 := by
        have h2 : (wordB (W L 256) (L.getD 256 0)).length ≤ 15 := by rw [wordB_len]; exact le15_at hL15 256
        rw [toksB, List.length_append]
        omega
      rw [List.length_append] at hzl
      generalize wputs s3 (toksB L D cs) = sz at *
      repeat' (first | ((with_reducible apply T.mv); apply rfl; apply rfl) | ((with_reducible apply T.nilCheck); apply rfl; apply rfl) | ((with_reducible apply T.fieldAddrZ); apply rfl; apply rfl) | ((with_reducible apply T.load); apply rfl; apply rfl; infer_instance; apply rfl; apply rfl) | ((with_reducible apply T.notB); apply rfl; apply rfl) | with_reducible refine Sr.nil ?_ | with_reducible refine S.seq ?_ | with_reducible refine S.reg ?_ | with_reducible refine S.skip ?_ | ((with_reducible apply S.condF); apply rfl) | (with_reducible apply T.ofRet) | fail)
      refine T.call rfl rfl (unfolds_spec (bs := sz.1) (want := unf [] cs) (by omega) (by omega) hI) ?_
      rintro _ _ ⟨rfl, rfl⟩
      repeat' (first | ((with_reducible apply T.asn); apply rfl; apply rfl) | with_reducible refine Sr.nil ?_ | ((with_reducible apply T.retW); apply rfl) | (with_reducible apply T.ofRet) | fail)
      exact ⟨[], PSub.nil, by simp⟩
  · rw [decide_eq_true hm]
    have hI := hbad hm
    have hzl := hw3.len
    have hzf := hw3.fr
    repeat' (first | ((with_reducible apply T.mv); apply rfl; apply rfl) | ((with_reducible apply T.nilCheck); apply rfl; apply rfl) | ((with_reducible apply T.fieldAddrZ); apply rfl; apply rfl) | ((with_reducible apply T.load); apply rfl; apply rfl; infer_instance; apply rfl; apply rfl) | with_reducible refine S.seq ?_ | with_reducible refine S.reg ?_ | ((with_reducible apply S.condT); apply rfl) | fail)
    refine T.call rfl rfl (inflate_spec (bs := s3.1) (most := 1048576) (by omega)) ?_
    rintro _ _ ⟨va, vc, rfl, rfl⟩
    rw [show mostN 1048576 = 1048576 from rfl, hI]
    dsimp only
    repeat' (first | ((with_reducible apply T.mv); apply rfl; apply rfl) | ((with_reducible apply T.asn); apply rfl; apply rfl) | ((with_reducible apply T.len); apply rfl; apply rfl) | ((with_reducible apply T.eql); apply rfl; apply rfl; apply rfl) | ((with_reducible apply T.extract); apply rfl; apply rfl; apply rfl) | ((with_reducible apply T.pickT); apply rfl; apply rfl; apply rfl) | with_reducible refine Sr.nil ?_ | with_reducible refine S.seq ?_ | with_reducible refine S.reg ?_ | ((with_reducible apply T.ung); apply rfl) | ((with_reducible apply T.retW); apply rfl) | (with_reducible apply T.ofRet) | fail)
    exact ⟨[], PSub.nil, by simp⟩
end Go.Proofs.YtjhpbljkpbdnnaaDoor
