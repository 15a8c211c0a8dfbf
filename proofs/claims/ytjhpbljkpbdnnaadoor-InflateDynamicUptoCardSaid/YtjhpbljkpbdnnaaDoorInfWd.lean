/- The walk of the statements' writer of tokens. -/
import Derived.Test.YtjhpbljkpbdnnaaDoorInfWc
namespace Infl
/-- What counts of a token that is written. -/
def Fit (t : Tk) : Prop := t.2.1 = 0 ∨ (3 ≤ t.2.1 ∧ t.2.1 ≤ 258 ∧ 1 ≤ t.2.2 ∧ t.2.2 ≤ 32768)
theorem tokB_len {ll dl : List Nat} (hl : ∀ s, ll.getD s 0 ≤ 15) (hd : ∀ s, dl.getD s 0 ≤ 15) {t : Tk} (hf : Fit t) : (tokB ll dl t).length ≤ 48 := by
  unfold tokB
  split
  · rw [wordB_len]
    have := hl t.1.toNat
    omega
  · rename_i h0
    have hv := hf.resolve_left h0
    have h1 := hl (lenSy t.2.1 + 257)
    have h2 := hd (disSy t.2.2)
    have h3 := lbits_le _ (lenSy_le hv.1 hv.2.1)
    have hds := disSy_spec hv.2.2.1 hv.2.2.2
    have h4 := dbits_le (disSy t.2.2) (by omega)
    rw [← dbits_eq _ (by omega)] at h4
    simp only [List.length_append, wordB_len, numB_len]
    rw [(lenEx_eq hv.1 hv.2.1).1]
    simp only
    omega
theorem toks_len {ll dl : List Nat} (hl : ∀ s, ll.getD s 0 ≤ 15) (hd : ∀ s, dl.getD s 0 ≤ 15) : ∀ {ts : List Tk}, (∀ t ∈ ts, Fit t) → (ts.flatMap (tokB ll dl)).length ≤ 48 * ts.length
  | [], _ => by simp
  | t :: ts, h => by
    have h1 := toks_len hl hd (ts := ts) (fun x hx => h x (List.mem_cons_of_mem _ hx))
    have h2 := tokB_len hl hd (h t (List.mem_cons_self ..))
    rw [List.flatMap_cons, List.length_append, List.length_cons]
    omega
theorem cn_le (ls : List Nat) (l : Nat) : cn ls l ≤ ls.length := by
  rw [cn_count]
  exact List.count_le_length
theorem G_bound (ls : List Nat) : ∀ L, G ls L + ls.length ≤ ls.length * 2 ^ L
  | 0 => by simp [G]
  | L + 1 => by
    have h1 := G_bound ls L
    have h2 := cn_le ls (L + 1)
    rw [G, Nat.pow_succ, ← Nat.mul_assoc]
    omega
theorem W_bound {ls : List Nat} (hl : ls.length ≤ 100000) (h15 : ∀ s, ls.getD s 0 ≤ 15) (s : Nat) : W ls s < 4611686018427387904 := by
  by_cases hs : s < ls.length
  · by_cases h1 : 1 ≤ ls.getD s 0
    · have hp := pos_lt hs
      have hb := G_bound ls (ls.getD s 0)
      have hpw : ls.length * 2 ^ ls.getD s 0 ≤ 100000 * 2 ^ 15 := Nat.mul_le_mul hl (Nat.pow_le_pow_right (by omega) (h15 s))
      rw [W_eq hs h1 (h15 s)]
      obtain ⟨m, hm⟩ : ∃ m, ls.getD s 0 = m + 1 := ⟨ls.getD s 0 - 1, by omega⟩
      rw [hm] at hp hb hpw ⊢
      rw [G] at hb
      simp only [Nat.add_sub_cancel]
      omega
    · rw [W, words_at hs, if_neg (by omega)]
      omega
  · rw [W, List.getD_eq_getElem?_getD, List.getElem?_eq_none (by rw [wordsR_len]; omega)]
    simp
theorem toks_two {ll dl : List Nat} {ts : List Tk} : ∀ x ∈ ts.flatMap (tokB ll dl), x < 2 := fun x hx => by
  obtain ⟨t, _, ht⟩ := List.mem_flatMap.1 hx
  exact tokB_two ll dl t x ht
end Infl
namespace Go.Proofs.YtjhpbljkpbdnnaaDoor
open Sg Go.IntWalk Infl
set_option maxRecDepth 100000
set_option maxHeartbeats 2000000
/-- A token's cells. -/
abbrev tkV (t : Tk) : List Value := [.int .u8 (t.1.toNat : Int), .int .i64 (t.2.1 : Int), .int .i64 (t.2.2 : Int)]
theorem tokens_spec {F : World} {M : List Nat} {H : List Res} {p oc tc lc dc : Nat} {oa ta la da : Option Addr} {st : List UInt8 × Nat} {bits : List Nat} {ts : List Tk} {ll dl : List Nat} [hT : Rd F M H ta (ts.flatMap tkV)] [hL : Rd F M H la (ll.map nV)] [hD : Rd F M H da (dl.map nV)]
    (hw : Wr st bits) (hlen : bits.length + 48 * ts.length ≤ 900000000) (hfit : ∀ t ∈ ts, Fit t) (h257 : 257 ≤ ll.length) (hll : ll.length ≤ 100000) (hdl : dl.length ≤ 100000) (h15 : ∀ s, ll.getD s 0 ≤ 15) (h15d : ∀ s, dl.getD s 0 ≤ 15) :
    Meets Tryd.prog 19 [.pointer (some ⟨p, 0, none⟩), .slice ta ts.length tc, .slice la ll.length lc, .slice da dl.length dc] F M (.blk p (wr oa oc st) 37 :: rw_ oa oc st.1 :: H)
      (fun e H' => ∃ oa' oc' st' b, e = .returned (.bool b) ∧ H' = .blk p (wr oa' oc' st') 37 :: rw_ oa' oc' st'.1 :: H ∧ (b = true → st' = wputs st (toksB ll dl ts) ∧ ∀ t ∈ ts, tokOk ll dl t) ∧ (b = false → ∃ t ∈ ts, ¬ tokOk ll dl t)) := by
  refine Meets.enter Tryd.func19 rfl rfl ?_
  repeat' (first | ((with_reducible apply T.mv); apply rfl; apply rfl) | ((with_reducible apply T.asn); apply rfl; apply rfl) | with_reducible refine Sr.nil ?_ | with_reducible refine S.seq ?_ | with_reducible refine S.reg ?_ | fail)
  refine T.call rfl rfl (wordsW_spec (ls := ll) rfl (by omega)) ?_
  rintro _ _ ⟨wb, rfl, rfl⟩
  repeat' (first | ((with_reducible apply T.mv); apply rfl; apply rfl) | ((with_reducible apply T.asn); apply rfl; apply rfl) | with_reducible refine Sr.nil ?_ | with_reducible refine S.seq ?_ | with_reducible refine S.reg ?_ | (with_reducible apply T.ofRet) | fail)
  refine T.call rfl rfl (wordsW_spec (ls := dl) rfl (by omega)) ?_
  rintro _ _ ⟨db, rfl, rfl⟩
  repeat' (first | ((with_reducible apply T.asn); apply rfl; apply rfl) | with_reducible refine Sr.nil ?_ | with_reducible refine S.seq ?_ | with_reducible refine S.block ?_ | with_reducible refine S.reg ?_ | (with_reducible apply T.ofRet) | fail)
  refine S.frontR oa ?_
  refine S.front p ?_
  have hwll := wl_len ll
  have hwdl := wl_len dl
  refine S.loopE 2 [0, 1, 2, 3, 9, 10] (fun R b' μ H' e => ∃ (i : Nat) (oa : Option Addr) (oc : Nat) (st' : List UInt8 × Nat), H' = .blk p (wr oa oc st') 37 :: rw_ oa oc st'.1 :: R ∧ e = (11, .int .i64 i) :: b' ∧
    (i ≤ ts.length ∧ st' = wputs st ((ts.take i).flatMap (tokB ll dl)) ∧ ∀ t ∈ ts.take i, tokOk ll dl t) ∧ μ = ts.length - i) rfl rfl ?_ _ _ ⟨0, oa, oc, st, rfl, rfl, ⟨by omega, by simp [wputs], fun t h => by simp at h⟩, rfl⟩ (by repeat' first | exact trivial | refine And.intro rfl ?_)
  rintro _ _ _ ⟨i, oa, oc, st', rfl, rfl, ⟨hi, hst, hok⟩, rfl⟩ ih
  have hWi : Wr st' (bits ++ (ts.take i).flatMap (tokB ll dl)) := by rw [hst]; exact wr_puts hw toks_two
  have htl := toks_len h15 h15d (ts := ts.take i) (fun t ht => hfit t (List.mem_of_mem_take ht))
  rw [List.length_take] at htl
  generalize hbs : bits ++ (ts.take i).flatMap (tokB ll dl) = bs' at hWi
  have hbl : bs'.length ≤ 900000000 := by rw [← hbs, List.length_append]; omega
  repeat' (first | ((with_reducible apply T.mv); apply rfl; apply rfl) | ((with_reducible apply T.len); apply rfl; apply rfl) | ((with_reducible apply T.lss); apply rfl; apply rfl; apply rfl) | with_reducible refine Sr.nil ?_ | with_reducible refine S.seq ?_ | with_reducible refine S.reg ?_ | fail)
  refine S.condQ rfl (fun hi1 => ?_) fun hi1 => ?_
  · have hit : i < ts.length := by omega
    have htk : ts.take (i + 1) = ts.take i ++ [ts.getD i default] := take_snoc hit
    have htm : ts.getD i default ∈ ts := by
      rw [List.getD_eq_getElem?_getD, List.getElem?_eq_getElem hit]
      exact List.getElem_mem _
    have hfi := hfit _ htm
    repeat' (first | ((with_reducible apply T.mv); apply rfl; apply rfl) | ((with_reducible apply T.eql); apply rfl; apply rfl; apply rfl) | ((with_reducible apply T.ixF); apply rfl; apply rfl; infer_instance; exact (fun _ => rfl); apply rfl; omega; omega; apply rfl) | ((with_reducible apply T.fieldAddrF); apply rfl; infer_instance; exact (fun _ => rfl); apply rfl; omega; apply rfl) | ((with_reducible apply T.loadF); apply rfl; apply rfl; infer_instance; exact (fun _ => rfl); apply rfl; exact getD_some (by omega); apply rfl; apply rfl) | with_reducible refine Sr.nil ?_ | with_reducible refine S.seq ?_ | with_reducible refine S.block ?_ | with_reducible refine S.reg ?_ | with_reducible refine S.skip ?_ | fail)
    have hnext : wputs st' (tokB ll dl (ts.getD i default)) = wputs st ((ts.take (i + 1)).flatMap (tokB ll dl)) := by rw [hst, ← wputs_app, htk, List.flatMap_append]; simp
    have hokn : tokOk ll dl (ts.getD i default) → ∀ x ∈ ts.take (i + 1), tokOk ll dl x := fun h x hx => by
      rw [htk] at hx
      rcases List.mem_append.1 hx with hx | hx
      · exact hok x hx
      · rw [List.mem_singleton.1 hx]; exact h
    refine S.condQ rfl (fun h0 => ?_) fun h0 => ?_
    · have h0' : (ts.getD i default).2.1 = 0 := by omega
      have htB : tokB ll dl (ts.getD i default) = wordB (W ll (ts.getD i default).1.toNat) (ll.getD (ts.getD i default).1.toNat 0) := if_pos h0'
      have htO : tokOk ll dl (ts.getD i default) ↔ ll.getD (ts.getD i default).1.toNat 0 ≠ 0 := by unfold tokOk; rw [if_pos h0']
      have h256 := (ts.getD i default).1.toNat_lt
      repeat' (first | ((with_reducible apply T.mv); apply rfl; apply rfl) | ((with_reducible apply T.asn); apply rfl; apply rfl) | ((with_reducible apply T.eql); apply rfl; apply rfl; apply rfl) | ((with_reducible apply T.ixN); apply rfl; apply rfl; infer_instance; omega; (first | omega | (simp only [List.length_map]; omega) | (simp; omega)); apply rfl) | ((with_reducible apply T.ixF); apply rfl; apply rfl; infer_instance; exact (fun _ => rfl); apply rfl; omega; omega; apply rfl) | ((with_reducible apply T.fieldAddrF); apply rfl; infer_instance; exact (fun _ => rfl); apply rfl; omega; apply rfl) | ((with_reducible apply T.loadF); apply rfl; apply rfl; infer_instance; exact (fun _ => rfl); apply rfl; exact getD_some (by omega); apply rfl; apply rfl) | ((with_reducible apply T.loadNat); apply rfl; infer_instance; (first | omega | (simp only [List.length_map]; omega) | (simp; omega)); apply rfl) | ((with_reducible apply T.convI64); apply rfl; omega; apply rfl) | with_reducible refine Sr.nil ?_ | with_reducible refine S.seq ?_ | with_reducible refine S.reg ?_ | with_reducible refine S.skip ?_ | ((with_reducible apply T.retW); apply rfl) | ((with_reducible apply S.condQ); apply rfl; all_goals (intro _; try (exfalso; omega))) | fail)
      · refine ⟨.blk p (wr oa oc st') 37 :: rw_ oa oc st'.1 :: H, by ((repeat (first | dsimp only [List.set_cons_zero] | dsimp only [List.set_cons_succ])); repeat' first | exact PSub.refl _ | exact PSub.nil | ((with_reducible apply PSub.take); (repeat' first | (with_reducible exact pick_hd) | (with_reducible apply pick_tl))) | (with_reducible apply PSub.drop) | ((apply PSub.take); (repeat' first | exact pick_hd | (apply pick_tl)))), oa, oc, st', false, rfl, rfl, fun h => absurd h (by decide), fun _ => ⟨_, htm, fun h => htO.1 h (by omega)⟩⟩
      · have n1 := wordW_spec (F := F) (M := M) (H := .row (some ⟨db, 0, none⟩) dl.length 3 1 dl.length ((wl dl).map nV) :: .row (some ⟨wb, 0, none⟩) ll.length 3 1 ll.length ((wl ll).map nV) :: H) (p := p) (oc := oc) (oa := oa) (n := (wl ll).getD (ts.getD i default).1.toNat 0) (l := ll.getD (ts.getD i default).1.toNat 0) hWi
          (by rw [wl_at]; exact W_bound hll h15 _) (Nat.le_trans (h15 _) (by omega)) (by omega)
        ((with_reducible apply S.draw); (case Hs => exact .row (some ⟨db, 0, none⟩) dl.length 3 1 dl.length ((wl dl).map nV) :: .row (some ⟨wb, 0, none⟩) ll.length 3 1 ll.length ((wl ll).map nV) :: H); (case es => exact  [9]); (case n => exact  10); (case hn => rfl))
        repeat' (first | ((with_reducible apply T.call); apply rfl; apply rfl; with_reducible exact n1; rintro _ _ ⟨oa2, oc2, rfl, rfl⟩) | ((with_reducible apply T.mv); apply rfl; apply rfl) | ((with_reducible apply T.asn); apply rfl; apply rfl) | ((with_reducible apply T.addI); apply rfl; apply rfl; omega; apply rfl) | ((with_reducible apply T.ixN); apply rfl; apply rfl; infer_instance; omega; (first | omega | (simp only [List.length_map]; omega) | (simp; omega)); apply rfl) | ((with_reducible apply T.loadNat); apply rfl; infer_instance; (first | omega | (simp only [List.length_map]; omega) | (simp; omega)); apply rfl) | with_reducible refine Sr.nil ?_ | with_reducible refine S.reg ?_ | ((with_reducible apply S.exit); apply rfl) | (with_reducible apply T.ofRet) | ((with_reducible apply SA.qn); apply rfl; apply rfl; apply rfl; apply rfl; kernel_rfl) | ((with_reducible apply SA.en); apply rfl; apply rfl; kernel_rfl) | ((with_reducible apply SA.done); apply rfl; kernel_rfl) | ((with_reducible apply SK.intro); (first | exact fun _ h => h | exact fun _ h => St.psub h (by ((repeat (first | dsimp only [List.set_cons_zero] | dsimp only [List.set_cons_succ])); repeat' first | exact PSub.refl _ | exact PSub.nil | ((with_reducible apply PSub.take); (repeat' first | (with_reducible exact pick_hd) | (with_reducible apply pick_tl))) | (with_reducible apply PSub.drop) | ((apply PSub.take); (repeat' first | exact pick_hd | (apply pick_tl))))))) | fail)
        rw [wl_at, ← htB]
        exact ih _ _ _ _ ⟨i + 1, oa2, oc2, _, rfl, rfl, ⟨by omega, hnext, hokn (htO.2 (by omega))⟩, rfl⟩ (by omega) (by repeat' first | exact trivial | refine And.intro rfl ?_)
    · have h0' : ¬ (ts.getD i default).2.1 = 0 := by omega
      have hv := hfi.resolve_left h0'
      have hle := lenEx_eq hv.1 hv.2.1
      have hls := lenSy_le hv.1 hv.2.1
      have hds := disSy_spec hv.2.2.1 hv.2.2.2
      have htB : tokB ll dl (ts.getD i default) = _ := if_neg h0'
      have htO : tokOk ll dl (ts.getD i default) ↔ lenSy (ts.getD i default).2.1 + 257 < ll.length ∧ ll.getD (lenSy (ts.getD i default).2.1 + 257) 0 ≠ 0 ∧ disSy (ts.getD i default).2.2 < dl.length ∧ dl.getD (disSy (ts.getD i default).2.2) 0 ≠ 0 := by unfold tokOk; rw [if_neg h0']
      repeat' (first | ((with_reducible apply T.mv); apply rfl; apply rfl) | ((with_reducible apply T.ixF); apply rfl; apply rfl; infer_instance; exact (fun _ => rfl); apply rfl; omega; omega; apply rfl) | ((with_reducible apply T.fieldAddrF); apply rfl; infer_instance; exact (fun _ => rfl); apply rfl; omega; apply rfl) | ((with_reducible apply T.loadF); apply rfl; apply rfl; infer_instance; exact (fun _ => rfl); apply rfl; exact getD_some (by omega); apply rfl; apply rfl) | with_reducible refine S.seq ?_ | with_reducible refine S.reg ?_ | with_reducible refine S.skip ?_ | fail)
      refine T.call rfl rfl (lengthOf_spec hv.1 hv.2.1) ?_
      rintro _ _ ⟨rfl, rfl⟩
      repeat' (first | ((with_reducible apply T.mv); apply rfl; apply rfl) | ((with_reducible apply T.asn); apply rfl; apply rfl) | ((with_reducible apply T.extract); apply rfl; apply rfl; apply rfl) | ((with_reducible apply T.ixF); apply rfl; apply rfl; infer_instance; exact (fun _ => rfl); apply rfl; omega; omega; apply rfl) | ((with_reducible apply T.fieldAddrF); apply rfl; infer_instance; exact (fun _ => rfl); apply rfl; omega; apply rfl) | ((with_reducible apply T.loadF); apply rfl; apply rfl; infer_instance; exact (fun _ => rfl); apply rfl; exact getD_some (by omega); apply rfl; apply rfl) | with_reducible refine Sr.nil ?_ | with_reducible refine S.seq ?_ | with_reducible refine S.reg ?_ | (with_reducible apply T.ofRet) | fail)
      refine T.call rfl rfl (distanceOf_spec hv.2.2.1 hv.2.2.2) ?_
      rintro _ _ ⟨rfl, rfl⟩
      rw [hle.1] at htB
      obtain ⟨-, hle2⟩ := hle
      have hfd : (ts.getD i default).2.2 ≤ 32768 := hv.2.2.2
      have hlb := lbits_le _ hls
      have hdb := dbits_le _ (show disSy (ts.getD i default).2.2 < 30 by omega)
      have hde := dbits_eq _ (show disSy (ts.getD i default).2.2 < 30 by omega)
      rw [hde] at htB
      have hlq : (ts.getD i default).2.1 - lbase (ts.getD i default).2.1 < 4611686018427387904 := by omega
      generalize lenSy (ts.getD i default).2.1 = sy at *
      generalize lbase (ts.getD i default).2.1 = sb at *
      generalize disSy (ts.getD i default).2.2 = dy at *
      generalize (extra dy 2 1).1 = db_ at *
      have e257 : (sy : Int) + 257 = ((sy + 257 : Nat) : Int) := by omega
      have hno : ¬ tokOk ll dl (ts.getD i default) → ∃ t ∈ ts, ¬ tokOk ll dl t := fun h => ⟨_, htm, h⟩
      rw [htO] at hno hokn
      clear htO htk hfi htm
      repeat' (first | ((with_reducible apply T.mv); apply rfl; apply rfl) | ((with_reducible apply T.asn); apply rfl; apply rfl) | ((with_reducible apply T.extract); apply rfl; apply rfl; apply rfl) | with_reducible refine Sr.nil ?_ | (with_reducible apply T.ofRet) | fail)
      refine S.seq ?_
      repeat' (first | ((with_reducible apply T.addI (m := (sy : Int))); apply rfl; apply rfl; omega; apply rfl; rw [e257]) | ((with_reducible apply T.mv); apply rfl; apply rfl) | ((with_reducible apply T.asn); apply rfl; apply rfl) | ((with_reducible apply T.len); apply rfl; apply rfl) | ((with_reducible apply T.geq); apply rfl; apply rfl; apply rfl) | ((with_reducible apply T.eql); apply rfl; apply rfl; apply rfl) | ((with_reducible apply T.ixN); apply rfl; apply rfl; infer_instance; omega; (first | omega | (simp only [List.length_map]; omega) | (simp; omega)); apply rfl) | ((with_reducible apply T.loadNat); apply rfl; infer_instance; (first | omega | (simp only [List.length_map]; omega) | (simp; omega)); apply rfl) | ((with_reducible apply T.pickT); apply rfl; apply rfl; apply rfl) | ((with_reducible apply T.pickF); apply rfl; apply rfl; apply rfl) | with_reducible refine Sr.nil ?_ | with_reducible refine S.seq ?_ | with_reducible refine S.reg ?_ | with_reducible refine S.skip ?_ | ((with_reducible apply T.ung); apply rfl) | ((with_reducible apply T.skip); apply rfl; apply rfl; apply rfl) | ((with_reducible apply S.condT); apply rfl) | ((with_reducible apply T.retW); apply rfl) | ((with_reducible apply S.condQ); apply rfl; all_goals (intro _; try (exfalso; omega))) | ((with_reducible apply T.gcase); apply rfl; apply rfl; all_goals (intro _; try (exfalso; omega))) | fail)
      all_goals first
        | exact ⟨.blk p (wr oa oc st') 37 :: rw_ oa oc st'.1 :: H, by ((repeat (first | dsimp only [List.set_cons_zero] | dsimp only [List.set_cons_succ])); repeat' first | exact PSub.refl _ | exact PSub.nil | ((with_reducible apply PSub.take); (repeat' first | (with_reducible exact pick_hd) | (with_reducible apply pick_tl))) | (with_reducible apply PSub.drop) | ((apply PSub.take); (repeat' first | exact pick_hd | (apply pick_tl)))), oa, oc, st', false, rfl, rfl, fun h => absurd h (by decide), fun _ => hno (fun h => by omega)⟩
        | skip
      rw [← wl_at ll (sy + 257), ← wl_at dl dy] at htB
      simp only at htB
      have n1 := wordW_spec (F := F) (M := M) (H := .row (some ⟨db, 0, none⟩) dl.length 3 1 dl.length ((wl dl).map nV) :: .row (some ⟨wb, 0, none⟩) ll.length 3 1 ll.length ((wl ll).map nV) :: H) (p := p) (oc := oc) (oa := oa) (n := (wl ll).getD (sy + 257) 0) (l := ll.getD (sy + 257) 0) hWi
        (by rw [wl_at]; exact W_bound hll h15 _) (Nat.le_trans (h15 _) (by omega)) (by omega)
      have hW1 := wr_puts hWi (more := wordB ((wl ll).getD (sy + 257) 0) (ll.getD (sy + 257) 0)) wordB_two
      have hL1 : (wordB ((wl ll).getD (sy + 257) 0) (ll.getD (sy + 257) 0)).length ≤ 15 := by rw [wordB_len]; exact h15 _
      ((with_reducible apply S.draw); (case Hs => exact .row (some ⟨db, 0, none⟩) dl.length 3 1 dl.length ((wl dl).map nV) :: .row (some ⟨wb, 0, none⟩) ll.length 3 1 ll.length ((wl ll).map nV) :: H); (case es => exact  [11]); (case n => exact  12); (case hn => rfl))
      repeat' (first | ((with_reducible apply T.addI (m := (sy : Int))); apply rfl; apply rfl; omega; apply rfl; rw [e257]) | ((with_reducible apply T.call); apply rfl; apply rfl; with_reducible exact n1; rintro _ _ ⟨oa2, oc2, rfl, rfl⟩) | ((with_reducible apply T.mv); apply rfl; apply rfl) | ((with_reducible apply T.ixN); apply rfl; apply rfl; infer_instance; omega; (first | omega | (simp only [List.length_map]; omega) | (simp; omega)); apply rfl) | ((with_reducible apply T.loadNat); apply rfl; infer_instance; (first | omega | (simp only [List.length_map]; omega) | (simp; omega)); apply rfl) | with_reducible refine Sr.nil ?_ | with_reducible refine S.seq ?_ | (with_reducible apply T.ofRet) | ((with_reducible apply SA.qn); apply rfl; apply rfl; apply rfl; apply rfl; kernel_rfl) | ((with_reducible apply SA.en); apply rfl; apply rfl; kernel_rfl) | ((with_reducible apply SA.done); apply rfl; kernel_rfl) | ((with_reducible apply SK.intro); (first | exact fun _ h => h | exact fun _ h => St.psub h (by ((repeat (first | dsimp only [List.set_cons_zero] | dsimp only [List.set_cons_succ])); repeat' first | exact PSub.refl _ | exact PSub.nil | ((with_reducible apply PSub.take); (repeat' first | (with_reducible exact pick_hd) | (with_reducible apply pick_tl))) | (with_reducible apply PSub.drop) | ((apply PSub.take); (repeat' first | exact pick_hd | (apply pick_tl))))))) | fail)
      generalize wordB ((wl ll).getD (sy + 257) 0) (ll.getD (sy + 257) 0) = w1 at *
      clear n1
      have e2 : (((ts.getD i default).2.1 : Nat) : Int) - (sb : Int) = (((ts.getD i default).2.1 - sb : Nat) : Int) := by omega
      have n2a := lengthBits_spec (F := F) (M := M) (H := .blk p (wr oa2 oc2 (wputs st' w1)) 37 :: rw_ oa2 oc2 (wputs st' w1).1 :: .row (some ⟨db, 0, none⟩) dl.length 3 1 dl.length ((wl dl).map nV) :: .row (some ⟨wb, 0, none⟩) ll.length 3 1 ll.length ((wl ll).map nV) :: H) (s := sy) hls
      have n2 := numberW_spec (F := F) (M := M) (H := .row (some ⟨db, 0, none⟩) dl.length 3 1 dl.length ((wl dl).map nV) :: .row (some ⟨wb, 0, none⟩) ll.length 3 1 ll.length ((wl ll).map nV) :: H) (p := p) (oc := oc2) (oa := oa2) (n := (ts.getD i default).2.1 - sb) (k := lbits sy) hW1 hlq (by omega) (by rw [List.length_append]; omega)
      have hW2 := wr_puts hW1 (more := numB ((ts.getD i default).2.1 - sb) (lbits sy)) numB_two
      have hL2 : (numB ((ts.getD i default).2.1 - sb) (lbits sy)).length ≤ 15 := by rw [numB_len]; omega
      ((with_reducible apply S.draw); (case Hs => exact .row (some ⟨db, 0, none⟩) dl.length 3 1 dl.length ((wl dl).map nV) :: .row (some ⟨wb, 0, none⟩) ll.length 3 1 ll.length ((wl ll).map nV) :: H); (case es => exact  [9, 10]); (case n => exact  11); (case hn => rfl))
      repeat' (first | ((with_reducible apply T.subI); apply rfl; apply rfl; omega; apply rfl; rw [e2]) | ((with_reducible apply T.call); apply rfl; apply rfl; with_reducible exact n2a; rintro _ _ ⟨rfl, rfl⟩) | ((with_reducible apply T.call); apply rfl; apply rfl; with_reducible exact n2; rintro _ _ ⟨oa3, oc3, rfl, rfl⟩) | ((with_reducible apply T.mv); apply rfl; apply rfl) | ((with_reducible apply T.ixF); apply rfl; apply rfl; infer_instance; exact (fun _ => rfl); apply rfl; omega; omega; apply rfl) | ((with_reducible apply T.fieldAddrF); apply rfl; infer_instance; exact (fun _ => rfl); apply rfl; omega; apply rfl) | ((with_reducible apply T.loadF); apply rfl; apply rfl; infer_instance; exact (fun _ => rfl); apply rfl; exact getD_some (by omega); apply rfl; apply rfl) | with_reducible refine Sr.nil ?_ | with_reducible refine S.seq ?_ | (with_reducible apply T.ofRet) | ((with_reducible apply SA.qn); apply rfl; apply rfl; apply rfl; apply rfl; kernel_rfl) | ((with_reducible apply SA.qsn); apply rfl; apply rfl; apply rfl; kernel_rfl; (first | exact fun _ h => h | exact fun _ h => St.psub h (by ((repeat (first | dsimp only [List.set_cons_zero] | dsimp only [List.set_cons_succ])); repeat' first | exact PSub.refl _ | exact PSub.nil | ((with_reducible apply PSub.take); (repeat' first | (with_reducible exact pick_hd) | (with_reducible apply pick_tl))) | (with_reducible apply PSub.drop) | ((apply PSub.take); (repeat' first | exact pick_hd | (apply pick_tl))))))) | ((with_reducible apply SA.en); apply rfl; apply rfl; kernel_rfl) | ((with_reducible apply SA.done); apply rfl; kernel_rfl) | ((with_reducible apply SK.intro); (first | exact fun _ h => h | exact fun _ h => St.psub h (by ((repeat (first | dsimp only [List.set_cons_zero] | dsimp only [List.set_cons_succ])); repeat' first | exact PSub.refl _ | exact PSub.nil | ((with_reducible apply PSub.take); (repeat' first | (with_reducible exact pick_hd) | (with_reducible apply pick_tl))) | (with_reducible apply PSub.drop) | ((apply PSub.take); (repeat' first | exact pick_hd | (apply pick_tl))))))) | fail)
      generalize numB ((ts.getD i default).2.1 - sb) (lbits sy) = w2 at *
      clear n2 n2a
      have n3 := wordW_spec (F := F) (M := M) (H := .row (some ⟨db, 0, none⟩) dl.length 3 1 dl.length ((wl dl).map nV) :: .row (some ⟨wb, 0, none⟩) ll.length 3 1 ll.length ((wl ll).map nV) :: H) (p := p) (oc := oc3) (oa := oa3) (n := (wl dl).getD dy 0) (l := dl.getD dy 0) hW2
        (by rw [wl_at]; exact W_bound hdl h15d _) (Nat.le_trans (h15d _) (by omega)) (by rw [List.length_append, List.length_append]; omega)
      have hW3 := wr_puts hW2 (more := wordB ((wl dl).getD dy 0) (dl.getD dy 0)) wordB_two
      have hL3 : (wordB ((wl dl).getD dy 0) (dl.getD dy 0)).length ≤ 15 := by rw [wordB_len]; exact h15d _
      ((with_reducible apply S.draw); (case Hs => exact .row (some ⟨db, 0, none⟩) dl.length 3 1 dl.length ((wl dl).map nV) :: .row (some ⟨wb, 0, none⟩) ll.length 3 1 ll.length ((wl ll).map nV) :: H); (case es => exact  [9]); (case n => exact  10); (case hn => rfl))
      repeat' (first | ((with_reducible apply T.call); apply rfl; apply rfl; with_reducible exact n3; rintro _ _ ⟨oa4, oc4, rfl, rfl⟩) | ((with_reducible apply T.mv); apply rfl; apply rfl) | ((with_reducible apply T.ixN); apply rfl; apply rfl; infer_instance; omega; (first | omega | (simp only [List.length_map]; omega) | (simp; omega)); apply rfl) | ((with_reducible apply T.loadNat); apply rfl; infer_instance; (first | omega | (simp only [List.length_map]; omega) | (simp; omega)); apply rfl) | with_reducible refine Sr.nil ?_ | (with_reducible apply T.ofRet) | ((with_reducible apply SA.qn); apply rfl; apply rfl; apply rfl; apply rfl; kernel_rfl) | ((with_reducible apply SA.en); apply rfl; apply rfl; kernel_rfl) | ((with_reducible apply SA.done); apply rfl; kernel_rfl) | ((with_reducible apply SK.intro); (first | exact fun _ h => h | exact fun _ h => St.psub h (by ((repeat (first | dsimp only [List.set_cons_zero] | dsimp only [List.set_cons_succ])); repeat' first | exact PSub.refl _ | exact PSub.nil | ((with_reducible apply PSub.take); (repeat' first | (with_reducible exact pick_hd) | (with_reducible apply pick_tl))) | (with_reducible apply PSub.drop) | ((apply PSub.take); (repeat' first | exact pick_hd | (apply pick_tl))))))) | fail)
      generalize wordB ((wl dl).getD dy 0) (dl.getD dy 0) = w3 at *
      clear n3
      have e4 : (((ts.getD i default).2.2 : Nat) : Int) - (db_ : Int) = (((ts.getD i default).2.2 - db_ : Nat) : Int) := by omega
      have hdq : (ts.getD i default).2.2 - db_ < 4611686018427387904 := by have := hfd; omega
      have n4a := distanceBits_spec (F := F) (M := M) (H := .blk p (wr oa4 oc4 (wputs (wputs (wputs st' w1) w2) w3)) 37 :: rw_ oa4 oc4 (wputs (wputs (wputs st' w1) w2) w3).1 :: .row (some ⟨db, 0, none⟩) dl.length 3 1 dl.length ((wl dl).map nV) :: .row (some ⟨wb, 0, none⟩) ll.length 3 1 ll.length ((wl ll).map nV) :: H) (s := dy) (by omega)
      have n4 := numberW_spec (F := F) (M := M) (H := .row (some ⟨db, 0, none⟩) dl.length 3 1 dl.length ((wl dl).map nV) :: .row (some ⟨wb, 0, none⟩) ll.length 3 1 ll.length ((wl ll).map nV) :: H) (p := p) (oc := oc4) (oa := oa4) (n := (ts.getD i default).2.2 - db_) (k := dbits dy) hW3 hdq (by omega) (by simp only [List.length_append]; omega)
      ((with_reducible apply S.draw); (case Hs => exact .row (some ⟨db, 0, none⟩) dl.length 3 1 dl.length ((wl dl).map nV) :: .row (some ⟨wb, 0, none⟩) ll.length 3 1 ll.length ((wl ll).map nV) :: H); (case es => exact  [9, 10]); (case n => exact  11); (case hn => rfl))
      repeat' (first | ((with_reducible apply T.subI); apply rfl; apply rfl; omega; apply rfl; rw [e4]) | ((with_reducible apply T.call); apply rfl; apply rfl; with_reducible exact n4a; rintro _ _ ⟨rfl, rfl⟩) | ((with_reducible apply T.call); apply rfl; apply rfl; with_reducible exact n4; rintro _ _ ⟨oa5, oc5, rfl, rfl⟩) | ((with_reducible apply T.mv); apply rfl; apply rfl) | ((with_reducible apply T.asn); apply rfl; apply rfl) | ((with_reducible apply T.addI); apply rfl; apply rfl; omega; apply rfl) | ((with_reducible apply T.ixF); apply rfl; apply rfl; infer_instance; exact (fun _ => rfl); apply rfl; omega; omega; apply rfl) | ((with_reducible apply T.fieldAddrF); apply rfl; infer_instance; exact (fun _ => rfl); apply rfl; omega; apply rfl) | ((with_reducible apply T.loadF); apply rfl; apply rfl; infer_instance; exact (fun _ => rfl); apply rfl; exact getD_some (by omega); apply rfl; apply rfl) | with_reducible refine Sr.nil ?_ | with_reducible refine S.reg ?_ | with_reducible refine S.inBlock ?_ | (with_reducible apply T.ofRet) | ((with_reducible apply SA.qn); apply rfl; apply rfl; apply rfl; apply rfl; kernel_rfl) | ((with_reducible apply SA.qsn); apply rfl; apply rfl; apply rfl; kernel_rfl; (first | exact fun _ h => h | exact fun _ h => St.psub h (by ((repeat (first | dsimp only [List.set_cons_zero] | dsimp only [List.set_cons_succ])); repeat' first | exact PSub.refl _ | exact PSub.nil | ((with_reducible apply PSub.take); (repeat' first | (with_reducible exact pick_hd) | (with_reducible apply pick_tl))) | (with_reducible apply PSub.drop) | ((apply PSub.take); (repeat' first | exact pick_hd | (apply pick_tl))))))) | ((with_reducible apply SA.en); apply rfl; apply rfl; kernel_rfl) | ((with_reducible apply SA.done); apply rfl; kernel_rfl) | ((with_reducible apply SK.intro); (first | exact fun _ h => h | exact fun _ h => St.psub h (by ((repeat (first | dsimp only [List.set_cons_zero] | dsimp only [List.set_cons_succ])); repeat' first | exact PSub.refl _ | exact PSub.nil | ((with_reducible apply PSub.take); (repeat' first | (with_reducible exact pick_hd) | (with_reducible apply pick_tl))) | (with_reducible apply PSub.drop) | ((apply PSub.take); (repeat' first | exact pick_hd | (apply pick_tl))))))) | fail)
      rw [htB, wputs_app, wputs_app, wputs_app] at hnext
      exact ih _ _ _ _ ⟨i + 1, oa5, oc5, _, rfl, rfl, ⟨by omega, hnext, hokn (by omega)⟩, rfl⟩ (by omega) (by repeat' first | exact trivial | refine And.intro rfl ?_)
  · have hie : i = ts.length := by omega
    subst hie
    rw [List.take_length] at hst hok hbs
    have hb2 : toksB ll dl ts = ts.flatMap (tokB ll dl) ++ wordB ((wl ll).getD 256 0) (ll.getD 256 0) := by rw [wl_at]; rfl
    have n1 := wordW_spec (F := F) (M := M) (H := .row (some ⟨db, 0, none⟩) dl.length 3 1 dl.length ((wl dl).map nV) :: .row (some ⟨wb, 0, none⟩) ll.length 3 1 ll.length ((wl ll).map nV) :: H) (p := p) (oc := oc) (oa := oa) (n := (wl ll).getD 256 0) (l := ll.getD 256 0) hWi
      (by rw [wl_at]; exact W_bound hll h15 _) (Nat.le_trans (h15 _) (by omega)) (by omega)
    repeat' (first | ((with_reducible apply S.exit); apply rfl) | fail)
    refine S.seq ?_
    ((with_reducible apply S.draw); (case Hs => exact .row (some ⟨db, 0, none⟩) dl.length 3 1 dl.length ((wl dl).map nV) :: .row (some ⟨wb, 0, none⟩) ll.length 3 1 ll.length ((wl ll).map nV) :: H); (case es => exact  [7]); (case n => exact  8); (case hn => rfl))
    repeat' (first | ((with_reducible apply T.call); apply rfl; apply rfl; with_reducible exact n1; rintro _ _ ⟨oa2, oc2, rfl, rfl⟩) | ((with_reducible apply T.mv); apply rfl; apply rfl) | ((with_reducible apply T.asn); apply rfl; apply rfl) | ((with_reducible apply T.ixC); apply rfl; infer_instance; omega; (first | omega | (simp only [List.length_map]; omega) | (simp; omega)); apply rfl) | ((with_reducible apply T.loadNat); apply rfl; infer_instance; (first | omega | (simp only [List.length_map]; omega) | (simp; omega)); apply rfl) | with_reducible refine Sr.nil ?_ | with_reducible refine S.seq ?_ | with_reducible refine S.reg ?_ | ((with_reducible apply T.retW); apply rfl) | (with_reducible apply T.ofRet) | ((with_reducible apply SA.qn); apply rfl; apply rfl; apply rfl; apply rfl; kernel_rfl) | ((with_reducible apply SA.en); apply rfl; apply rfl; kernel_rfl) | ((with_reducible apply SA.done); apply rfl; kernel_rfl) | ((with_reducible apply SK.intro); (first | exact fun _ h => h | exact fun _ h => St.psub h (by ((repeat (first | dsimp only [List.set_cons_zero] | dsimp only [List.set_cons_succ])); repeat' first | exact PSub.refl _ | exact PSub.nil | ((with_reducible apply PSub.take); (repeat' first | (with_reducible exact pick_hd) | (with_reducible apply pick_tl))) | (with_reducible apply PSub.drop) | ((apply PSub.take); (repeat' first | exact pick_hd | (apply pick_tl))))))) | fail)
    rw [hst, ← wputs_app, ← hb2]
    exact ⟨.blk p (wr oa2 oc2 (wputs st (toksB ll dl ts))) 37 :: rw_ oa2 oc2 (wputs st (toksB ll dl ts)).1 :: H, by ((repeat (first | dsimp only [List.set_cons_zero] | dsimp only [List.set_cons_succ])); repeat' first | exact PSub.refl _ | exact PSub.nil | ((with_reducible apply PSub.take); (repeat' first | (with_reducible exact pick_hd) | (with_reducible apply pick_tl))) | (with_reducible apply PSub.drop) | ((apply PSub.take); (repeat' first | exact pick_hd | (apply pick_tl)))), oa2, oc2, _, true, rfl, rfl, fun _ => ⟨rfl, hok⟩, fun h => absurd h (by decide)⟩
end Go.Proofs.YtjhpbljkpbdnnaaDoor
