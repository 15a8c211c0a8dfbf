/- The walks of the program's kinds of codes. -/
import Derived.Test.YtjhpbljkpbdnnaaDoorInfE
import Derived.Test.YtjhpbljkpbdnnaaDoorInfR
namespace Go.Proofs.YtjhpbljkpbdnnaaDoor
open Sg Go.IntWalk Infl
set_option maxRecDepth 100000
theorem need_spec {F : World} {M : List Nat} {H : List Res} {n lc kn kc : Nat} {la ka : Option Addr} {ls ks : List Nat} [hr : Rd F M H la (ls.map nV)] [hr' : Rd F M H ka (ks.map nV)] (hn : ls.length = n) (hlen : n ≤ 100000) (hkn : ks.length = kn) (hk : kn ≤ 100) :
    Meets Tryd.prog 67 [.slice la n lc, .slice ka kn kc] F M H (fun e H' => if kind ls ∈ ks then ∃ sa sc, e = .returned (.agg ⟨(code ls).1.map nV ++ [.slice sa (code ls).2.length sc]⟩) ∧
      H' = .row sa sc 3 1 (code ls).2.length ((code ls).2.map nV) :: H else e = gave 240 ∧ H' = H) := by
  subst hn hkn
  refine Meets.enter Tryd.func67 rfl rfl ?_
  repeat' (first | ((with_reducible apply T.mv); apply rfl; apply rfl) | ((with_reducible apply T.alloc); apply rfl; intro nb) | with_reducible refine Sr.nil ?_ | with_reducible refine S.seq ?_ | with_reducible refine S.reg ?_ | fail)
  revert nb
  intro b4
  refine T.call rfl rfl (words_spec rfl hlen) ?_
  rintro _ _ ⟨sa, sc, rfl, rfl⟩
  have hcl : (code ls).1.length = 16 := (code_mk ls).len
  repeat' (first | ((with_reducible apply T.mv); apply rfl; apply rfl) | ((with_reducible apply T.asn); apply rfl; apply rfl) | ((with_reducible apply T.len); apply rfl; apply rfl) | ((with_reducible apply T.extract); apply rfl; apply rfl; apply rfl) | ((with_reducible apply T.storeW); apply rfl; apply rfl; infer_instance; (first | rfl | ((first | simp only [List.length_append] | simp only [List.length_map] | simp only [List.length_set] | simp only [List.length_replicate] | simp only [List.length_cons] | simp only [List.length_nil]); (repeat (first | simp only [List.length_append] | simp only [List.length_map] | simp only [List.length_set] | simp only [List.length_replicate] | simp only [List.length_cons] | simp only [List.length_nil])); first | done | omega)); (first | rfl | ((first | simp only [List.length_append] | simp only [List.length_map] | simp only [List.length_set] | simp only [List.length_replicate] | simp only [List.length_cons] | simp only [List.length_nil]); (repeat (first | simp only [List.length_append] | simp only [List.length_map] | simp only [List.length_set] | simp only [List.length_replicate] | simp only [List.length_cons] | simp only [List.length_nil])); first | done | omega)); (first | rfl | (repeat' first | apply all_nV | apply all_bV | apply all_iV | rfl | apply all_app))) | ((with_reducible apply T.alloc); apply rfl; intro nb) | with_reducible refine Sr.nil ?_ | with_reducible refine S.seq ?_ | with_reducible refine S.block ?_ | with_reducible refine S.reg ?_ | (with_reducible apply T.ofRet) | fail)
  revert nb
  intro b5
  refine S.loop (fun μ H' e => ∃ (j : Nat), H' = .blk b5 ((code ls).1.map nV ++ [.slice sa (code ls).2.length sc]) 76 :: .row sa sc 3 1 (code ls).2.length ((code ls).2.map nV) :: .blk b4 ((List.replicate 16 0).map nV ++ [.slice none 0 0]) 76 :: H ∧
    e = [(4, .pointer (some ⟨b4, 0, none⟩)), (5, .pointer (some ⟨b5, 0, none⟩)), (6, .int .i64 (kind ls)), (14, .slice ka ks.length kc), (15, .int .i64 ks.length), (16, .int .i64 j)] ∧
    (j ≤ ks.length ∧ (kind ls ∈ ks ↔ kind ls ∈ ks.drop j)) ∧ μ = ks.length - j) ?_ _ _ ⟨0, rfl, rfl, ⟨by omega, Iff.rfl⟩, rfl⟩ ⟨rfl, rfl, rfl, rfl, rfl, rfl, trivial⟩
  rintro _ _ _ ⟨j, rfl, rfl, ⟨h1, h2⟩, rfl⟩ ih
  have hdr : j < ks.length → ks.drop j = ks.getD j 0 :: ks.drop (j + 1) := fun h => by
    rw [List.drop_eq_getElem_cons h]
    simp [List.getD, h]
  repeat' (first | ((with_reducible apply T.mv); apply rfl; apply rfl) | ((with_reducible apply T.asn); apply rfl; apply rfl) | ((with_reducible apply T.lss); apply rfl; apply rfl; apply rfl) | ((with_reducible apply T.eql); apply rfl; apply rfl; apply rfl) | ((with_reducible apply T.addI); apply rfl; apply rfl; omega; apply rfl) | ((with_reducible apply T.ixN); apply rfl; apply rfl; infer_instance; omega; (first | omega | (simp; omega)); apply rfl) | ((with_reducible apply T.loadNat); apply rfl; infer_instance; (first | omega | (simp; omega)); apply rfl) | ((with_reducible apply T.loadW); apply rfl; apply rfl; infer_instance; (first | rfl | ((first | simp only [List.length_append] | simp only [List.length_map] | simp only [List.length_set] | simp only [List.length_replicate] | simp only [List.length_cons] | simp only [List.length_nil]); (repeat (first | simp only [List.length_append] | simp only [List.length_map] | simp only [List.length_set] | simp only [List.length_replicate] | simp only [List.length_cons] | simp only [List.length_nil])); first | done | omega)); apply rfl) | ((with_reducible apply T.storeW); apply rfl; apply rfl; infer_instance; (first | rfl | ((first | simp only [List.length_append] | simp only [List.length_map] | simp only [List.length_set] | simp only [List.length_replicate] | simp only [List.length_cons] | simp only [List.length_nil]); (repeat (first | simp only [List.length_append] | simp only [List.length_map] | simp only [List.length_set] | simp only [List.length_replicate] | simp only [List.length_cons] | simp only [List.length_nil])); first | done | omega)); (first | rfl | ((first | simp only [List.length_append] | simp only [List.length_map] | simp only [List.length_set] | simp only [List.length_replicate] | simp only [List.length_cons] | simp only [List.length_nil]); (repeat (first | simp only [List.length_append] | simp only [List.length_map] | simp only [List.length_set] | simp only [List.length_replicate] | simp only [List.length_cons] | simp only [List.length_nil])); first | done | omega)); (first | rfl | (repeat' first | apply all_nV | apply all_bV | apply all_iV | rfl | apply all_app))) | with_reducible refine Sr.nil ?_ | with_reducible refine S.seq ?_ | with_reducible refine S.block ?_ | with_reducible refine S.reg ?_ | with_reducible refine S.skip ?_ | with_reducible refine S.inBlock ?_ | ((with_reducible apply S.exit); apply rfl) | ((with_reducible apply T.retC); apply rfl; ((repeat' first | apply RV.nil | (apply RV.tmp; apply rfl) | (apply RV.cellW; apply rfl; apply rfl; infer_instance; (first | rfl | ((first | simp only [List.length_append] | simp only [List.length_map] | simp only [List.length_set] | simp only [List.length_replicate] | simp only [List.length_cons] | simp only [List.length_nil]); (repeat (first | simp only [List.length_append] | simp only [List.length_map] | simp only [List.length_set] | simp only [List.length_replicate] | simp only [List.length_cons] | simp only [List.length_nil])); first | done | omega))) | (apply RV.cellP; apply rfl; apply rfl; infer_instance; apply rfl))); apply rfl) | ((with_reducible apply S.condQ); apply rfl; all_goals (intro _; try (exfalso; omega))) | fail)
  · rename_i hj hk'
    rw [hdr (by omega), List.mem_cons] at h2
    refine ⟨.row sa sc 3 1 (code ls).2.length ((code ls).2.map nV) :: H, by ((repeat (first | dsimp only [List.set_cons_zero] | dsimp only [List.set_cons_succ])); repeat' first | exact PSub.refl _ | exact PSub.nil | ((with_reducible apply PSub.take); (repeat' first | (with_reducible exact pick_hd) | (with_reducible apply pick_tl))) | (with_reducible apply PSub.drop) | ((apply PSub.take); (repeat' first | exact pick_hd | (apply pick_tl)))), ?_⟩
    dsimp only
    rw [if_pos (h2.2 (.inl (by omega)))]
    exact ⟨sa, sc, rfl, rfl⟩
  · rename_i hj hk'
    rw [hdr (by omega), List.mem_cons] at h2
    refine ih _ _ _ _ ⟨j + 1, rfl, rfl, ⟨by omega, h2.trans ⟨fun h => h.resolve_left (by omega), .inr⟩⟩, rfl⟩ (by omega) ⟨rfl, rfl, rfl, rfl, rfl, rfl, trivial⟩
  · refine T.call rfl rfl (give_spec 240) ?_
    rintro _ _ ⟨rfl, rfl⟩
    repeat' (first | (with_reducible apply T.diesW) | (with_reducible apply T.ofPan) | fail)
    refine ⟨H, by ((repeat (first | dsimp only [List.set_cons_zero] | dsimp only [List.set_cons_succ])); repeat' first | exact PSub.refl _ | exact PSub.nil | ((with_reducible apply PSub.take); (repeat' first | (with_reducible exact pick_hd) | (with_reducible apply pick_tl))) | (with_reducible apply PSub.drop) | ((apply PSub.take); (repeat' first | exact pick_hd | (apply pick_tl)))), ?_⟩
    dsimp only
    rw [if_neg (fun h => by rw [h2, List.drop_eq_nil_of_le (by omega)] at h; cases h)]
    exact ⟨rfl, rfl⟩
/-- Cells of code values. -/
abbrev cd (ls : List Nat) (sa : Option Addr) (sc : Nat) : List Value := (code ls).1.map nV ++ [.slice sa (code ls).2.length sc]
abbrev sy (ls : List Nat) (sa : Option Addr) (sc : Nat) : Res := .row sa sc 3 1 (code ls).2.length ((code ls).2.map nV)
theorem fixed_spec {F : World} {M : List Nat} {H : List Res} : Meets Tryd.prog 52 [] F M H (fun e H' => ∃ sa sc ta tc, e = .returned (.tuple ⟨[.agg ⟨cd fixedL sa sc⟩, .agg ⟨cd fixedD ta tc⟩]⟩) ∧ H' = sy fixedD ta tc :: sy fixedL sa sc :: H) := by
  refine Meets.enter Tryd.func52 rfl rfl ?_
  repeat' (first | ((with_reducible apply T.alloc); apply rfl; intro nb) | with_reducible refine Sr.nil ?_ | with_reducible refine S.seq ?_ | with_reducible refine S.reg ?_ | fail)
  rename_i b0
  revert nb
  intro b1
  refine T.makeS (n := 288) rfl rfl rfl (by omega) rfl ?_
  intro b2
  repeat' (first | ((with_reducible apply T.mv); apply rfl; apply rfl) | ((with_reducible apply T.asn); apply rfl; apply rfl) | ((with_reducible apply T.len); apply rfl; apply rfl) | with_reducible refine Sr.nil ?_ | with_reducible refine S.seq ?_ | with_reducible refine S.block ?_ | with_reducible refine S.reg ?_ | fail)
  refine S.loop (fun μ H' e => ∃ (s : Nat) (ls : List Nat), H' = .row (some ⟨b2, 0, none⟩) 288 3 1 288 (ls.map nV) :: .blk b1 ((List.replicate 16 0).map nV ++ [.slice none 0 0]) 76 :: .blk b0 ((List.replicate 16 0).map nV ++ [.slice none 0 0]) 76 :: H ∧
    e = [(0, .pointer (some ⟨b0, 0, none⟩)), (1, .pointer (some ⟨b1, 0, none⟩)), (2, .slice (some ⟨b2, 0, none⟩) 288 288), (11, .slice (some ⟨b2, 0, none⟩) 288 288), (12, .int .i64 288), (13, .int .i64 s)] ∧
    (s ≤ 288 ∧ ls.length = 288 ∧ ∀ j, j < s → ls.getD j 0 = fixedL.getD j 0) ∧ μ = 288 - s) ?_ _ _ ⟨0, List.replicate 288 0, by rw [List.map_replicate]; rfl, rfl, ⟨by omega, by simp, by omega⟩, rfl⟩ ⟨rfl, rfl, rfl, rfl, rfl, rfl, trivial⟩
  · rintro _ _ _ ⟨s, ls, rfl, rfl, ⟨h1, h2, h3⟩, rfl⟩ ih
    have next : ∀ v, s < 288 → fixedL.getD s 0 = v → ∀ j, j < s + 1 → (ls.set s v).getD j 0 = fixedL.getD j 0 := by
      intro v hs hv j hj
      rw [List.getD_eq_getElem?_getD, List.getElem?_set]
      by_cases hjs : s = j
      · subst hjs
        rw [if_pos rfl, if_pos (by omega), Option.getD_some, hv]
      · rw [if_neg hjs, ← List.getD_eq_getElem?_getD]
        exact h3 j (by omega)
    have fx : ∀ s, s < 288 → fixedL.getD s 0 = if s < 144 then 8 else if s < 256 then 9 else if s < 280 then 7 else 8 := by decide
    repeat' (first | ((with_reducible apply T.mv); apply rfl; apply rfl) | ((with_reducible apply T.asn); apply rfl; apply rfl) | ((with_reducible apply T.lss); apply rfl; apply rfl; apply rfl) | ((with_reducible apply T.addI); apply rfl; apply rfl; omega; apply rfl) | ((with_reducible apply T.ixN); apply rfl; apply rfl; infer_instance; omega; (first | omega | (simp; omega)); apply rfl) | ((with_reducible apply T.storeEN); apply rfl; apply rfl; infer_instance; (first | omega | (simp; omega))) | with_reducible refine Sr.nil ?_ | with_reducible refine S.seq ?_ | with_reducible refine S.block ?_ | with_reducible refine S.reg ?_ | with_reducible refine S.skip ?_ | with_reducible refine S.inBlock ?_ | ((with_reducible apply S.exit); apply rfl) | ((with_reducible apply S.condQ); apply rfl; all_goals (intro _; try (exfalso; omega))) | fail)
    iterate 4
      refine ih _ _ _ _ ⟨s + 1, ls.set s _, rfl, rfl, ⟨by omega, by simpa using h2, next _ (by omega) (by rw [fx s (by omega)]; (repeat' split) <;> first | rfl | omega)⟩, rfl⟩ (by omega) ⟨rfl, rfl, rfl, rfl, rfl, rfl, trivial⟩
    have hls : ls = fixedL := List.ext_getElem (by rw [h2]; rfl) fun j q1 q2 => by
      have := h3 j (by omega)
      simpa [List.getD, q1, q2] using this
    subst hls
    clear ih h3 next fx h2
    refine T.makeS (n := 32) rfl rfl rfl (by omega) rfl ?_
    intro b3
    repeat' (first | ((with_reducible apply T.mv); apply rfl; apply rfl) | ((with_reducible apply T.asn); apply rfl; apply rfl) | ((with_reducible apply T.len); apply rfl; apply rfl) | with_reducible refine Sr.nil ?_ | with_reducible refine S.seq ?_ | with_reducible refine S.block ?_ | with_reducible refine S.reg ?_ | fail)
    refine S.loop (fun μ H' e => ∃ (s : Nat) (ds : List Nat), H' = .row (some ⟨b3, 0, none⟩) 32 3 1 32 (ds.map nV) :: .row (some ⟨b2, 0, none⟩) 288 3 1 288 (fixedL.map nV) :: .blk b1 ((List.replicate 16 0).map nV ++ [.slice none 0 0]) 76 :: .blk b0 ((List.replicate 16 0).map nV ++ [.slice none 0 0]) 76 :: H ∧
      e = [(0, .pointer (some ⟨b0, 0, none⟩)), (1, .pointer (some ⟨b1, 0, none⟩)), (2, .slice (some ⟨b2, 0, none⟩) 288 288), (4, .slice (some ⟨b3, 0, none⟩) 32 32), (39, .slice (some ⟨b3, 0, none⟩) 32 32), (40, .int .i64 32), (41, .int .i64 s)] ∧
      (s ≤ 32 ∧ ds.length = 32 ∧ ∀ j, j < s → ds.getD j 0 = 5) ∧ μ = 32 - s) ?_ _ _ ⟨0, List.replicate 32 0, by rw [List.map_replicate]; rfl, rfl, ⟨by omega, by simp, by omega⟩, rfl⟩ ⟨rfl, rfl, rfl, rfl, rfl, rfl, rfl, trivial⟩
    rintro _ _ _ ⟨s, ls, rfl, rfl, ⟨h1, h2, h3⟩, rfl⟩ ih
    repeat' (first | ((with_reducible apply T.mv); apply rfl; apply rfl) | ((with_reducible apply T.asn); apply rfl; apply rfl) | ((with_reducible apply T.lss); apply rfl; apply rfl; apply rfl) | ((with_reducible apply T.addI); apply rfl; apply rfl; omega; apply rfl) | ((with_reducible apply T.ixN); apply rfl; apply rfl; infer_instance; omega; (first | omega | (simp; omega)); apply rfl) | ((with_reducible apply T.storeEN); apply rfl; apply rfl; infer_instance; (first | omega | (simp; omega))) | with_reducible refine Sr.nil ?_ | with_reducible refine S.seq ?_ | with_reducible refine S.block ?_ | with_reducible refine S.reg ?_ | with_reducible refine S.skip ?_ | with_reducible refine S.inBlock ?_ | ((with_reducible apply S.exit); apply rfl) | ((with_reducible apply S.condQ); apply rfl; all_goals (intro _; try (exfalso; omega))) | fail)
    · refine ih _ _ _ _ ⟨s + 1, ls.set s _, rfl, rfl, ⟨by omega, by simpa using h2, fun j hj => ?_⟩, rfl⟩ (by omega) ⟨rfl, rfl, rfl, rfl, rfl, rfl, rfl, trivial⟩
      rw [List.getD_eq_getElem?_getD, List.getElem?_set]
      by_cases hjs : s = j
      · subst hjs
        rw [if_pos rfl, if_pos (by omega), Option.getD_some]
      · rw [if_neg hjs, ← List.getD_eq_getElem?_getD]
        exact h3 j (by omega)
    have hls : ls = fixedD := List.ext_getElem (by rw [h2]; rfl) fun j q1 q2 => by
      have := h3 j (by omega)
      have h5 : fixedD[j] = 5 := by unfold fixedD; exact List.getElem_replicate _
      rw [h5]
      simpa [List.getD, q1] using this
    subst hls
    clear ih h3 h2
    refine T.call rfl rfl (words_spec (ls := fixedL) rfl (by omega)) ?_
    rintro _ _ ⟨sa, sc, rfl, rfl⟩
    have hc1 : (code fixedL).1.length = 16 := (code_mk _).len
    have hc2 : (code fixedD).1.length = 16 := (code_mk _).len
    repeat' (first | ((with_reducible apply T.mv); apply rfl; apply rfl) | ((with_reducible apply T.asn); apply rfl; apply rfl) | ((with_reducible apply T.extract); apply rfl; apply rfl; apply rfl) | ((with_reducible apply T.storeW); apply rfl; apply rfl; infer_instance; (first | rfl | ((first | simp only [List.length_append] | simp only [List.length_map] | simp only [List.length_set] | simp only [List.length_replicate] | simp only [List.length_cons] | simp only [List.length_nil]); (repeat (first | simp only [List.length_append] | simp only [List.length_map] | simp only [List.length_set] | simp only [List.length_replicate] | simp only [List.length_cons] | simp only [List.length_nil])); first | done | omega)); (first | rfl | ((first | simp only [List.length_append] | simp only [List.length_map] | simp only [List.length_set] | simp only [List.length_replicate] | simp only [List.length_cons] | simp only [List.length_nil]); (repeat (first | simp only [List.length_append] | simp only [List.length_map] | simp only [List.length_set] | simp only [List.length_replicate] | simp only [List.length_cons] | simp only [List.length_nil])); first | done | omega)); (first | rfl | (repeat' first | apply all_nV | apply all_bV | apply all_iV | rfl | apply all_app))) | ((with_reducible apply T.alloc); apply rfl; intro nb) | with_reducible refine Sr.nil ?_ | with_reducible refine S.seq ?_ | with_reducible refine S.reg ?_ | (with_reducible apply T.ofRet) | fail)
    revert nb
    intro b6
    refine T.call rfl rfl (words_spec (ls := fixedD) rfl (by omega)) ?_
    rintro _ _ ⟨ta, tc, rfl, rfl⟩
    repeat' (first | ((with_reducible apply T.mv); apply rfl; apply rfl) | ((with_reducible apply T.asn); apply rfl; apply rfl) | ((with_reducible apply T.extract); apply rfl; apply rfl; apply rfl) | ((with_reducible apply T.storeW); apply rfl; apply rfl; infer_instance; (first | rfl | ((first | simp only [List.length_append] | simp only [List.length_map] | simp only [List.length_set] | simp only [List.length_replicate] | simp only [List.length_cons] | simp only [List.length_nil]); (repeat (first | simp only [List.length_append] | simp only [List.length_map] | simp only [List.length_set] | simp only [List.length_replicate] | simp only [List.length_cons] | simp only [List.length_nil])); first | done | omega)); (first | rfl | ((first | simp only [List.length_append] | simp only [List.length_map] | simp only [List.length_set] | simp only [List.length_replicate] | simp only [List.length_cons] | simp only [List.length_nil]); (repeat (first | simp only [List.length_append] | simp only [List.length_map] | simp only [List.length_set] | simp only [List.length_replicate] | simp only [List.length_cons] | simp only [List.length_nil])); first | done | omega)); (first | rfl | (repeat' first | apply all_nV | apply all_bV | apply all_iV | rfl | apply all_app))) | ((with_reducible apply T.alloc); apply rfl; intro nb) | with_reducible refine Sr.nil ?_ | with_reducible refine S.seq ?_ | (with_reducible apply T.ofRet) | fail)
    revert nb
    intro b8
    ((with_reducible apply S.draw); (case Hs => exact [.blk b8 (cd fixedD ta tc) 76, .blk b6 (cd fixedL sa sc) 76]); (case es => exact  [2, 3]); (case n => exact  4); (case hn => rfl))
    repeat' (first | ((with_reducible apply T.loadW); apply rfl; apply rfl; infer_instance; (first | rfl | ((first | simp only [List.length_append] | simp only [List.length_map] | simp only [List.length_set] | simp only [List.length_replicate] | simp only [List.length_cons] | simp only [List.length_nil]); (repeat (first | simp only [List.length_append] | simp only [List.length_map] | simp only [List.length_set] | simp only [List.length_replicate] | simp only [List.length_cons] | simp only [List.length_nil])); first | done | omega)); apply rfl) | ((with_reducible apply T.storeW); apply rfl; apply rfl; infer_instance; (first | rfl | ((first | simp only [List.length_append] | simp only [List.length_map] | simp only [List.length_set] | simp only [List.length_replicate] | simp only [List.length_cons] | simp only [List.length_nil]); (repeat (first | simp only [List.length_append] | simp only [List.length_map] | simp only [List.length_set] | simp only [List.length_replicate] | simp only [List.length_cons] | simp only [List.length_nil])); first | done | omega)); (first | rfl | ((first | simp only [List.length_append] | simp only [List.length_map] | simp only [List.length_set] | simp only [List.length_replicate] | simp only [List.length_cons] | simp only [List.length_nil]); (repeat (first | simp only [List.length_append] | simp only [List.length_map] | simp only [List.length_set] | simp only [List.length_replicate] | simp only [List.length_cons] | simp only [List.length_nil])); first | done | omega)); (first | rfl | (repeat' first | apply all_nV | apply all_bV | apply all_iV | rfl | apply all_app))) | with_reducible refine Sr.nil ?_ | ((with_reducible apply T.retC); apply rfl; ((repeat' first | apply RV.nil | (apply RV.tmp; apply rfl) | (apply RV.cellW; apply rfl; apply rfl; infer_instance; (first | rfl | ((first | simp only [List.length_append] | simp only [List.length_map] | simp only [List.length_set] | simp only [List.length_replicate] | simp only [List.length_cons] | simp only [List.length_nil]); (repeat (first | simp only [List.length_append] | simp only [List.length_map] | simp only [List.length_set] | simp only [List.length_replicate] | simp only [List.length_cons] | simp only [List.length_nil])); first | done | omega))) | (apply RV.cellP; apply rfl; apply rfl; infer_instance; apply rfl))); apply rfl) | ((with_reducible apply SA.qn); apply rfl; apply rfl; apply rfl; apply rfl; kernel_rfl) | ((with_reducible apply SA.qsn); apply rfl; apply rfl; apply rfl; kernel_rfl; (first | exact fun _ h => h | exact fun _ h => St.psub h (by ((repeat (first | dsimp only [List.set_cons_zero] | dsimp only [List.set_cons_succ])); repeat' first | exact PSub.refl _ | exact PSub.nil | ((with_reducible apply PSub.take); (repeat' first | (with_reducible exact pick_hd) | (with_reducible apply pick_tl))) | (with_reducible apply PSub.drop) | ((apply PSub.take); (repeat' first | exact pick_hd | (apply pick_tl))))))) | ((with_reducible apply SA.en); apply rfl; apply rfl; kernel_rfl) | ((with_reducible apply SA.done); apply rfl; kernel_rfl) | ((with_reducible apply SK.intro); (first | exact fun _ h => h | exact fun _ h => St.psub h (by ((repeat (first | dsimp only [List.set_cons_zero] | dsimp only [List.set_cons_succ])); repeat' first | exact PSub.refl _ | exact PSub.nil | ((with_reducible apply PSub.take); (repeat' first | (with_reducible exact pick_hd) | (with_reducible apply pick_tl))) | (with_reducible apply PSub.drop) | ((apply PSub.take); (repeat' first | exact pick_hd | (apply pick_tl))))))) | fail)
    skip
    exact ⟨sy fixedD ta tc :: sy fixedL sa sc :: H, by ((repeat (first | dsimp only [List.set_cons_zero] | dsimp only [List.set_cons_succ])); repeat' first | exact PSub.refl _ | exact PSub.nil | ((with_reducible apply PSub.take); (repeat' first | (with_reducible exact pick_hd) | (with_reducible apply pick_tl))) | (with_reducible apply PSub.drop) | ((apply PSub.take); (repeat' first | exact pick_hd | (apply pick_tl)))), sa, sc, ta, tc, rfl, rfl⟩
end Go.Proofs.YtjhpbljkpbdnnaaDoor
