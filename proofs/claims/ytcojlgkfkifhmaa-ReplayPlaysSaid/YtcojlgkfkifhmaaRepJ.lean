/- The walks of the statements' own helpers: opened, moved; what Take answers. -/
import Derived.Test.YtcojlgkfkifhmaaRepP
/- maps -/
namespace Go.Proofs.Ytcojlgkfkifhmaa
open Sg Go.IntWalk
set_option maxRecDepth 100000
set_option maxHeartbeats 1000000
/-- A new book, or that of an image. -/
def openedM (l : List UInt8) : Bk := match (openM l).1 with
  | some k => k
  | none => ⟨false, 0, []⟩
theorem openedM_good (l : List UInt8) : (openedM l).good := by
  unfold openedM
  cases h : openM l with
  | mk a p =>
    cases a with
    | none => exact new_good
    | some k => exact (openM_ok h).2.2
theorem opened_spec {F : World} {M : List Nat} {H : List Res} {c : Nat} {b : Option Addr} {l : List UInt8} [hR : Rd F M H b (l.map bV)] (hl : l.length ≤ 1000000000000000) (hc : l.length ≤ c) :
    Meets Try.prog 23 [.slice b l.length c] F M H (fun e H' => ∃ q mb, e = .returned (.pointer (some ⟨q, 0, none⟩)) ∧ H' = .blk q (bkV mb (openedM l)) 63 :: bkM mb (openedM l) :: H) := by
  have hop := open_spec (F := F) (M := M) (H := H) (b := b) (c := c) hl hc
  unfold openedM
  generalize openM l = E at *
  obtain ⟨o, p⟩ := E
  refine Meets.enter Try.func23 rfl rfl ?_
  cases o with
  | none =>
    repeat' (first | ((with_reducible apply T.mv); apply rfl; apply rfl) | ((with_reducible apply T.asn); apply rfl; apply rfl) | with_reducible refine Sr.nil ?_ | with_reducible refine S.seq ?_ | with_reducible refine S.reg ?_ | fail)
    refine T.call rfl rfl hop ?_
    rintro _ _ ⟨rfl, rfl⟩
    repeat' (first | ((with_reducible apply T.mv); apply rfl; apply rfl) | ((with_reducible apply T.asn); apply rfl; apply rfl) | ((with_reducible apply T.neq); apply rfl; apply rfl; apply rfl) | ((with_reducible apply T.extract); apply rfl; apply rfl; apply rfl) | ((with_reducible apply T.pickT); apply rfl; apply rfl; apply rfl) | with_reducible refine Sr.nil ?_ | with_reducible refine S.seq ?_ | with_reducible refine S.reg ?_ | ((with_reducible apply T.skip); apply rfl; apply rfl; apply rfl) | ((with_reducible apply S.condT); apply rfl) | (with_reducible apply T.ofRet) | fail)
    refine T.call rfl rfl new_spec ?_
    rintro _ _ ⟨q, mb, rfl, rfl⟩
    repeat' (first | ((with_reducible apply T.asn); apply rfl; apply rfl) | with_reducible refine Sr.nil ?_ | ((with_reducible apply T.retW); apply rfl) | (with_reducible apply T.ofRet) | fail)
    exact ⟨_, PSub.refl _, q, mb, rfl, rfl⟩
  | some k =>
    repeat' (first | ((with_reducible apply T.mv); apply rfl; apply rfl) | ((with_reducible apply T.asn); apply rfl; apply rfl) | with_reducible refine Sr.nil ?_ | with_reducible refine S.seq ?_ | with_reducible refine S.reg ?_ | fail)
    refine T.call rfl rfl hop ?_
    rintro _ _ ⟨q, mb, rfl, rfl⟩
    repeat' (first | ((with_reducible apply T.eqlP); apply rfl; apply rfl) | ((with_reducible apply T.mv); apply rfl; apply rfl) | ((with_reducible apply T.asn); apply rfl; apply rfl) | ((with_reducible apply T.neq); apply rfl; apply rfl; apply rfl) | ((with_reducible apply T.extract); apply rfl; apply rfl; apply rfl) | ((with_reducible apply T.pickF); apply rfl; apply rfl; apply rfl) | with_reducible refine Sr.nil ?_ | with_reducible refine S.seq ?_ | with_reducible refine S.reg ?_ | with_reducible refine S.skip ?_ | ((with_reducible apply T.ung); apply rfl) | ((with_reducible apply S.condF); apply rfl) | ((with_reducible apply T.retW); apply rfl) | (with_reducible apply T.ofRet) | fail)
    exact ⟨_, PSub.refl _, q, mb, rfl, rfl⟩
theorem moved_spec {F : World} {M : List Nat} {H : List Res} {c : Nat} {b : Option Addr} {l : List UInt8} [hR : Rd F M H b (l.map bV)] (hl : l.length ≤ 1000000000000000) (hc : l.length ≤ c) (h23 : 23 ≤ l.length) :
    Meets Try.prog 29 [.slice b l.length c] F M H (fun e H' => ∃ a cc, e = .returned (.slice a ((l.drop 15).take (l.length - 23)).length cc) ∧ H' = H ∧ Rd F M H a (((l.drop 15).take (l.length - 23)).map bV)) := by
  have hlen : ((l.drop 15).take (l.length - 23)).length = l.length - 23 := by simp only [List.length_take, List.length_drop]; omega
  rw [hlen]
  have e8 : (l.length : Int) - 8 = ((l.length - 8 : Nat) : Int) := by omega
  refine Meets.enter Try.func29 rfl rfl ?_
  repeat' (first | ((with_reducible apply T.mv); apply rfl; apply rfl) | ((with_reducible apply T.asn); apply rfl; apply rfl) | ((with_reducible apply T.len); apply rfl; apply rfl) | ((with_reducible apply T.lss); apply rfl; apply rfl; apply rfl) | ((with_reducible apply T.subI); apply rfl; apply rfl; omega; apply rfl) | ((with_reducible apply T.sliceLH); apply rfl; apply rfl; apply rfl; omega; apply rfl) | with_reducible refine Sr.nil ?_ | with_reducible refine S.seq ?_ | with_reducible refine S.reg ?_ | with_reducible refine S.skip ?_ | ((with_reducible apply T.retW); apply rfl) | ((with_reducible apply S.condQ); apply rfl; all_goals (intro _; try (exfalso; omega))) | fail)
  have e : ((l.length : Int) - 8).toNat - Int.toNat 15 = l.length - 23 := by omega
  rw [e]
  exact ⟨H, PSub.refl _, saddr b c 15 1, c - 15, rfl, rfl, Rd.take1 (Rd.sub1 (cp := c) (lo := 15) hR hc) _⟩
/-- What Take can answer. -/
theorem take_cases (k : Bk) (n : List UInt8) (til now : Int) : (k.take n til now = (10, k) ∨ k.take n til now = (162, k)) ∨ k.take n til now = (0, ⟨true, now, eput (live now k.ends) n til⟩) ∨
    (k.take n til now = (134, ⟨true, now, live now k.ends⟩) ∨ k.take n til now = (160, ⟨true, now, live now k.ends⟩) ∨ k.take n til now = (161, ⟨true, now, live now k.ends⟩)) := by
  unfold Bk.take
  split
  · exact .inl (.inl rfl)
  split
  · exact .inl (.inr rfl)
  split
  · exact .inr (.inr (.inl rfl))
  split
  · exact .inr (.inr (.inr (.inl rfl)))
  split
  · exact .inr (.inr (.inr (.inr rfl)))
  · exact .inr (.inl rfl)
theorem eput_get {m : Ents} (hr : Rise m) (n : List UInt8) (z : Int) : eget (eput m n z) n = some z := once_get (eput_rise hr n z).once (p := (n, z)) (eins_mem.2 (.inl rfl))
theorem image_parts (k : Bk) : ((imageL k).drop 15).take ((imageL k).length - 23) = k.ends.flatMap ent := by
  rw [image_len]
  unfold imageL bodyL
  rw [List.append_assoc, List.drop_left' (headL_len k), List.length_append, headL_len]
  exact List.take_left' (by omega)
theorem image_23 (k : Bk) : 23 ≤ (imageL k).length := by
  rw [image_len]
  unfold bodyL
  rw [List.length_append, headL_len]
  omega
theorem live_all {now : Int} {m : Ents} (h : ¬ (live now m).length < m.length) : live now m = m := by
  unfold live at h ⊢
  refine List.filter_eq_self.2 fun p hp => ?_
  by_cases hq : decide (now ≤ p.2) = true
  · exact hq
  · exfalso
    apply h
    exact List.length_filter_lt_length_iff_exists.2 ⟨p, hp, hq⟩
end Go.Proofs.Ytcojlgkfkifhmaa
