/- The program's Split. -/
import Derived.Test.YtcojlgkfkifhmaaDoorSdA
import Derived.Test.YtcojlgkfkifhmaaDoorSdP
import Derived.Test.YtcojlgkfkifhmaaDoorSdK
/- words -/
/- maps -/
namespace Go.Proofs.YtcojlgkfkifhmaaDoor
open Sg Go.IntWalk
set_option maxRecDepth 100000
set_option maxHeartbeats 2000000
theorem hasSuffix_spec (bs : List UInt8) (h : bs.length ≤ 9223372036854775807) : PCall Tryd.prog 9 [sV bs, sV [126]] (.bool (Lib.hasSuffix bs [126])) := fun w =>
  Any.strings_HasSuffix Tryd.lays100 (ByteArray.mk bs.toArray) (ByteArray.mk #[126]) w h
theorem trimSuffix_spec (bs : List UInt8) (h : bs.length ≤ 9223372036854775807) : PCall Tryd.prog 12 [sV bs, sV [126]] (sV (Lib.trimSuffix bs [126])) := fun w =>
  Any.strings_TrimSuffix Tryd.lays102 (ByteArray.mk bs.toArray) (ByteArray.mk #[126]) w h
/-- The library's constant of lengths holds some number. -/
def MaxL (F : World) (M : List Nat) : Prop := ∃ m : Int, ∀ H, Rd F M H (some ⟨8, 0, none⟩) [.int .i64 m]
theorem MaxL.cell {F : World} {M : List Nat} (h : MaxL F M) : ∃ m : Int, ∀ w H, St F M w H → w.cell? ⟨8, 0, none⟩ = some (.int .i64 m) := by
  obtain ⟨m, hm⟩ := h
  refine ⟨m, fun w H hw => ?_⟩
  obtain ⟨ad, h1, h2⟩ := (hm H).h w hw 0 _ rfl
  simp only [Option.some.injEq] at h1
  subst h1
  simpa [addr_add] using h2
theorem contains_spec {F : World} {M : List Nat} {H : List Res} (hm : MaxL F M) (bs : List UInt8) (h : bs.length < 4294967281) : Meets Tryd.prog 10 [sV bs, sV [126, 126]] F M H (fun e H' => e = .returned (.bool (Lib.contains bs [126, 126])) ∧ H' = H) := fun w hw => by
  obtain ⟨m, hm⟩ := hm.cell
  refine (Any.strings_Contains Tryd.lays144 (ByteArray.mk bs.toArray) (ByteArray.mk #[126, 126]) m w h (hm w H hw)).mono fun e w' ⟨h1, h2⟩ => ?_
  subst h2
  exact ⟨H, ⟨h1, rfl⟩, hw⟩
theorem splitL_spec {F : World} {M : List Nat} {H : List Res} (hm : MaxL F M) (bs : List UInt8) (h : bs.length < 4294967281) :
    Meets Tryd.prog 11 [sV bs, sV [126]] F M H (fun e H' => ∃ b, e = .returned (.slice (some ⟨b, 0, none⟩) (pieces 126 bs).length (pieces 126 bs).length) ∧ H' = .blk b ((pieces 126 bs).map sV) 9 :: H) := fun w hw => by
  obtain ⟨m, hm⟩ := hm.cell
  refine (Any.strings_Split Tryd.lays146 (by kernel_rfl) (ByteArray.mk bs.toArray) (ByteArray.mk #[126]) m w h (hm w H hw) (by decide)).mono fun e w' ⟨h1, h2⟩ => ?_
  have hsz : Lib.countB (ByteArray.mk bs.toArray) (ByteArray.mk #[126]) = Lib.count bs [126] := rfl
  have hmap : ((Lib.splitB (ByteArray.mk #[126]) 0 (Lib.countB (ByteArray.mk bs.toArray) (ByteArray.mk #[126])) (ByteArray.mk bs.toArray)).map Value.string) = (pieces 126 bs).map sV := by
    rw [← split_pieces, Lib.split, ← hsz]
    have := Lib.splitB_data (ByteArray.mk #[126]) 0 (Lib.countB (ByteArray.mk bs.toArray) (ByteArray.mk #[126])) (ByteArray.mk bs.toArray)
    rw [← this, List.map_map]
    exact List.map_congr_left fun s _ => sV_of s
  have hlen := Lib.splitB_all (ByteArray.mk #[126]) (by decide) 0 _ (ByteArray.mk bs.toArray) rfl
  have hl2 : (pieces 126 bs).length = Lib.countB (ByteArray.mk bs.toArray) (ByteArray.mk #[126]) + 1 := by
    have h3 := congrArg List.length hmap
    rw [List.length_map, List.length_map] at h3
    rw [← h3, hlen]
  rw [hmap] at h2
  subst h2
  rw [hl2]
  exact ⟨_, ⟨w.heap.size, h1, rfl⟩, hw.alloc _ _⟩
theorem split_spec {F : World} {M : List Nat} {H : List Res} {bs : List UInt8} (hm : MaxL F M) (hn : bs.length ≤ 140737488355328) :
    Meets Tryd.prog 4 [sV bs] F M H (fun e H' => ∃ ad cp, e = .returned (.tuple ⟨[sV (splitA bs).1, .slice ad (splitA bs).2.1.length cp, .int .i64 (splitA bs).2.2]⟩) ∧ H' = .row ad cp 9 1 (splitA bs).2.1.length ((splitA bs).2.1.map sV) :: H) := by
  refine Meets.enter Tryd.func4 rfl rfl ?_
  by_cases h1 : 262144 < bs.length
  · have hA : splitA bs = ([], [], 10) := by rw [splitA, if_pos h1]
    rw [hA]
    refine S.nilrow 9 1 ?_
    repeat' (first | ((with_reducible apply T.slen); apply rfl; apply rfl) | ((with_reducible apply T.mv); apply rfl; apply rfl) | ((with_reducible apply T.asn); apply rfl; apply rfl) | ((with_reducible apply T.gtr); apply rfl; apply rfl; apply rfl) | with_reducible refine Sr.nil ?_ | with_reducible refine S.seq ?_ | with_reducible refine S.reg ?_ | ((with_reducible apply T.retW); apply rfl) | ((with_reducible apply S.condQ); apply rfl; all_goals (intro _; try (exfalso; omega))) | fail)
    exact ⟨_, PSub.refl _, _, _, rfl, rfl⟩
  · cases hs : Lib.hasSuffix bs [126] with
    | false =>
      have hA : splitA bs = ([], [], 200) := by rw [splitA, if_neg h1, if_neg (by rw [hs]; simp)]
      rw [hA]
      have c9 := hasSuffix_spec bs (by omega)
      rw [hs] at c9
      refine S.nilrow 9 1 ?_
      repeat' (first | ((with_reducible apply T.pcall); apply rfl; infer_instance; apply rfl; with_reducible exact c9) | ((with_reducible apply T.slen); apply rfl; apply rfl) | ((with_reducible apply T.mv); apply rfl; apply rfl) | ((with_reducible apply T.asn); apply rfl; apply rfl) | ((with_reducible apply T.gtr); apply rfl; apply rfl; apply rfl) | ((with_reducible apply T.notB); apply rfl; apply rfl) | ((with_reducible apply T.pickT); apply rfl; apply rfl; apply rfl) | with_reducible refine Sr.nil ?_ | with_reducible refine S.seq ?_ | with_reducible refine S.reg ?_ | with_reducible refine S.skip ?_ | ((with_reducible apply T.skip); apply rfl; apply rfl; apply rfl) | ((with_reducible apply S.condT); apply rfl) | ((with_reducible apply T.retW); apply rfl) | ((with_reducible apply S.condQ); apply rfl; all_goals (intro _; try (exfalso; omega))) | fail)
      exact ⟨_, PSub.refl _, _, _, rfl, rfl⟩
    | true =>
      have c9 := hasSuffix_spec bs (by omega)
      have c12 := trimSuffix_spec bs (by omega)
      rw [hs] at c9
      obtain ⟨r, rfl⟩ := (suffix_one 126 bs).1 hs
      rw [trim_one] at c12
      have hc2 := contains_two 126 r
      cases hb : bad 126 r with
      | true =>
        have hA : splitA (r ++ [126]) = ([], [], 200) := by rw [splitA, if_neg h1, if_neg (by rw [List.dropLast_concat, hb]; simp)]
        rw [hA]
        refine S.nilrow 9 1 ?_
        repeat' (first | ((with_reducible apply T.pcall); apply rfl; infer_instance; apply rfl; with_reducible exact c9) | ((with_reducible apply T.slen); apply rfl; apply rfl) | ((with_reducible apply T.mv); apply rfl; apply rfl) | ((with_reducible apply T.asn); apply rfl; apply rfl) | ((with_reducible apply T.gtr); apply rfl; apply rfl; apply rfl) | ((with_reducible apply T.notB); apply rfl; apply rfl) | with_reducible refine Sr.nil ?_ | with_reducible refine S.seq ?_ | with_reducible refine S.reg ?_ | with_reducible refine S.skip ?_ | ((with_reducible apply T.ung); apply rfl) | ((with_reducible apply S.condQ); apply rfl; all_goals (intro _; try (exfalso; omega))) | fail)
        refine T.call rfl rfl (contains_spec hm (r ++ [126]) (by omega)) ?_
        rintro _ _ ⟨rfl, rfl⟩
        rw [hc2, hb]
        repeat' (first | ((with_reducible apply T.asn); apply rfl; apply rfl) | ((with_reducible apply T.pickF); apply rfl; apply rfl; apply rfl) | with_reducible refine Sr.nil ?_ | with_reducible refine S.seq ?_ | with_reducible refine S.reg ?_ | ((with_reducible apply S.condT); apply rfl) | ((with_reducible apply T.retW); apply rfl) | (with_reducible apply T.ofRet) | fail)
        exact ⟨_, PSub.refl _, _, _, rfl, rfl⟩
      | false =>
        have hA : splitA (r ++ [126]) = ((pieces 126 r).headD [], (pieces 126 r).tail, 0) := by rw [splitA, if_neg h1, if_pos (by rw [List.dropLast_concat, hb]; exact ⟨hs, rfl⟩), List.dropLast_concat]
        rw [hA]
        have hpl := pieces_len 126 r
        have hlt : (r ++ [126]).length < 4294967281 := by omega
        have hrl : (r ++ [126]).length = r.length + 1 := by rw [List.length_append]; rfl
        repeat' (first | ((with_reducible apply T.pcall); apply rfl; infer_instance; apply rfl; with_reducible exact c9) | ((with_reducible apply T.slen); apply rfl; apply rfl) | ((with_reducible apply T.mv); apply rfl; apply rfl) | ((with_reducible apply T.asn); apply rfl; apply rfl) | ((with_reducible apply T.gtr); apply rfl; apply rfl; apply rfl) | ((with_reducible apply T.notB); apply rfl; apply rfl) | with_reducible refine Sr.nil ?_ | with_reducible refine S.seq ?_ | with_reducible refine S.reg ?_ | with_reducible refine S.skip ?_ | ((with_reducible apply T.ung); apply rfl) | ((with_reducible apply S.condQ); apply rfl; all_goals (intro _; try (exfalso; omega))) | fail)
        refine T.call rfl rfl (contains_spec hm (r ++ [126]) hlt) ?_
        rintro _ _ ⟨rfl, hH⟩
        have hH2 := hH.symm
        subst hH2
        rw [hc2, hb]
        repeat' (first | ((with_reducible apply T.pcall); apply rfl; infer_instance; apply rfl; with_reducible exact c12) | ((with_reducible apply T.mv); apply rfl; apply rfl) | ((with_reducible apply T.pickF); apply rfl; apply rfl; apply rfl) | with_reducible refine Sr.nil ?_ | with_reducible refine S.seq ?_ | with_reducible refine S.reg ?_ | with_reducible refine S.skip ?_ | ((with_reducible apply S.condF); apply rfl) | (with_reducible apply T.ofRet) | fail)
        refine T.call rfl rfl (splitL_spec hm r (by omega)) ?_
        rintro _ _ ⟨pb, rfl, rfl⟩
        have hcons := pieces_cons 126 r
        generalize (pieces 126 r).headD [] = hd at *
        generalize (pieces 126 r).tail = tl at *
        rw [← hcons] at hpl ⊢
        have hR2 : Rd F M (.blk pb ((hd :: tl).map sV) 9 :: H) (saddr (some ⟨pb, 0, none⟩) (hd :: tl).length 1 1) (((hd :: tl).drop 1).map sV) := Rd.sub1 (Rd.blk0) (Nat.le_refl _)
        rw [List.length_cons] at hpl
        have hll : (hd :: tl).length = tl.length + 1 := rfl
        repeat' (first | ((with_reducible apply T.asn); apply rfl; apply rfl) | with_reducible refine Sr.nil ?_ | with_reducible refine S.seq ?_ | (with_reducible apply T.ofRet) | fail)
        ((with_reducible apply S.draw); (case Hs => exact [.blk pb ((hd :: tl).map sV) 9]); (case es => exact  [5]); (case n => exact  9); (case hn => rfl))
        repeat' (first | ((with_reducible apply T.appendT0); apply rfl; apply rfl; infer_instance; apply rfl; apply rfl; (constructor <;> omega); apply rfl; intro na nc) | ((with_reducible apply T.loadS); apply rfl; infer_instance; (first | omega | (simp only [List.length_map]; omega)); apply rfl) | ((with_reducible apply T.mv); apply rfl; apply rfl) | ((with_reducible apply T.asn); apply rfl; apply rfl) | ((with_reducible apply T.ixC); apply rfl; infer_instance; omega; (first | omega | (simp only [List.length_map]; omega) | (simp; omega)); apply rfl) | ((with_reducible apply T.sliceLC); apply rfl; omega; apply rfl) | with_reducible refine Sr.nil ?_ | ((with_reducible apply T.retW); apply rfl) | ((with_reducible apply SA.qn); apply rfl; apply rfl; apply rfl; apply rfl; kernel_rfl) | ((with_reducible apply SA.qsn); apply rfl; apply rfl; apply rfl; kernel_rfl; (first | exact fun _ h => h | exact fun _ h => St.psub h (by ((repeat (first | dsimp only [List.set_cons_zero] | dsimp only [List.set_cons_succ])); repeat' first | exact PSub.refl _ | exact PSub.nil | ((with_reducible apply PSub.take); (repeat' first | (with_reducible exact pick_hd) | (with_reducible apply pick_tl))) | (with_reducible apply PSub.drop) | ((apply PSub.take); (repeat' first | exact pick_hd | (apply pick_tl))))))) | ((with_reducible apply SA.en); apply rfl; apply rfl; kernel_rfl) | ((with_reducible apply SA.done); apply rfl; kernel_rfl) | ((with_reducible apply SK.intro); (first | exact fun _ h => h | exact fun _ h => St.psub h (by ((repeat (first | dsimp only [List.set_cons_zero] | dsimp only [List.set_cons_succ])); repeat' first | exact PSub.refl _ | exact PSub.nil | ((with_reducible apply PSub.take); (repeat' first | (with_reducible exact pick_hd) | (with_reducible apply pick_tl))) | (with_reducible apply PSub.drop) | ((apply PSub.take); (repeat' first | exact pick_hd | (apply pick_tl))))))) | fail)
        rw [show (hd :: tl).length - 1 = tl.length from rfl, show (hd :: tl).drop 1 = tl from rfl]
        skip
        exact ⟨_, by ((repeat (first | dsimp only [List.set_cons_zero] | dsimp only [List.set_cons_succ])); repeat' first | exact PSub.refl _ | exact PSub.nil | ((with_reducible apply PSub.take); (repeat' first | (with_reducible exact pick_hd) | (with_reducible apply pick_tl))) | (with_reducible apply PSub.drop) | ((apply PSub.take); (repeat' first | exact pick_hd | (apply pick_tl)))), _, _, rfl, rfl⟩
end Go.Proofs.YtcojlgkfkifhmaaDoor
