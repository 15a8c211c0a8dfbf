/- Texts put together by a program: ShpC RevH. -/
import Derived.Test.YtjajcmedipjfhaaGreatDoorMg
import Derived.Test.YtjajcmedipjfhaaGreatDoorMi
import Derived.Test.YtjajcmedipjfhaaGreatDoorMj
import Derived.Test.YtjajcmedipjfhaaGreatDoorMb
/- The walk of the program's look at a value: is it well shaped. -/
namespace Go.Proofs.YtjajcmedipjfhaaGreatDoor
open Sg Go.IntWalk
set_option maxRecDepth 100000
set_option maxHeartbeats 4000000
section
variable {F : World} {M : List Nat} {H : List Res} {oa : Option Addr} {oc n : Nat} {v : List Nd}
theorem maps_psub : ∀ (st : Stk) (H : List Res), PSub H (mapsR st H)
 | [], _ => PSub.refl _
 | (_, none) :: r, H => maps_psub r H
 | (_, some _) :: r, H => PSub.drop (maps_psub r H)
theorem rd_maps {a : Option Addr} {vs : List Value} : ∀ (st : Stk), Rd F M H a vs → Rd F M (mapsR st H) a vs
 | [], h => h
 | (_, none) :: r, h => rd_maps r h
 | (_, some _) :: r, h => have := rd_maps r h; Rd.tl
instance Rd.maps {st : Stk} {a : Option Addr} {vs : List Value} [h : Rd F M H a vs] : Rd F M (mapsR st H) a vs := rd_maps st h
theorem popL_len : ∀ l : List Lv, (popL l).length ≤ l.length
 | [] => Nat.le_refl _
 | (k, nm) :: l => by
  have := popL_len l
  unfold popL
  split <;> simp only [List.length_cons] <;> omega
theorem popL_fix {k : Nat} {nm : Option (List (List UInt8))} {l : List Lv} (h : popL ((k, nm) :: l) = (k, nm) :: l) : k ≠ 0 := by
 rintro rfl
 rw [popL_zero] at h
 have := popL_len l
 rw [h] at this
 simp only [List.length_cons] at this
 omega
def mlen (z : Nat × Option (Nat × Ents)) : Nat := match z.2 with
 | none => 0
 | some y => y.2.length
abbrev lv2 (n : Nd) : Option (List (List UInt8)) := if n.kind = 7 then some [] else none
def shNext (n : Nd) (r : List Nd) (x : Lv) (s : List Lv) : Bool := if isRow n then (if 32 < s.length + 1 then false else shM Lib.validD r (popL ((n.kids.toNat, lv2 n) :: x :: s))) else shM Lib.validD r (popL (x :: s))
theorem sh_step {n : Nd} {r : List Nd} {k : Nat} {nm : Option (List (List UInt8))} {s : List Lv} (hp : plainX Lib.validD n = true) : shM Lib.validD (n :: r) ((k, nm) :: s) = if (nm = none ∧ n.key ≠ []) ∨ hasN nm n.key = true ∨ Lib.validD n.key = false then false else shNext n r (k - 1, nm.map (n.key :: ·)) s := by
 have h : ¬ plainX Lib.validD n = false := by rw [hp]; simp
 simp only [shM]
 rw [if_neg h]
 rfl
theorem shaped_spec (hT : Tabs F M) [Rd F M H oa (v.flatMap ndV)] (hn : v.length = n) (hl : n ≤ 1100000) (htx : ∀ x ∈ v, (x.kind = 4 → x.text.length ≤ 1100000) ∧ x.text.length ≤ 9223372036854775807 ∧ x.key.length ≤ 1100000 ∧ x.kids ≤ 9223372036854775807) :
  Meets Tryz.prog 17 [.slice oa n oc] F M H (fun e H' => e = .returned (.bool (shapedX Lib.validD v)) ∧ H' = H) := by
 subst hn
 refine Meets.enter Tryz.func17 rfl rfl ?_
 unfold shapedX
 generalize hQ : shM Lib.validD v [(1, none)] = Q
 repeat' (first | ((first | apply T.mv | apply T.asn | apply T.len); apply rfl; apply rfl) | (apply T.buildL; (iterate 3 apply rfl)) | (apply T.bsL; (iterate 5 apply rfl); intro nb) | (with_reducible first | refine Sr.nil ?_ | refine S.seq ?_ | refine S.block ?_ | refine S.reg ?_) | fail)
 refine S.rowOfN (n := 1) (sz := 2) rfl (by decide) ?_
 refine S.loopE 1 [10, 11] (fun R b' μ H' e => ∃ (i : Nat) (a : Option Addr) (cp k : Nat) (st : Stk) (l : List Lv), H' = .row a cp 86 2 k (st.reverse.flatMap lvV) :: mapsR st R ∧ e = (3, .slice a k cp) :: (12, .int .i64 i) :: b' ∧ (i ≤ v.length ∧ k = st.length ∧ k ≤ 33 ∧ (∀ z ∈ st, z.1 ≤ 9223372036854775807 ∧ mlen z ≤ i) ∧ LvOf st l ∧ popL l = l ∧ shM Lib.validD (v.drop i) l = Q) ∧ μ = v.length - i) rfl rfl ?_ _ _ ⟨0, _, _, 1, [(1, none)], [(1, none)], rfl, rfl, ⟨Nat.zero_le _, rfl, by decide, by simp [mlen], .list .nil, rfl, hQ⟩, rfl⟩ (by repeat' first | exact trivial | refine And.intro rfl ?_)
 rintro _ _ _ ⟨i, a, cp, k, st, l, rfl, rfl, ⟨h1, h2, h3, hb, h4, h5, h6⟩, rfl⟩ ih
 by_cases h7 : i < v.length
 ·have e1 : v.drop i = v.getD i default :: v.drop (i + 1) := by
   rw [List.drop_eq_getElem_cons h7, List.getD_eq_getElem?_getD, List.getElem?_eq_getElem h7, Option.getD_some]
  have hx := htx (v.getD i default) (by rw [List.getD_eq_getElem?_getD, List.getElem?_eq_getElem h7, Option.getD_some]; exact List.getElem_mem h7)
  rw [e1] at h6
  obtain ⟨x1, x2, x3, x4⟩ := hx
  cases st with
  | nil =>
   cases h4
   have h8 : Q = false := by rw [← h6]; rfl
   subst h8
   subst h2
   repeat' (first | ((first | apply T.mv | apply T.asn | apply T.len); apply rfl; apply rfl) | ((first | apply T.lss | apply T.eql); (iterate 3 apply rfl)) | (apply T.ixF; apply rfl; apply rfl; infer_instance; exact (fun _ => rfl); apply rfl; omega; omega; apply rfl) | (apply T.loadFN; apply rfl; apply rfl; infer_instance; exact (fun _ => rfl); apply rfl; exact getD_some (by omega); apply rfl) | (apply T.pickT; (iterate 3 apply rfl)) | (apply T.storeW; apply rfl; apply rfl; infer_instance; (first | rfl | (simp only [List.length_append, List.length_map, List.length_set, List.length_replicate, List.length_cons, List.length_nil]; first | done | omega)); (first | rfl | (simp only [List.length_append, List.length_map, List.length_set, List.length_replicate, List.length_cons, List.length_nil]; first | done | omega)); (first | rfl | (repeat' first | apply all_nV | apply all_bV | apply all_iV | rfl | apply all_app))) | (apply T.alloc; apply rfl; intro nb) | (with_reducible first | refine Sr.nil ?_ | refine S.seq ?_ | refine S.block ?_ | refine S.reg ?_ | refine S.skip ?_) | (apply T.skip; apply rfl; (first | with_reducible rfl | decide); apply rfl) | (apply S.condTV; apply rfl; (first | with_reducible rfl | decide)) | (apply S.condQ; apply rfl; all_goals (intro _; try (exfalso; first | omega | with_reducible contradiction))) | (apply T.retW; apply rfl) | fail)
   exact ⟨_, PSub.drop (PSub.drop (maps_psub _ _)), rfl, rfl⟩
  | cons y s =>
   refine S.rowSome (by rw [h2]; simp) ?_
   rintro g rfl
   have hs : (y :: s).length = s.length + 1 := rfl
   cases hp : plainX Lib.validD (v.getD i default) with
   | false =>
    have h9 : Q = false := by
     rw [← h6]
     cases l with
     | nil => rfl
     | cons z r => simp only [shM]; rw [if_pos hp]
    subst h9
    subst h2
    repeat' (first | ((first | apply T.mv | apply T.len); apply rfl; apply rfl) | ((first | apply T.lss | apply T.eql); (iterate 3 apply rfl)) | (apply T.ixF; apply rfl; apply rfl; infer_instance; exact (fun _ => rfl); apply rfl; omega; omega; apply rfl) | (apply T.loadFN; apply rfl; apply rfl; infer_instance; exact (fun _ => rfl); apply rfl; exact getD_some (by omega); apply rfl) | (apply T.loadW; apply rfl; apply rfl; infer_instance; (first | rfl | (simp only [List.length_append, List.length_map, List.length_set, List.length_replicate, List.length_cons, List.length_nil]; first | done | omega)); apply rfl) | (apply T.storeW; apply rfl; apply rfl; infer_instance; (first | rfl | (simp only [List.length_append, List.length_map, List.length_set, List.length_replicate, List.length_cons, List.length_nil]; first | done | omega)); (first | rfl | (simp only [List.length_append, List.length_map, List.length_set, List.length_replicate, List.length_cons, List.length_nil]; first | done | omega)); (first | rfl | (repeat' first | apply all_nV | apply all_bV | apply all_iV | rfl | apply all_app))) | (apply T.alloc; apply rfl; intro nb) | (with_reducible first | refine Sr.nil ?_ | refine S.seq ?_ | refine S.block ?_ | refine S.reg ?_ | refine S.skip ?_) | (apply T.ungV; apply rfl; (first | with_reducible rfl | decide)) | (apply S.condQ; apply rfl; all_goals (intro _; try (exfalso; first | omega | with_reducible contradiction))) | (apply T.gcase; apply rfl; apply rfl; all_goals (intro _; try (exfalso; first | omega | with_reducible contradiction))) | fail)
    refine T.call rfl rfl (plain_spec hT x1 x2) ?_
    rintro _ _ ⟨rfl, rfl⟩
    rw [hp]
    repeat' (first | (apply T.asn; apply rfl; apply rfl) | (apply T.notB; apply rfl; apply rfl) | (apply T.pickF; (iterate 3 apply rfl)) | (with_reducible first | refine Sr.nil ?_ | refine S.seq ?_ | refine S.reg ?_) | (apply T.ungV; apply rfl; (first | with_reducible rfl | decide)) | (apply S.condTV; apply rfl; (first | with_reducible rfl | decide)) | (apply T.retW; apply rfl) | (with_reducible apply T.ofRet) | fail)
    exact ⟨_, PSub.drop (PSub.drop (maps_psub _ _)), rfl, rfl⟩
   | true =>
    subst h2
    obtain ⟨k0, y2⟩ := y
    obtain ⟨nm, l', rfl, hs', hrel⟩ := h4.inv
    dsimp only at hrel h5 h6
    have hk := popL_fix h5
    obtain ⟨hb0, hml⟩ : k0 ≤ 9223372036854775807 ∧ mlen (k0, y2) ≤ i := hb (k0, y2) (List.mem_cons_self ..)
    have hbs : ∀ z ∈ s, z.1 ≤ 9223372036854775807 ∧ mlen z ≤ i := fun z hz => hb z (List.mem_cons_of_mem _ hz)
    have hsl := hs'.len
    rw [sh_step hp] at h6
    clear hb
    have hrl : ((k0, y2) :: s : Stk).reverse.length = s.length + 1 := by rw [List.length_reverse, hs]
    have hget : ((k0, y2) :: s : Stk).reverse[s.length]? = some (k0, y2) := by simp
    have i1 : ((((k0, y2) :: s : Stk).length : Nat) : Int) - 1 = (s.length : Nat) := by rw [hs]; omega
    have i2 : ((k0 : Nat) : Int) - 1 = ((k0 - 1 : Nat) : Int) := by omega
    have hset : ((k0, y2) :: s : Stk).reverse.set s.length (k0 - 1, y2) = ((k0 - 1, y2) :: s : Stk).reverse := by
     rw [List.reverse_cons, List.reverse_cons, List.set_append_right _ _ (by simp)]
     simp
    have hget2 : ((k0 - 1, y2) :: s : Stk).reverse[s.length]? = some (k0 - 1, y2) := by simp
    have hrl2 : ((k0 - 1, y2) :: s : Stk).reverse.length = s.length + 1 := by simp
    generalize hnd : v.getD i default = nd0 at *
    repeat' (first | ((first | apply T.mv | apply T.len); apply rfl; apply rfl) | ((first | apply T.lss | apply T.eql); (iterate 3 apply rfl)) | (apply T.ixF; apply rfl; apply rfl; infer_instance; exact (fun _ => rfl); apply rfl; omega; omega; apply rfl) | (apply T.loadFN; apply rfl; apply rfl; infer_instance; exact (fun _ => rfl); apply rfl; exact getD_some (by omega); apply rfl) | (apply T.loadW; apply rfl; apply rfl; infer_instance; (first | rfl | (simp only [List.length_append, List.length_map, List.length_set, List.length_replicate, List.length_cons, List.length_nil]; first | done | omega)); apply rfl) | (apply T.storeW; apply rfl; apply rfl; infer_instance; (first | rfl | (simp only [List.length_append, List.length_map, List.length_set, List.length_replicate, List.length_cons, List.length_nil]; first | done | omega)); (first | rfl | (simp only [List.length_append, List.length_map, List.length_set, List.length_replicate, List.length_cons, List.length_nil]; first | done | omega)); (first | rfl | (repeat' first | apply all_nV | apply all_bV | apply all_iV | rfl | apply all_app))) | (apply T.alloc; apply rfl; intro nb) | (with_reducible first | refine Sr.nil ?_ | refine S.seq ?_ | refine S.block ?_ | refine S.reg ?_ | refine S.skip ?_) | (apply T.ungV; apply rfl; (first | with_reducible rfl | decide)) | (apply S.condQ; apply rfl; all_goals (intro _; try (exfalso; first | omega | with_reducible contradiction))) | (apply T.gcase; apply rfl; apply rfl; all_goals (intro _; try (exfalso; first | omega | with_reducible contradiction))) | fail)
    rw [hnd]
    refine T.call rfl rfl (plain_spec hT x1 x2) ?_
    rintro _ _ ⟨rfl, rfl⟩
    rw [hp]
    repeat' (first | (apply T.notB; apply rfl; apply rfl) | (apply T.pickF; (iterate 3 apply rfl)) | (with_reducible first | refine Sr.nil ?_ | refine S.skip ?_) | (apply T.ungV; apply rfl; (first | with_reducible rfl | decide)) | (apply S.condFV; apply rfl; (first | with_reducible rfl | decide)) | (with_reducible apply T.ofRet) | fail)
    refine S.seq ?_
    repeat' (first | (apply T.subI; apply rfl; apply rfl; (first | omega | (dsimp only; omega)); apply rfl; (first | rw [i1] | rw [i2])) | ((first | apply T.mv | apply T.asn | apply T.len); apply rfl; apply rfl) | (apply T.ixF; apply rfl; apply rfl; infer_instance; exact (fun _ => rfl); apply rfl; omega; omega; apply rfl) | (with_reducible first | refine Sr.nil ?_ | refine S.reg ?_) | fail)
    refine S.seq ?_
    repeat' (first | (apply T.nilCheckS; apply rfl; apply rfl) | (apply T.fieldAddrS; apply rfl; apply rfl) | (apply T.subI; apply rfl; apply rfl; (first | omega | (dsimp only; omega)); apply rfl; (first | rw [i1] | rw [i2])) | (refine T.storeF (g := lvV) (k0 - 1, y2) rfl rfl inferInstance (fun _ => rfl) rfl hget rfl rfl ?_; rw [hset]) | (refine T.loadF (g := lvV) (v := .int .i64 (k0 : Int)) rfl rfl inferInstance (fun _ => rfl) rfl hget rfl rfl ?_) | (apply T.mv; apply rfl; apply rfl) | (with_reducible first | refine Sr.nil ?_ | refine S.reg ?_) | fail)
    refine S.seq ?_
    refine S.cut (fun H' e' => ∃ (z : Nat × Option (Nat × Ents)) (lv0 : Lv), H' = .blk nb (ndV nd0) 34 :: .row (some ⟨g, 0, none⟩) cp 86 2 (s.length + 1) ((z :: s : Stk).reverse.flatMap lvV) :: mapsR (z :: s) H ∧
     e' = [(3, .slice (some ⟨g, 0, none⟩) (s.length + 1) cp), (5, .pointer (some ⟨nb, 0, none⟩)), (10, .slice oa v.length oc), (11, .int .i64 v.length), (12, .int .i64 i)] ∧ z.1 ≤ 9223372036854775807 ∧ mlen z ≤ i + 1 ∧ LvOf (z :: s) (lv0 :: l') ∧ shNext nd0 (v.drop (i + 1)) lv0 l' = Q) ?_ ?_
    ·intro k' hrest
     rcases hrel with ⟨rfl, rfl⟩ | ⟨b, m, ns, rfl, rfl, hkn⟩
     ·dsimp only [mapsR]
      by_cases hkey : nd0.key = []
      ·have hvk : Lib.validD nd0.key = true := by rw [hkey]; rfl
       have hk2 : decide (¬ nd0.key = []) = false := by simp [hkey]
       rw [if_neg (by rw [hvk]; simp [hkey, hasN])] at h6
       repeat' (first | (with_reducible first | refine S.seq ?_ | refine S.block ?_) | fail)
       (apply S.draw; (case Hs => exact .blk nb (ndV nd0) 34 :: .row (some ⟨g, 0, none⟩) cp 86 2 ((k0, none) :: s : Stk).length (((k0 - 1, none) :: s : Stk).reverse.flatMap lvV) :: mapsR s H); (case es => exact  [23]); (case n => exact  27); (case hn => rfl))
       repeat' (first | (apply T.sneq; (iterate 3 apply rfl); rw [hk2]) | (apply T.nilCheckS; apply rfl; apply rfl) | (apply T.fieldAddrS; apply rfl; apply rfl) | (apply Sr.same; refine T.loadF (g := lvV) (v := .map none) rfl rfl inferInstance (fun _ => rfl) rfl hget2 rfl rfl ?_) | (apply Sr.same; refine T.call rfl rfl (validString_spec hT (by omega)) ?_; rintro _ _ ⟨rfl, rfl⟩; rw [hvk]) | (apply T.mapLook0; apply rfl; apply rfl; (first | assumption | (simp only [maxLen]; omega) | omega); apply rfl) | (apply T.eqlM0; apply rfl; apply rfl) | (apply T.neqM0; apply rfl; apply rfl) | ((first | apply T.mv | apply T.asn); apply rfl; apply rfl) | (apply T.fieldAddrZ; apply rfl; apply rfl) | (apply T.load; apply rfl; apply rfl; infer_instance; apply rfl; apply rfl) | (apply T.gtr; (iterate 3 apply rfl)) | (apply T.notB; apply rfl; apply rfl) | (apply T.pickT; (iterate 3 apply rfl)) | (apply T.pickF; (iterate 3 apply rfl)) | (with_reducible first | refine Sr.nil ?_ | refine S.seq ?_ | refine S.reg ?_ | refine S.skip ?_ | refine S.inBlock ?_) | (apply T.ungV; apply rfl; (first | with_reducible rfl | decide)) | (apply S.condFV; apply rfl; (first | with_reducible rfl | decide)) | (with_reducible apply T.ofRet) | (apply SA.gz; (iterate 4 apply rfl); (first | with_reducible rfl | decide); apply rfl; kernel_rfl) | (apply SA.gn; (iterate 4 apply rfl); (first | with_reducible rfl | decide); apply rfl; kernel_rfl) | (apply SA.qn; (iterate 4 apply rfl); kernel_rfl) | (apply SA.qz; (iterate 4 apply rfl); kernel_rfl) | (apply SA.en; apply rfl; apply rfl; kernel_rfl) | (apply SA.done; apply rfl; kernel_rfl) | (apply SK.intro; (first | exact fun _ h => h | exact fun _ h => St.psub h (by ((repeat (first | dsimp only [List.set_cons_zero] | dsimp only [List.set_cons_succ])); repeat' first | exact PSub.refl _ | exact PSub.nil | (apply PSub.take; (repeat' first | (with_reducible exact pick_hd) | (with_reducible apply pick_tl))) | (with_reducible apply PSub.drop) | ((apply PSub.take); (repeat' first | exact pick_hd | (apply pick_tl))))))) | fail)
       all_goals
        skip
        exact hrest _ _ _ ⟨(k0 - 1, none), (k0 - 1, none), rfl, rfl, by omega, by simp [mlen], .list hs', h6⟩ (by repeat' first | exact trivial | refine And.intro rfl ?_)
      ·have hk2 : decide (¬ nd0.key = []) = true := by simp [hkey]
       rw [if_pos (.inl ⟨rfl, hkey⟩)] at h6
       subst h6
       repeat' (first | (with_reducible first | refine S.seq ?_ | refine S.block ?_) | fail)
       (apply S.draw; (case Hs => exact .blk nb (ndV nd0) 34 :: .row (some ⟨g, 0, none⟩) cp 86 2 ((k0, none) :: s : Stk).length (((k0 - 1, none) :: s : Stk).reverse.flatMap lvV) :: mapsR s H); (case es => exact  [23]); (case n => exact  27); (case hn => rfl))
       repeat' (first | (apply T.sneq; (iterate 3 apply rfl); rw [hk2]) | (apply T.nilCheckS; apply rfl; apply rfl) | (apply T.fieldAddrS; apply rfl; apply rfl) | (apply Sr.same; refine T.loadF (g := lvV) (v := .map none) rfl rfl inferInstance (fun _ => rfl) rfl hget2 rfl rfl ?_) | (apply T.eqlM0; apply rfl; apply rfl) | ((first | apply T.mv | apply T.asn); apply rfl; apply rfl) | (apply T.fieldAddrZ; apply rfl; apply rfl) | (apply T.load; apply rfl; apply rfl; infer_instance; apply rfl; apply rfl) | (apply T.pickT; (iterate 3 apply rfl)) | (with_reducible first | refine Sr.nil ?_ | refine S.seq ?_ | refine S.reg ?_) | (apply T.skip; apply rfl; (first | with_reducible rfl | decide); apply rfl) | (apply S.condTV; apply rfl; (first | with_reducible rfl | decide)) | (apply T.retW; apply rfl) | (apply SA.gxv; (iterate 5 apply rfl); kernel_rfl; apply rfl) | (apply SA.gz; (iterate 4 apply rfl); (first | with_reducible rfl | decide); apply rfl; kernel_rfl) | (apply SA.gn; (iterate 4 apply rfl); (first | with_reducible rfl | decide); apply rfl; kernel_rfl) | (apply SA.qn; (iterate 4 apply rfl); kernel_rfl) | (apply SA.qz; (iterate 4 apply rfl); kernel_rfl) | (apply SA.en; apply rfl; apply rfl; kernel_rfl) | (apply SA.done; apply rfl; kernel_rfl) | (apply SK.intro; (first | exact fun _ h => h | exact fun _ h => St.psub h (by ((repeat (first | dsimp only [List.set_cons_zero] | dsimp only [List.set_cons_succ])); repeat' first | exact PSub.refl _ | exact PSub.nil | (apply PSub.take; (repeat' first | (with_reducible exact pick_hd) | (with_reducible apply pick_tl))) | (with_reducible apply PSub.drop) | ((apply PSub.take); (repeat' first | exact pick_hd | (apply pick_tl))))))) | fail)
       all_goals
        skip
        exact ⟨_, PSub.drop (PSub.drop (maps_psub _ _)), rfl, rfl⟩
     ·dsimp only [mapsR]
      have hml2 : m.length ≤ i := hml
      by_cases hmem : nd0.key ∈ ns
      ·have hg : (eget m nd0.key).getD 0 = 1 := by rw [hkn, if_pos hmem]
       rw [if_pos (.inr (.inl (by simp [hasN, hmem])))] at h6
       subst h6
       repeat' (first | (with_reducible first | refine S.seq ?_ | refine S.block ?_) | fail)
       (apply S.draw; (case Hs => exact .blk nb (ndV nd0) 34 :: .row (some ⟨g, 0, none⟩) cp 86 2 ((k0, some (b, m)) :: s : Stk).length (((k0 - 1, some (b, m)) :: s : Stk).reverse.flatMap lvV) :: mpR b m :: mapsR s H); (case es => exact  [23]); (case n => exact  27); (case hn => rfl))
       repeat' (first | (apply T.nilCheckS; apply rfl; apply rfl) | (apply T.fieldAddrS; apply rfl; apply rfl) | (apply Sr.same; refine T.loadF (g := lvV) (v := .map (some b)) rfl rfl inferInstance (fun _ => rfl) rfl hget2 rfl rfl ?_) | (apply T.mapLook; apply rfl; apply rfl; infer_instance; (simp only [maxLen]; omega); apply rfl; rw [hg]) | (apply T.eqlM; apply rfl; apply rfl) | ((first | apply T.mv | apply T.asn); apply rfl; apply rfl) | (apply T.fieldAddrZ; apply rfl; apply rfl) | (apply T.load; apply rfl; apply rfl; infer_instance; apply rfl; apply rfl) | (apply T.gtr; (iterate 3 apply rfl)) | (apply T.pickT; (iterate 3 apply rfl)) | (apply T.pickF; (iterate 3 apply rfl)) | (with_reducible first | refine Sr.nil ?_ | refine S.seq ?_ | refine S.reg ?_) | (apply T.skip; apply rfl; (first | with_reducible rfl | decide); apply rfl) | (apply S.condTV; apply rfl; (first | with_reducible rfl | decide)) | (apply T.retW; apply rfl) | (apply SA.gxv; (iterate 5 apply rfl); kernel_rfl; apply rfl) | (apply SA.gz; (iterate 4 apply rfl); (first | with_reducible rfl | decide); apply rfl; kernel_rfl) | (apply SA.gn; (iterate 4 apply rfl); (first | with_reducible rfl | decide); apply rfl; kernel_rfl) | (apply SA.qn; (iterate 4 apply rfl); kernel_rfl) | (apply SA.qz; (iterate 4 apply rfl); kernel_rfl) | (apply SA.en; apply rfl; apply rfl; kernel_rfl) | (apply SA.done; apply rfl; kernel_rfl) | (apply SK.intro; (first | exact fun _ h => h | exact fun _ h => St.psub h (by ((repeat (first | dsimp only [List.set_cons_zero] | dsimp only [List.set_cons_succ])); repeat' first | exact PSub.refl _ | exact PSub.nil | (apply PSub.take; (repeat' first | (with_reducible exact pick_hd) | (with_reducible apply pick_tl))) | (with_reducible apply PSub.drop) | ((apply PSub.take); (repeat' first | exact pick_hd | (apply pick_tl))))))) | fail)
       all_goals
        skip
        exact ⟨_, PSub.drop (PSub.drop (PSub.drop (maps_psub _ _))), rfl, rfl⟩
      ·have hg : (eget m nd0.key).getD 0 = 0 := by rw [hkn, if_neg hmem]
       cases hvk : Lib.validD nd0.key with
       | false =>
        rw [if_pos (.inr (.inr hvk))] at h6
        subst h6
        repeat' (first | (with_reducible first | refine S.seq ?_ | refine S.block ?_) | fail)
        (apply S.draw; (case Hs => exact .blk nb (ndV nd0) 34 :: .row (some ⟨g, 0, none⟩) cp 86 2 ((k0, some (b, m)) :: s : Stk).length (((k0 - 1, some (b, m)) :: s : Stk).reverse.flatMap lvV) :: mpR b m :: mapsR s H); (case es => exact  [23]); (case n => exact  27); (case hn => rfl))
        repeat' (first | (apply T.nilCheckS; apply rfl; apply rfl) | (apply T.fieldAddrS; apply rfl; apply rfl) | (apply Sr.same; refine T.loadF (g := lvV) (v := .map (some b)) rfl rfl inferInstance (fun _ => rfl) rfl hget2 rfl rfl ?_) | (apply T.mapLook; apply rfl; apply rfl; infer_instance; (simp only [maxLen]; omega); apply rfl; rw [hg]) | (apply Sr.same; refine T.call rfl rfl (validString_spec hT (by omega)) ?_; rintro _ _ ⟨rfl, rfl⟩; rw [hvk]) | (apply T.eqlM; apply rfl; apply rfl) | ((first | apply T.mv | apply T.asn); apply rfl; apply rfl) | (apply T.fieldAddrZ; apply rfl; apply rfl) | (apply T.load; apply rfl; apply rfl; infer_instance; apply rfl; apply rfl) | (apply T.gtr; (iterate 3 apply rfl)) | (apply T.notB; apply rfl; apply rfl) | (apply T.pickF; (iterate 3 apply rfl)) | (with_reducible first | refine Sr.nil ?_ | refine S.seq ?_ | refine S.reg ?_) | (apply T.ungV; apply rfl; (first | with_reducible rfl | decide)) | (apply S.condTV; apply rfl; (first | with_reducible rfl | decide)) | (apply T.retW; apply rfl) | (with_reducible apply T.ofRet) | (apply SA.gxv; (iterate 5 apply rfl); kernel_rfl; apply rfl) | (apply SA.gz; (iterate 4 apply rfl); (first | with_reducible rfl | decide); apply rfl; kernel_rfl) | (apply SA.gn; (iterate 4 apply rfl); (first | with_reducible rfl | decide); apply rfl; kernel_rfl) | (apply SA.qn; (iterate 4 apply rfl); kernel_rfl) | (apply SA.qz; (iterate 4 apply rfl); kernel_rfl) | (apply SA.en; apply rfl; apply rfl; kernel_rfl) | (apply SA.done; apply rfl; kernel_rfl) | (apply SK.intro; (first | exact fun _ h => h | exact fun _ h => St.psub h (by ((repeat (first | dsimp only [List.set_cons_zero] | dsimp only [List.set_cons_succ])); repeat' first | exact PSub.refl _ | exact PSub.nil | (apply PSub.take; (repeat' first | (with_reducible exact pick_hd) | (with_reducible apply pick_tl))) | (with_reducible apply PSub.drop) | ((apply PSub.take); (repeat' first | exact pick_hd | (apply pick_tl))))))) | fail)
        all_goals
         skip
         exact ⟨_, PSub.drop (PSub.drop (PSub.drop (maps_psub _ _))), rfl, rfl⟩
       | true =>
        rw [if_neg (by rw [hvk]; simp [hasN, hmem])] at h6
        have hel := eput_length m nd0.key 1
        repeat' (first | (with_reducible first | refine S.seq ?_ | refine S.block ?_) | fail)
        (apply S.draw; (case Hs => exact .blk nb (ndV nd0) 34 :: .row (some ⟨g, 0, none⟩) cp 86 2 ((k0, some (b, m)) :: s : Stk).length (((k0 - 1, some (b, m)) :: s : Stk).reverse.flatMap lvV) :: mpR b m :: mapsR s H); (case es => exact  [23]); (case n => exact  27); (case hn => rfl))
        repeat' (first | (apply T.nilCheckS; apply rfl; apply rfl) | (apply T.fieldAddrS; apply rfl; apply rfl) | (apply Sr.same; refine T.loadF (g := lvV) (v := .map (some b)) rfl rfl inferInstance (fun _ => rfl) rfl hget2 rfl rfl ?_) | (apply T.mapLook; apply rfl; apply rfl; infer_instance; (simp only [maxLen]; omega); apply rfl; rw [hg]) | (apply Sr.same; refine T.call rfl rfl (validString_spec hT (by omega)) ?_; rintro _ _ ⟨rfl, rfl⟩; rw [hvk]) | (apply T.eqlM; apply rfl; apply rfl) | (apply T.neqM; apply rfl; apply rfl) | ((first | apply T.mv | apply T.asn); apply rfl; apply rfl) | (apply T.fieldAddrZ; apply rfl; apply rfl) | (apply T.load; apply rfl; apply rfl; infer_instance; apply rfl; apply rfl) | (apply T.gtr; (iterate 3 apply rfl)) | (apply T.notB; apply rfl; apply rfl) | (apply T.pickF; (iterate 3 apply rfl)) | (with_reducible first | refine Sr.nil ?_ | refine S.seq ?_ | refine S.reg ?_) | (apply T.ungV; apply rfl; (first | with_reducible rfl | decide)) | (apply S.condTV; apply rfl; (first | with_reducible rfl | decide)) | (apply S.condFV; apply rfl; (first | with_reducible rfl | decide)) | (with_reducible apply T.ofRet) | (apply SA.gxv; (iterate 5 apply rfl); kernel_rfl; apply rfl) | (apply SA.gz; (iterate 4 apply rfl); (first | with_reducible rfl | decide); apply rfl; kernel_rfl) | (apply SA.gn; (iterate 4 apply rfl); (first | with_reducible rfl | decide); apply rfl; kernel_rfl) | (apply SA.qn; (iterate 4 apply rfl); kernel_rfl) | (apply SA.qz; (iterate 4 apply rfl); kernel_rfl) | (apply SA.en; apply rfl; apply rfl; kernel_rfl) | (apply SA.done; apply rfl; kernel_rfl) | (apply SK.intro; (first | exact fun _ h => h | exact fun _ h => St.psub h (by ((repeat (first | dsimp only [List.set_cons_zero] | dsimp only [List.set_cons_succ])); repeat' first | exact PSub.refl _ | exact PSub.nil | (apply PSub.take; (repeat' first | (with_reducible exact pick_hd) | (with_reducible apply pick_tl))) | (with_reducible apply PSub.drop) | ((apply PSub.take); (repeat' first | exact pick_hd | (apply pick_tl))))))) | fail)
        all_goals
         skip
         (apply S.draw; (case Hs => exact []); (case es => exact  [6]); (case n => exact  7); (case hn => rfl))
         repeat' (first | (apply T.nilCheckS; apply rfl; apply rfl) | (apply T.fieldAddrS; apply rfl; apply rfl) | (apply Sr.same; refine T.loadF (g := lvV) (v := .map (some b)) rfl rfl inferInstance (fun _ => rfl) rfl hget2 rfl rfl ?_) | (apply T.mv; apply rfl; apply rfl) | (apply T.fieldAddrZ; apply rfl; apply rfl) | (apply T.load; apply rfl; apply rfl; infer_instance; apply rfl; apply rfl) | with_reducible refine Sr.nil ?_ | (apply SA.qn; (iterate 4 apply rfl); kernel_rfl) | (apply SA.en; apply rfl; apply rfl; kernel_rfl) | fail)
         refine Sr.front b ?_
         refine T.mapPutT rfl rfl rfl (by simp only [maxLen]; omega) (by simp only [maxLen]; omega) rfl ?_
         refine Sr.frontR (some ⟨g, 0, none⟩) ?_
         refine Sr.front nb ?_
         repeat' (first | (with_reducible first | refine Sr.nil ?_ | refine S.inBlock ?_) | (apply SA.done; apply rfl; kernel_rfl) | (apply SK.intro; (first | exact fun _ h => h | exact fun _ h => St.psub h (by ((repeat (first | dsimp only [List.set_cons_zero] | dsimp only [List.set_cons_succ])); repeat' first | exact PSub.refl _ | exact PSub.nil | (apply PSub.take; (repeat' first | (with_reducible exact pick_hd) | (with_reducible apply pick_tl))) | (with_reducible apply PSub.drop) | ((apply PSub.take); (repeat' first | exact pick_hd | (apply pick_tl))))))) | fail)
         skip
         rw [show ((k0 - 1, some (b, m)) :: s : Stk).reverse.flatMap lvV = ((k0 - 1, some (b, eput m nd0.key 1)) :: s : Stk).reverse.flatMap lvV by rw [List.reverse_cons, List.reverse_cons, List.flatMap_append, List.flatMap_append]; rfl]
         exact hrest _ _ _ ⟨(k0 - 1, some (b, eput m nd0.key 1)), (k0 - 1, some (nd0.key :: ns)), rfl, rfl, by omega, by show (eput m nd0.key 1).length ≤ _; omega, .obj (hkn.put _) hs', h6⟩ (by repeat' first | exact trivial | refine And.intro rfl ?_)
    ·rintro _ _ ⟨z, lv0, rfl, rfl, hz, hzm, hlv, hQ2⟩
     clear h6 hget2 hrl2 hset hrl hget i1 i2 hrel h4 h5 hk hml hb0
     have hlen : l'.length + 1 = s.length + 1 := by omega
     refine S.seq ?_
     refine S.cut (fun H' e' => ∃ (st2 : Stk) (l2 : List Lv) (a2 : Option Addr) (cp2 : Nat), H' = .row a2 cp2 86 2 st2.length (st2.reverse.flatMap lvV) :: mapsR st2 H ∧ e' = [(3, .slice a2 st2.length cp2), (10, .slice oa v.length oc), (11, .int .i64 v.length), (12, .int .i64 i)] ∧
      st2.length ≤ 33 ∧ (∀ z ∈ st2, z.1 ≤ 9223372036854775807 ∧ mlen z ≤ i + 1) ∧ LvOf st2 l2 ∧ shM Lib.validD (v.drop (i + 1)) (popL l2) = Q) ?_ ?_
     ·intro k' hrest
      have hbz : ∀ y ∈ (z :: s : Stk), y.1 ≤ 9223372036854775807 ∧ mlen y ≤ i + 1 := fun y hy => by
       rcases List.mem_cons.1 hy with rfl | hy
       ·exact ⟨hz, hzm⟩
       ·have := hbs y hy
        exact ⟨this.1, by omega⟩
      have hzl : (z :: s : Stk).reverse.length = s.length + 1 := by rw [List.length_reverse]; rfl
      unfold shNext at hQ2
      by_cases hrow : isRow nd0
      ·rw [if_pos hrow] at hQ2
       obtain ⟨kk, hkk⟩ : ∃ kk : Nat, nd0.kids = (kk : Int) := ⟨_, (Int.toNat_of_nonneg (plain_ok hp).2).symm⟩
       rw [hkk, Int.toNat_natCast] at hQ2
       have hkl : kk ≤ 9223372036854775807 := by omega
       by_cases hd : 32 < l'.length + 1
       ·rw [if_pos hd] at hQ2
        subst hQ2
        rcases hrow with h6' | h7'
        ·repeat' (first | ((first | apply T.mv | apply T.asn | apply T.len | apply T.fieldAddrZ); apply rfl; apply rfl) | (apply T.load; apply rfl; apply rfl; infer_instance; apply rfl; apply rfl) | ((first | apply T.gtr | apply T.eql); (iterate 3 apply rfl)) | (apply T.pickT; (iterate 3 apply rfl)) | (with_reducible first | refine Sr.nil ?_ | refine S.seq ?_ | refine S.reg ?_) | (apply T.skip; apply rfl; (first | with_reducible rfl | decide); apply rfl) | (apply S.condTV; apply rfl; (first | with_reducible rfl | decide)) | (apply S.condQ; apply rfl; all_goals (intro _; try (exfalso; first | omega | with_reducible contradiction))) | (apply T.gcase; apply rfl; apply rfl; all_goals (intro _; try (exfalso; first | omega | with_reducible contradiction))) | (apply T.retW; apply rfl) | fail)
         exact ⟨_, PSub.drop (PSub.drop (maps_psub _ _)), rfl, rfl⟩
        ·have h6' : ¬ nd0.kind = 6 := by omega
         repeat' (first | ((first | apply T.mv | apply T.asn | apply T.len | apply T.fieldAddrZ); apply rfl; apply rfl) | (apply T.load; apply rfl; apply rfl; infer_instance; apply rfl; apply rfl) | ((first | apply T.gtr | apply T.eql); (iterate 3 apply rfl)) | (apply T.pickF; (iterate 3 apply rfl)) | (with_reducible first | refine Sr.nil ?_ | refine S.seq ?_ | refine S.reg ?_) | (apply T.ungV; apply rfl; (first | with_reducible rfl | decide)) | (apply S.condQ; apply rfl; all_goals (intro _; try (exfalso; first | omega | with_reducible contradiction))) | (apply T.gcase; apply rfl; apply rfl; all_goals (intro _; try (exfalso; first | omega | with_reducible contradiction))) | (apply T.retW; apply rfl) | fail)
         exact ⟨_, PSub.drop (PSub.drop (maps_psub _ _)), rfl, rfl⟩
       ·rw [if_neg hd] at hQ2
        rcases hrow with h6' | h7'
        ·have h7' : ¬ nd0.kind = 7 := by omega
         rw [show lv2 nd0 = none from if_neg h7'] at hQ2
         repeat' (first | (apply Sr.same; refine T.appendF (g := lvV) (kk, none) rfl rfl (by show [Value.int .i64 nd0.kids, _] = _; rw [hkk]; rfl) inferInstance (fun _ => rfl) rfl rfl rfl (by constructor <;> omega) rfl ?_; intro a2 cp2; rw [← List.reverse_cons]) | ((first | apply T.mv | apply T.asn | apply T.len | apply T.fieldAddrZ); apply rfl; apply rfl) | (apply T.load; apply rfl; apply rfl; infer_instance; apply rfl; apply rfl) | ((first | apply T.gtr | apply T.eql); (iterate 3 apply rfl)) | (apply T.pickT; (iterate 3 apply rfl)) | (apply T.buildL; (iterate 3 apply rfl)) | (apply T.loadW; apply rfl; apply rfl; infer_instance; (first | rfl | (simp only [List.length_append, List.length_map, List.length_set, List.length_replicate, List.length_cons, List.length_nil]; first | done | omega)); apply rfl) | (apply T.storeW; apply rfl; apply rfl; infer_instance; (first | rfl | (simp only [List.length_append, List.length_map, List.length_set, List.length_replicate, List.length_cons, List.length_nil]; first | done | omega)); (first | rfl | (simp only [List.length_append, List.length_map, List.length_set, List.length_replicate, List.length_cons, List.length_nil]; first | done | omega)); (first | rfl | (repeat' first | apply all_nV | apply all_bV | apply all_iV | rfl | apply all_app))) | (apply T.alloc; apply rfl; intro nb) | (apply T.bsL; (iterate 5 apply rfl); intro nb) | (with_reducible first | refine Sr.nil ?_ | refine S.seq ?_ | refine S.reg ?_ | refine S.skip ?_) | (apply T.skip; apply rfl; (first | with_reducible rfl | decide); apply rfl) | (apply S.condTV; apply rfl; (first | with_reducible rfl | decide)) | (apply S.condQ; apply rfl; all_goals (intro _; try (exfalso; first | omega | with_reducible contradiction))) | (apply T.gcase; apply rfl; apply rfl; all_goals (intro _; try (exfalso; first | omega | with_reducible contradiction))) | fail)
         refine S.sublist ?_ (PSub.drop (PSub.drop (PSub.refl _)))
         exact hrest _ _ _ ⟨(kk, none) :: z :: s, (kk, none) :: lv0 :: l', a2, cp2, rfl, rfl, by show s.length + 1 + 1 ≤ 33; omega, fun y hy => (List.mem_cons.1 hy).elim (fun h => by subst h; exact ⟨hkl, Nat.zero_le _⟩) (hbz y), .list hlv, hQ2⟩ (by repeat' first | exact trivial | refine And.intro rfl ?_)
        ·have h6' : ¬ nd0.kind = 6 := by omega
         rw [show lv2 nd0 = some [] from if_pos h7'] at hQ2
         repeat' (first | (apply Sr.same; refine T.appendF (g := lvV) (kk, some (mb, [])) rfl rfl (by show [Value.int .i64 nd0.kids, _] = _; rw [hkk]; rfl) inferInstance (fun _ => rfl) rfl rfl rfl (by constructor <;> omega) rfl ?_; intro a2 cp2; rw [← List.reverse_cons]) | (apply T.mapMake; apply rfl; intro mb) | ((first | apply T.mv | apply T.asn | apply T.len | apply T.fieldAddrZ); apply rfl; apply rfl) | (apply T.load; apply rfl; apply rfl; infer_instance; apply rfl; apply rfl) | ((first | apply T.gtr | apply T.eql); (iterate 3 apply rfl)) | (apply T.pickF; (iterate 3 apply rfl)) | (apply T.buildL; (iterate 3 apply rfl)) | (apply T.loadW; apply rfl; apply rfl; infer_instance; (first | rfl | (simp only [List.length_append, List.length_map, List.length_set, List.length_replicate, List.length_cons, List.length_nil]; first | done | omega)); apply rfl) | (apply T.storeW; apply rfl; apply rfl; infer_instance; (first | rfl | (simp only [List.length_append, List.length_map, List.length_set, List.length_replicate, List.length_cons, List.length_nil]; first | done | omega)); (first | rfl | (simp only [List.length_append, List.length_map, List.length_set, List.length_replicate, List.length_cons, List.length_nil]; first | done | omega)); (first | rfl | (repeat' first | apply all_nV | apply all_bV | apply all_iV | rfl | apply all_app))) | (apply T.store; apply rfl; apply rfl; infer_instance; (first | decide | (simp; omega) | simp); apply rfl) | (apply T.alloc; apply rfl; intro nb) | (apply T.bsL; (iterate 5 apply rfl); intro nb) | (with_reducible first | refine Sr.nil ?_ | refine S.seq ?_ | refine S.reg ?_ | refine S.skip ?_) | (apply T.ungV; apply rfl; (first | with_reducible rfl | decide)) | (apply S.condQ; apply rfl; all_goals (intro _; try (exfalso; first | omega | with_reducible contradiction))) | (apply T.gcase; apply rfl; apply rfl; all_goals (intro _; try (exfalso; first | omega | with_reducible contradiction))) | fail)
         refine S.sublist (H' := .row a2 cp2 86 2 (s.length + 1 + 1) (((kk, some (mb, [])) :: z :: s : Stk).reverse.flatMap lvV) :: mpR mb [] :: mapsR (z :: s) H) ?_ (by first | exact PSub.take (pick_tl (pick_tl (pick_tl pick_hd))) (PSub.take pick_hd (PSub.drop (PSub.drop (PSub.refl _)))) | exact PSub.take (pick_tl (pick_tl (pick_tl pick_hd))) (PSub.take (pick_tl pick_hd) (PSub.drop (PSub.drop (PSub.refl _)))) | exact PSub.take (pick_tl (pick_tl pick_hd)) (PSub.drop (PSub.drop (PSub.refl _))))
         exact hrest _ _ _ ⟨(kk, some (mb, [])) :: z :: s, (kk, some []) :: lv0 :: l', a2, cp2, rfl, rfl, by show s.length + 1 + 1 ≤ 33; omega, fun y hy => (List.mem_cons.1 hy).elim (fun h => by subst h; exact ⟨hkl, Nat.zero_le _⟩) (hbz y), .obj KN.nil hlv, hQ2⟩ (by repeat' first | exact trivial | refine And.intro rfl ?_)
      ·rw [if_neg hrow] at hQ2
       have h6' : ¬ nd0.kind = 6 := fun h => hrow (.inl h)
       have h7' : ¬ nd0.kind = 7 := fun h => hrow (.inr h)
       repeat' (first | ((first | apply T.mv | apply T.fieldAddrZ); apply rfl; apply rfl) | (apply T.load; apply rfl; apply rfl; infer_instance; apply rfl; apply rfl) | (apply T.eql; (iterate 3 apply rfl)) | (apply T.pickF; (iterate 3 apply rfl)) | (with_reducible first | refine Sr.nil ?_ | refine S.seq ?_ | refine S.reg ?_ | refine S.skip ?_) | (apply T.ungV; apply rfl; (first | with_reducible rfl | decide)) | (apply S.condQ; apply rfl; all_goals (intro _; try (exfalso; first | omega | with_reducible contradiction))) | (apply T.gcase; apply rfl; apply rfl; all_goals (intro _; try (exfalso; first | omega | with_reducible contradiction))) | fail)
       refine S.sublist ?_ (PSub.drop (PSub.refl _))
       exact hrest _ _ _ ⟨z :: s, lv0 :: l', _, _, rfl, rfl, by show s.length + 1 ≤ 33; omega, hbz, hlv, hQ2⟩ (by repeat' first | exact trivial | refine And.intro rfl ?_)
     ·rintro _ _ ⟨st2, l2, a2, cp2, rfl, rfl, hl2, hb2, hlv2, hQ3⟩
      clear hQ2 hlv hzm hz hlen
      refine S.block ?_
      refine S.loopE 0 [10, 11, 12] (fun R b' μ H' e => ∃ (k : Nat) (st : Stk) (l : List Lv), H' = .row a2 cp2 86 2 k (st.reverse.flatMap lvV) :: mapsR st H ∧ e = (3, .slice a2 k cp2) :: b' ∧
       (k = st.length ∧ k ≤ 33 ∧ (∀ z ∈ st, z.1 ≤ 9223372036854775807 ∧ mlen z ≤ i + 1) ∧ LvOf st l ∧ shM Lib.validD (v.drop (i + 1)) (popL l) = Q) ∧ μ = k) rfl rfl ?_ _ _ ⟨_, st2, l2, rfl, rfl, ⟨rfl, hl2, hb2, hlv2, hQ3⟩, rfl⟩ (by repeat' first | exact trivial | refine And.intro rfl ?_)
      rintro _ _ _ ⟨k, st, l, rfl, rfl, ⟨c1, c2, c3, c4, c5⟩, rfl⟩ ih2
      cases st with
      | nil =>
       cases c4
       subst c1
       repeat' (first | ((first | apply T.mv | apply T.len); apply rfl; apply rfl) | (apply T.gtr; (iterate 3 apply rfl)) | (apply T.addI; apply rfl; apply rfl; omega; apply rfl) | (apply T.pickF; (iterate 3 apply rfl)) | (with_reducible first | refine Sr.nil ?_ | refine S.seq ?_ | refine S.reg ?_ | refine S.inBlock ?_) | (apply S.exit; apply rfl) | (apply T.skip; apply rfl; (first | with_reducible rfl | decide); apply rfl) | (apply S.condFV; apply rfl; (first | with_reducible rfl | decide)) | fail)
       exact ih _ _ _ _ ⟨i + 1, a2, cp2, 0, [], [], rfl, rfl, ⟨h7, rfl, by omega, by simp, .nil, rfl, c5⟩, rfl⟩ (by omega) (by repeat' first | exact trivial | refine And.intro rfl ?_)
      | cons y s2 =>
       subst c1
       obtain ⟨k0, y2⟩ := y
       obtain ⟨nm2, l3, rfl, c6, c7⟩ := c4.inv
       refine S.rowSome (by simp) ?_
       rintro g2 rfl
       have c8 : ((k0, y2) :: s2 : Stk).length = s2.length + 1 := rfl
       have j1 : ((((k0, y2) :: s2 : Stk).length : Nat) : Int) - 1 = (s2.length : Nat) := by rw [c8]; omega
       have jrl : ((k0, y2) :: s2 : Stk).reverse.length = s2.length + 1 := by rw [List.length_reverse, c8]
       have jget : ((k0, y2) :: s2 : Stk).reverse[s2.length]? = some (k0, y2) := by simp
       by_cases hk0 : k0 = 0
       ·subst hk0
        refine S.capR (ad := some ⟨g2, 0, none⟩) inferInstance fun hcap => ?_
        repeat' (first | (apply T.fieldAddrS; apply rfl; apply rfl) | (apply T.subI; apply rfl; apply rfl; (first | omega | (dsimp only; omega)); apply rfl; rw [j1]) | (apply Sr.same; refine T.loadF (g := lvV) (v := .int .i64 ((0 : Nat) : Int)) rfl rfl inferInstance (fun _ => rfl) rfl jget rfl rfl ?_) | (apply T.sliceHK; apply rfl; apply rfl; omega; apply rfl) | ((first | apply T.mv | apply T.asn | apply T.len); apply rfl; apply rfl) | ((first | apply T.gtr | apply T.eql); (iterate 3 apply rfl)) | (apply T.ixF; apply rfl; apply rfl; infer_instance; exact (fun _ => rfl); apply rfl; omega; omega; apply rfl) | (apply T.pickT; (iterate 3 apply rfl)) | (with_reducible first | refine Sr.nil ?_ | refine S.seq ?_ | refine S.block ?_ | refine S.reg ?_ | refine S.skip ?_ | refine S.inBlock ?_) | (apply T.ungV; apply rfl; (first | with_reducible rfl | decide)) | (apply S.condTV; apply rfl; (first | with_reducible rfl | decide)) | (apply T.gcase; apply rfl; apply rfl; all_goals (intro _; try (exfalso; first | omega | with_reducible contradiction))) | fail)
        refine S.weaken (H' := lvR (some ⟨g2, 0, none⟩) cp2 s2 :: mapsR s2 H) ?_ (fun w h => pop_lv h)
        exact ih2 _ _ _ _ ⟨s2.length, s2, l3, rfl, rfl, ⟨rfl, by rw [c8] at c2; omega, fun z hz => c3 z (List.mem_cons_of_mem _ hz), c6, c5⟩, rfl⟩ (by rw [c8]; omega) (by repeat' first | exact trivial | refine And.intro rfl ?_)
       ·repeat' (first | (apply T.fieldAddrS; apply rfl; apply rfl) | (apply T.subI; apply rfl; apply rfl; (first | omega | (dsimp only; omega)); apply rfl; rw [j1]) | (apply Sr.same; refine T.loadF (g := lvV) (v := .int .i64 ((k0 : Nat) : Int)) rfl rfl inferInstance (fun _ => rfl) rfl jget rfl rfl ?_) | ((first | apply T.mv | apply T.len); apply rfl; apply rfl) | ((first | apply T.gtr | apply T.eql); (iterate 3 apply rfl)) | (apply T.addI; apply rfl; apply rfl; omega; apply rfl) | (apply T.ixF; apply rfl; apply rfl; infer_instance; exact (fun _ => rfl); apply rfl; omega; omega; apply rfl) | (apply T.pickT; (iterate 3 apply rfl)) | (with_reducible first | refine Sr.nil ?_ | refine S.seq ?_ | refine S.reg ?_ | refine S.inBlock ?_) | (apply S.exit; apply rfl) | (apply T.ungV; apply rfl; (first | with_reducible rfl | decide)) | (apply S.condQ; apply rfl; all_goals (intro _; try (exfalso; first | omega | with_reducible contradiction))) | (apply T.gcase; apply rfl; apply rfl; all_goals (intro _; try (exfalso; first | omega | with_reducible contradiction))) | fail)
        have e5 : popL ((k0, nm2) :: l3) = (k0, nm2) :: l3 := by
         obtain ⟨k, rfl⟩ : ∃ k, k0 = k + 1 := ⟨k0 - 1, by omega⟩
         rfl
        dsimp only at c5
        rw [e5] at c5
        exact ih _ _ _ _ ⟨i + 1, _, cp2, _, (k0, y2) :: s2, (k0, nm2) :: l3, rfl, rfl, ⟨h7, rfl, c2, c3, c4, e5, c5⟩, rfl⟩ (by omega) (by repeat' first | exact trivial | refine And.intro rfl ?_)
 ·obtain rfl : i = v.length := by omega
  rw [List.drop_length] at h6
  have h8 := h4.len
  have h9 : (decide ((k : Int) = 0)) = Q := by
   rw [← h6, h2, h8]
   cases l with
   | nil => simp [shM]
   | cons x r =>
    simp only [shM, List.length_cons, List.isEmpty_cons, decide_eq_false_iff_not]
    omega
  subst h2
  repeat' (first | ((first | apply T.mv | apply T.asn | apply T.len); apply rfl; apply rfl) | ((first | apply T.lss | apply T.eql); (iterate 3 apply rfl)) | (with_reducible first | refine Sr.nil ?_ | refine S.seq ?_ | refine S.reg ?_) | (apply S.exit; apply rfl) | (apply S.condQ; apply rfl; all_goals (intro _; try (exfalso; first | omega | with_reducible contradiction))) | (apply T.retW; apply rfl) | fail)
  exact ⟨_, PSub.drop (maps_psub _ _), by rw [← h9], rfl⟩
end
end Go.Proofs.YtjajcmedipjfhaaGreatDoor
/- The walk of the revealing's face. -/
/- ptrs -/
namespace Go.Proofs.YtjajcmedipjfhaaGreatDoor
open Sg Go.IntWalk
set_option maxRecDepth 100000
set_option maxHeartbeats 4000000
section
variable {F : World} {M : List Nat} {H : List Res}
abbrev outR (b : Nat) : Res := .blk b [.slice none 0 0] 22
abbrev errR (b : Nat) (c : Int) : Res := .blk b [.int .i64 c] 27
theorem rev_ret {p q : Nat} : MeetsR Tryz.prog 28 [.pointer (some ⟨p, 0, none⟩), .pointer (some ⟨q, 0, none⟩)] .returning .returning F M H (fun e H' => e = .returned (.tuple #[]) ∧ H' = H) := by
 refine MeetsR.enter Tryz.func28 rfl rfl ?_
 repeat refine SD.seq ?_
 apply SD.recoverA; rfl; rfl; rfl; rfl
 repeat' (first | (apply T.mv; apply rfl; apply rfl) | (apply T.neqNil; apply rfl; apply rfl) | (with_reducible first | refine Sr.nil ?_ | refine S.seq ?_ | refine S.reg ?_ | refine S.skip ?_) | (apply S.condFV; apply rfl; (first | with_reducible rfl | decide)) | (apply T.doneW; apply rfl) | fail)
 exact ⟨_, .refl _, rfl, rfl⟩
theorem rev_pan {p q : Nat} {x y : Value} : MeetsR Tryz.prog 28 [.pointer (some ⟨p, 0, none⟩), .pointer (some ⟨q, 0, none⟩)] (.panicking [sdFault]) (.panicking [{ sdFault with recovered := true }]) F M (.blk q [y] 27 :: .blk p [x] 22 :: H)
  (fun e H' => e = .returned (.tuple #[]) ∧ H' = errR q 200 :: outR p :: H) := by
 refine MeetsR.enter Tryz.func28 rfl rfl ?_
 repeat refine SD.seq ?_
 apply SD.recoverA; rfl; rfl; rfl; rfl
 repeat' (first | ((first | apply T.mv | apply T.asn); apply rfl; apply rfl) | (apply T.extract; (iterate 3 apply rfl)) | (apply T.notB; apply rfl; apply rfl) | (apply T.assert; (iterate 4 apply rfl)) | (apply T.neqIf; apply rfl; apply rfl) | (apply T.storeW; apply rfl; apply rfl; infer_instance; (first | rfl | (simp only [List.length_append, List.length_map, List.length_set, List.length_replicate, List.length_cons, List.length_nil]; first | done | omega)); (first | rfl | (simp only [List.length_append, List.length_map, List.length_set, List.length_replicate, List.length_cons, List.length_nil]; first | done | omega)); (first | rfl | (repeat' first | apply all_nV | apply all_bV | apply all_iV | rfl | apply all_app))) | (apply T.alloc; apply rfl; intro nb) | (with_reducible first | refine Sr.nil ?_ | refine S.seq ?_ | refine S.reg ?_ | refine S.skip ?_) | (apply S.condTV; apply rfl; (first | with_reducible rfl | decide)) | (apply S.condFV; apply rfl; (first | with_reducible rfl | decide)) | fail)
 (apply S.draw; (case Hs => exact .blk nb [.int .i64 200] 62 :: H); (case es => exact  [2, 3]); (case n => exact  4); (case hn => rfl))
 repeat' (first | (apply T.fieldAddrZ; apply rfl; apply rfl) | (apply T.load; apply rfl; apply rfl; infer_instance; apply rfl; apply rfl) | (apply T.store; apply rfl; apply rfl; infer_instance; (first | decide | (simp; omega) | simp); apply rfl) | with_reducible refine Sr.nil ?_ | (apply T.doneW; apply rfl) | (apply SA.qz; (iterate 4 apply rfl); kernel_rfl) | (apply SA.qsn; (iterate 3 apply rfl); kernel_rfl; (first | exact fun _ h => h | exact fun _ h => St.psub h (by ((repeat (first | dsimp only [List.set_cons_zero] | dsimp only [List.set_cons_succ])); repeat' first | exact PSub.refl _ | exact PSub.nil | (apply PSub.take; (repeat' first | (with_reducible exact pick_hd) | (with_reducible apply pick_tl))) | (with_reducible apply PSub.drop) | ((apply PSub.take); (repeat' first | exact pick_hd | (apply pick_tl))))))) | (apply SA.en; apply rfl; apply rfl; kernel_rfl) | (apply SA.done; apply rfl; kernel_rfl) | (apply SK.intro; (first | exact fun _ h => h | exact fun _ h => St.psub h (by ((repeat (first | dsimp only [List.set_cons_zero] | dsimp only [List.set_cons_succ])); repeat' first | exact PSub.refl _ | exact PSub.nil | (apply PSub.take; (repeat' first | (with_reducible exact pick_hd) | (with_reducible apply pick_tl))) | (with_reducible apply PSub.drop) | ((apply PSub.take); (repeat' first | exact pick_hd | (apply pick_tl))))))) | fail)
 exact ⟨errR q 200 :: outR p :: H, by ((repeat (first | dsimp only [List.set_cons_zero] | dsimp only [List.set_cons_succ])); repeat' first | exact PSub.refl _ | exact PSub.nil | (apply PSub.take; (repeat' first | (with_reducible exact pick_hd) | (with_reducible apply pick_tl))) | (with_reducible apply PSub.drop) | ((apply PSub.take); (repeat' first | exact pick_hd | (apply pick_tl)))), rfl, rfl⟩
def readT (t : List UInt8) : Option Said := readX (digestOf t) (decO t)
abbrev noR (a : Option Addr) (c : Nat) (l : List Nd) : Res := .row a c 34 6 l.length (l.flatMap ndV)
def RvP (H : List Res) (z : Int × List Nd) (e : Ending) (H' : List Res) : Prop := ∃ oa oc, e = .returned (.tuple ⟨[.slice oa z.2.length oc, .int .i64 z.1]⟩) ∧ H' = noR oa oc z.2 :: H
theorem shaped_ngood {v : List Nd} (h : shapedX Lib.validD v = true) (hb : AllB v) (hl : v.length ≤ 1100000) : Fo 1 v ∧ NGood v := by
 obtain ⟨h1, h2⟩ := shaped_fo h
 exact ⟨h1, fun n hn a b => (h2 n hn).2.2 (fun hr => hr.elim a b), fun n hn => ⟨Nat.le_trans (hb n hn).2 (by omega), Nat.le_trans (hb n hn).1 (by omega)⟩, hl⟩
theorem rd_app {a : Option Addr} {vs : List Value} : ∀ X : List Res, Rd F M H a vs → Rd F M (X ++ H) a vs
 | [], h => h
 | _ :: r, h => have := rd_app r h; Rd.tl
instance Rd.app {X : List Res} {a : Option Addr} {vs : List Value} [h : Rd F M H a vs] : Rd F M (X ++ H) a vs := rd_app X h
theorem app_psub (H : List Res) : ∀ X : List Res, PSub H (X ++ H)
 | [] => PSub.refl _
 | _ :: r => PSub.drop (app_psub H r)
theorem decO_len {t b : List UInt8} (h : decO t = some b) : b.length ≤ t.length := by
 unfold decO at h
 split at h
 ·cases h
  unfold decX
  split
  ·exact Nat.zero_le _
  ·split
   ·exact Nat.zero_le _
   ·split
    ·rw [decB_len]; omega
    ·exact Nat.zero_le _
 ·cases h
theorem readT_ok {t : List UInt8} {s : Said} (h : readT t = some s) : s.dig = digestOf t ∧ s.value.length + 2 ≤ t.length ∧ Vl s.value ∧ AllB s.value ∧ s.name.length ≤ 1100000 := by
 unfold readT at h
 cases hd : decO t with
 | none => rw [hd] at h; cases h
 | some b =>
  rw [hd] at h
  have h2 := decO_len hd
  obtain ⟨a1, a2, a3⟩ := read_ok h
  exact ⟨a1, by omega, a3⟩
theorem digestOf_len (t : List UInt8) : (digestOf t).length = 43 := by rw [digestOf, enc_len, sha256_len]; rfl
theorem pend_snoc (L : List Said) (s : Said) : pend (L ++ [s]) [] = pend L [] + (s.value.length + 1) := by simp [pend]
theorem sum_get {ts : List (List UInt8)} {i : Nat} (h : i < ts.length) : ((ts.take (i + 1)).map List.length).sum = ((ts.take i).map List.length).sum + (ts.getD i []).length := by
 rw [List.take_succ_eq_append_getElem h, List.map_append, List.sum_append]
 simp only [List.map_cons, List.map_nil, List.sum_cons, List.sum_nil, Nat.add_zero, List.getD, List.getElem?_eq_getElem h, Option.getD_some]
theorem sum_le {ts : List (List UInt8)} (i : Nat) : ((ts.take i).map List.length).sum ≤ (ts.map List.length).sum := by
 have h := congrArg (fun l => (l.map List.length).sum) (List.take_append_drop i ts)
 simp only [List.map_append, List.sum_append] at h
 omega
section
variable {c : Ctx} {dr : Bool} {dd : List Deferred} {e : Env}
theorem D.sub {H' : List Res} {chain : List PanicEntry} (h : D c dr dd H' chain e) (hs : PSub H' H) : D c dr dd H chain e := fun w a hw ha hd => h w a (hw.psub hs) ha hd
end
section
variable {b : Nat} {vs : List Value} {E : TypeId} {g : Res → List Res} {met : List Dg}
theorem atb_dc : ∀ ds : List Dc, AtB H b vs E g → AtB (dcR met ds H) b vs E (fun r => dcR met ds (g r))
 | [], h => h
 | _ :: r, h => by
  have := atb_dc r h
  exact AtB.tl
instance AtB.dc {ds : List Dc} [h : AtB H b vs E g] : AtB (dcR met ds H) b vs E (fun r => dcR met ds (g r)) := atb_dc ds h
theorem atb_app : ∀ X : List Res, AtB H b vs E g → AtB (X ++ H) b vs E (fun r => X ++ g r)
 | [], h => h
 | _ :: r, h => by
  have := atb_app r h
  exact AtB.tl
instance AtB.app {X : List Res} [h : AtB H b vs E g] : AtB (X ++ H) b vs E (fun r => X ++ g r) := atb_app X h
theorem inb_dc : ∀ ds : List Dc, InB H b vs E → InB (dcR met ds H) b vs E
 | [], h => h
 | _ :: r, h => ⟨List.mem_cons_of_mem _ (inb_dc r h).h⟩
instance InB.dc {ds : List Dc} [h : InB H b vs E] : InB (dcR met ds H) b vs E := inb_dc ds h
instance InB.app {X : List Res} [h : InB H b vs E] : InB (X ++ H) b vs E := ⟨List.mem_append_right _ h.h⟩
end
structure ByD (B : Ents) (ds : List Dc) : Prop where
 hit : ∀ d ∈ ds.map (·.s.dig), ∃ b : Nat, (eget B d).getD (-1) = (b : Int)
 miss : ∀ d, d ∉ ds.map (·.s.dig) → eget B d = none
 one : (ds.map (·.s.dig)).Nodup → ∀ d, (eget B d).getD (-1) = match findD ds d with
  | some x => (x.b : Int)
  | none => -1
theorem byD_nil : ByD [] [] := ⟨fun d hd => (by cases hd), fun d _ => rfl, fun _ d => rfl⟩
theorem byD_put {B : Ents} {ds : List Dc} (h : ByD B ds) (x : Dc) : ByD (eput B x.s.dig x.b) (ds ++ [x]) := by
 refine ⟨fun d hd => ?_, fun d hd => ?_, fun hn d => ?_⟩
 ·rw [eget_put]
  by_cases e : x.s.dig = d
  ·rw [if_pos e]
   exact ⟨x.b, rfl⟩
  ·rw [if_neg e]
   rw [List.map_append, List.mem_append] at hd
   rcases hd with hd | hd
   ·exact h.hit d hd
   ·exact absurd (List.mem_singleton.1 hd).symm e
 ·rw [List.map_append, List.mem_append] at hd
  rw [eget_put, if_neg (fun e => hd (.inr (by rw [← e]; exact List.mem_singleton.2 rfl)))]
  exact h.miss d fun hd2 => hd (.inl hd2)
 ·rw [List.map_append, List.nodup_append] at hn
  obtain ⟨n1, n2, n3⟩ := hn
  have hf : findD (ds ++ [x]) d = match findD ds d with
    | some y => some y
    | none => if x.s.dig = d then some x else none := by
   unfold findD
   rw [List.find?_append]
   cases List.find? (fun x => x.s.dig == d) ds with
   | some y => rfl
   | none =>
    by_cases e : x.s.dig = d
    ·simp [e]
    ·simp [e]
  rw [hf, eget_put]
  by_cases e : x.s.dig = d
  ·rw [if_pos e, if_pos e]
   cases hfd : findD ds d with
   | none => rfl
   | some y =>
    obtain ⟨y1, y2⟩ := findD_some hfd
    exact absurd (y2.trans e.symm) (n3 _ (List.mem_map_of_mem y1) _ (List.mem_singleton.2 rfl))
  ·rw [if_neg e, if_neg e, h.one n1 d]
   cases findD ds d <;> rfl
def DsOk (ds : List Dc) (rws : List Res) : Prop := ∀ x ∈ ds, NGood x.s.value ∧ Vl x.s.value ∧ AllB x.s.value ∧ x.s.name.length ≤ 1100000 ∧ ∀ F M X, Rd F M (rws ++ X) x.va (x.s.value.flatMap ndV)
theorem dcV_new (x : Dc) : dcV [] x = [sV x.s.name, .bool x.s.member, .slice x.va x.s.value.length x.vc, .bool false] := by simp [dcV]
theorem new_perm (w p m r : Res) (X : List Res) (ds : List Dc) (x : Dc) : (.blk x.b [sV x.s.name, .bool x.s.member, .slice x.va x.s.value.length x.vc, .bool false] 66 :: r :: w :: p :: m :: dcR [] ds X).Perm (w :: p :: m :: dcR [] (ds ++ [x]) (r :: X)) := by
 rw [← dcV_new]
 refine (List.perm_append_comm_assoc [_, r] [w, p, m] (dcR [] ds X)).trans ?_
 refine List.Perm.append_left [w, p, m] ?_
 refine ((dcR_base r X ds).cons _).trans ?_
 have h := dcR_perm (met := []) ds [] x (r :: X)
 rw [List.append_nil] at h
 exact h.symm
theorem reveal_spec (hT : Tabs F M) (hS : ShP F M) {v : List Nd} {ts : List (List UInt8)} {va ta : Option Addr} {vc tc : Nat} (hRv : Rd F M H va (v.flatMap ndV)) (hRt : Rd F M H ta (ts.map sV)) (hb : AllB v) (hk : ∀ n ∈ v, n.kids ≤ 9223372036854775807) (hsz : v.length + (ts.map List.length).sum ≤ 1100000) (htl : ts.length ≤ 1100000) :
  Meets Tryz.prog 11 [.slice va v.length vc, .slice ta ts.length tc] F M H (RvP H (revealX Lib.validD readT v ts)) := by
 refine Meets.enter Tryz.func11 rfl rfl ?_
 generalize hQ : revealX Lib.validD readT v ts = Q
 unfold revealX at hQ
 have hvl : v.length ≤ 1100000 := by omega
 refine S.nilrow 34 6 ?_
 repeat' (first | (apply T.mv; apply rfl; apply rfl) | (apply T.alloc; apply rfl; intro nb) | (with_reducible first | refine Sr.nil ?_ | refine S.seq ?_ | refine S.reg ?_) | fail)
 rename_i nb'
 refine T.call rfl rfl (shaped_spec hT (v := v) rfl hvl (fun x hx => ⟨fun _ => (hb x hx).1, Nat.le_trans (hb x hx).1 (by omega), (hb x hx).2, hk x hx⟩)) ?_
 rintro _ _ ⟨rfl, rfl⟩
 cases hs : shapedX Lib.validD v with
 | false =>
  rw [if_pos (.inl hs)] at hQ
  subst hQ
  repeat' (first | (apply T.mv; apply rfl; apply rfl) | (apply T.notB; apply rfl; apply rfl) | (apply T.pickT; (iterate 3 apply rfl)) | (apply T.store; apply rfl; apply rfl; infer_instance; (first | decide | (simp; omega) | simp); apply rfl) | (with_reducible first | refine Sr.nil ?_ | refine S.seq ?_ | refine S.reg ?_) | (apply T.skip; apply rfl; (first | with_reducible rfl | decide); apply rfl) | (apply S.condTV; apply rfl; (first | with_reducible rfl | decide)) | (with_reducible apply T.ofRet) | (apply T.retC; apply rfl; ((repeat' first | apply RV.nil | (apply RV.tmp; apply rfl) | (apply RV.cellW; apply rfl; apply rfl; infer_instance; (first | rfl | (simp only [List.length_append, List.length_map, List.length_set, List.length_replicate, List.length_cons, List.length_nil]; first | done | omega))) | (apply RV.cellP; apply rfl; apply rfl; infer_instance; apply rfl))); apply rfl) | fail)
  exact ⟨_, PSub.drop (PSub.drop (PSub.refl _)), none, 0, rfl, rfl⟩
 | true =>
  obtain ⟨hf, hg⟩ := shaped_ngood hs hb hvl
  have ha := IsAt.of_fo hf
  have hlt := ha.lt
  have e0 : headN v = v.getD 0 default := by
   rw [← nodeAt_getD hlt]
   have := valAt_zero hf
   rw [← headN_valAt, this]
  by_cases k7 : (v.getD 0 default).kind = 7
  ·rw [if_neg (fun h => h.elim (fun h => by rw [hs] at h; cases h) (fun h => h (by rw [e0]; exact k7)))] at hQ
   repeat' (first | (apply T.mv; apply rfl; apply rfl) | (apply T.neq; (iterate 3 apply rfl)) | (apply T.ixF; apply rfl; apply rfl; infer_instance; exact (fun _ => rfl); apply rfl; omega; omega; apply rfl) | (apply T.fieldAddrF; apply rfl; infer_instance; exact (fun _ => rfl); apply rfl; omega; apply rfl) | (apply T.loadF; apply rfl; apply rfl; infer_instance; exact (fun _ => rfl); apply rfl; exact getD_some (by omega); apply rfl; apply rfl) | (apply T.notB; apply rfl; apply rfl) | (apply T.pickF; (iterate 3 apply rfl)) | (with_reducible first | refine Sr.nil ?_ | refine S.seq ?_ | refine S.reg ?_ | refine S.skip ?_) | (apply T.ungV; apply rfl; (first | with_reducible rfl | decide)) | (apply S.condQ; apply rfl; all_goals (intro _; try (exfalso; first | omega | with_reducible contradiction))) | (with_reducible apply T.ofRet) | fail)
   refine T.call rfl rfl (memberI_spec (v := v) (key := algN) rfl hvl ha) ?_
   rintro _ _ ⟨rfl, rfl⟩
   have hm := memI_valAt ha algN
   rw [valAt_zero hf] at hm
   repeat' (first | (apply T.asn; apply rfl; apply rfl) | with_reducible refine Sr.nil ?_ | (with_reducible apply T.ofRet) | fail)
   refine S.cut (fun H' e' => ¬ algBad v ∧ H' = errR nb 0 :: outR nb' :: noR none 0 [] :: H ∧ e' = [(0, .slice va v.length vc), (1, .slice ta ts.length tc), (4, .pointer (some ⟨nb', 0, none⟩)), (5, .pointer (some ⟨nb, 0, none⟩))]) (fun k' hk' => ?_) (fun H' e' hJ => ?_)
   ·rcases hm with ⟨m1, m2⟩ | ⟨qa, m1, md, m2⟩
    ·have hna : ¬ algBad v := by unfold algBad; rw [m2]; exact id
     rw [m1]
     repeat' (first | (apply T.mv; apply rfl; apply rfl) | (apply T.geq; (iterate 3 apply rfl)) | (apply T.pickF; (iterate 3 apply rfl)) | (with_reducible first | refine Sr.nil ?_ | refine S.seq ?_ | refine S.reg ?_ | refine S.skip ?_) | (apply T.skip; apply rfl; (first | with_reducible rfl | decide); apply rfl) | (apply T.skipU; apply rfl; apply rfl) | (apply S.condFV; apply rfl; (first | with_reducible rfl | decide)) | fail)
     exact hk' _ _ _ ⟨hna, rfl, rfl⟩ (by repeat' first | exact trivial | refine And.intro rfl ?_)
    ·have e1 : headN (valAt v qa) = v.getD qa default := nodeAt_getD md.lt
     have hqa := md.lt
     rw [m1]
     by_cases k5 : (v.getD qa default).kind = 5
     ·by_cases kt : (v.getD qa default).text = [115, 104, 97, 45, 50, 53, 54]
      ·have hna : ¬ algBad v := by unfold algBad; rw [m2]; simp only; rw [e1]; exact fun h => h ⟨k5, kt⟩
       repeat' (first | (apply T.sneq; (iterate 3 apply rfl)) | (apply T.mv; apply rfl; apply rfl) | (apply T.geq; (iterate 3 apply rfl)) | (apply T.neq; (iterate 3 apply rfl)) | (apply T.ixF; apply rfl; apply rfl; infer_instance; exact (fun _ => rfl); apply rfl; omega; omega; apply rfl) | (apply T.fieldAddrF; apply rfl; infer_instance; exact (fun _ => rfl); apply rfl; omega; apply rfl) | (apply T.loadF; apply rfl; apply rfl; infer_instance; exact (fun _ => rfl); apply rfl; exact getD_some (by omega); apply rfl; apply rfl) | (apply T.pickT; (iterate 3 apply rfl)) | (apply T.pickF; (iterate 3 apply rfl)) | (with_reducible first | refine Sr.nil ?_ | refine S.seq ?_ | refine S.reg ?_ | refine S.skip ?_) | (apply T.ungV; apply rfl; (first | with_reducible rfl | decide)) | (apply S.condQ; apply rfl; all_goals (intro _; try (exfalso; first | omega | with_reducible contradiction))) | (apply T.gcase; apply rfl; apply rfl; all_goals (intro _; try (exfalso; first | omega | with_reducible contradiction))) | fail)
       exact hk' _ _ _ ⟨hna, rfl, rfl⟩ (by repeat' first | exact trivial | refine And.intro rfl ?_)
      ·have hna : algBad v := by unfold algBad; rw [m2]; simp only; rw [e1]; exact fun h => kt h.2
       rw [if_pos hna] at hQ
       subst hQ
       repeat' (first | (apply T.sneq; (iterate 3 apply rfl)) | (apply T.mv; apply rfl; apply rfl) | (apply T.geq; (iterate 3 apply rfl)) | (apply T.neq; (iterate 3 apply rfl)) | (apply T.ixF; apply rfl; apply rfl; infer_instance; exact (fun _ => rfl); apply rfl; omega; omega; apply rfl) | (apply T.fieldAddrF; apply rfl; infer_instance; exact (fun _ => rfl); apply rfl; omega; apply rfl) | (apply T.loadF; apply rfl; apply rfl; infer_instance; exact (fun _ => rfl); apply rfl; exact getD_some (by omega); apply rfl; apply rfl) | (apply T.pickT; (iterate 3 apply rfl)) | (apply T.pickF; (iterate 3 apply rfl)) | (apply T.store; apply rfl; apply rfl; infer_instance; (first | decide | (simp; omega) | simp); apply rfl) | (with_reducible first | refine Sr.nil ?_ | refine S.seq ?_ | refine S.reg ?_) | (apply T.ungV; apply rfl; (first | with_reducible rfl | decide)) | (apply S.condQ; apply rfl; all_goals (intro _; try (exfalso; first | omega | with_reducible contradiction))) | (apply T.gcase; apply rfl; apply rfl; all_goals (intro _; try (exfalso; first | omega | with_reducible contradiction))) | (apply T.retC; apply rfl; ((repeat' first | apply RV.nil | (apply RV.tmp; apply rfl) | (apply RV.cellW; apply rfl; apply rfl; infer_instance; (first | rfl | (simp only [List.length_append, List.length_map, List.length_set, List.length_replicate, List.length_cons, List.length_nil]; first | done | omega))) | (apply RV.cellP; apply rfl; apply rfl; infer_instance; apply rfl))); apply rfl) | fail)
       exact ⟨_, PSub.drop (PSub.drop (PSub.refl _)), none, 0, rfl, rfl⟩
     ·have hna : algBad v := by unfold algBad; rw [m2]; simp only; rw [e1]; exact fun h => k5 h.1
      rw [if_pos hna] at hQ
      subst hQ
      repeat' (first | (apply T.mv; apply rfl; apply rfl) | ((first | apply T.geq | apply T.neq); (iterate 3 apply rfl)) | (apply T.ixF; apply rfl; apply rfl; infer_instance; exact (fun _ => rfl); apply rfl; omega; omega; apply rfl) | (apply T.fieldAddrF; apply rfl; infer_instance; exact (fun _ => rfl); apply rfl; omega; apply rfl) | (apply T.loadF; apply rfl; apply rfl; infer_instance; exact (fun _ => rfl); apply rfl; exact getD_some (by omega); apply rfl; apply rfl) | (apply T.pickT; (iterate 3 apply rfl)) | (apply T.store; apply rfl; apply rfl; infer_instance; (first | decide | (simp; omega) | simp); apply rfl) | (with_reducible first | refine Sr.nil ?_ | refine S.seq ?_ | refine S.reg ?_) | (apply T.ungV; apply rfl; (first | with_reducible rfl | decide)) | (apply T.skip; apply rfl; (first | with_reducible rfl | decide); apply rfl) | (apply S.condTV; apply rfl; (first | with_reducible rfl | decide)) | (apply T.gcase; apply rfl; apply rfl; all_goals (intro _; try (exfalso; first | omega | with_reducible contradiction))) | (apply T.retC; apply rfl; ((repeat' first | apply RV.nil | (apply RV.tmp; apply rfl) | (apply RV.cellW; apply rfl; apply rfl; infer_instance; (first | rfl | (simp only [List.length_append, List.length_map, List.length_set, List.length_replicate, List.length_cons, List.length_nil]; first | done | omega))) | (apply RV.cellP; apply rfl; apply rfl; infer_instance; apply rfl))); apply rfl) | fail)
      exact ⟨_, PSub.drop (PSub.drop (PSub.refl _)), none, 0, rfl, rfl⟩
   ·obtain ⟨hna, rfl, rfl⟩ := hJ
    rw [if_neg hna] at hQ
    repeat' (first | (apply Sr.same; refine T.ptrMake (t := 54) (k := 9) (E := 58) rfl ?_; intro mp) | (apply T.mapMake; apply rfl; intro mb) | ((first | apply T.mv | apply T.asn | apply T.len); apply rfl; apply rfl) | (apply T.buildL; (iterate 3 apply rfl)) | (apply T.box; apply rfl; apply rfl; intro nb) | (with_reducible first | refine Sr.nil ?_ | refine S.seq ?_ | refine S.block ?_ | refine S.reg ?_) | fail)
    rename_i b5 hk7
    obtain ⟨wb, hwb⟩ : ∃ wb, wb = nb := ⟨_, rfl⟩
    obtain ⟨sb, hsb⟩ : ∃ sb, sb = mb := ⟨_, rfl⟩
    rw [← hwb, ← hsb]
    obtain ⟨base, hbase⟩ : ∃ base, base = errR b5 0 :: outR nb' :: noR none 0 [] :: H := ⟨_, rfl⟩
    have hRt2 : Rd F M base ta (ts.map sV) := by rw [hbase]; exact Rd.tl
    have hRv2 : Rd F M base va (v.flatMap ndV) := by rw [hbase]; exact Rd.tl
    generalize hQ1 : allO readT ts = Q1 at hQ
    dsimp only
    rw [← hbase]
    refine S.perm ?_ ((List.Perm.swap _ _ _).cons _)
    refine S.loopE 3 [0, 4, 5, 7, 49, 50] (fun R b' μ H' e => ∃ (i : Nat) (ds : List Dc) (rws : List Res) (B : Ents), H' = .blk wb (wkV mp sb (dupL (ds.map (·.s.dig))) none 0 0) 57 :: .ex mp (ptrQ Tryz.prog 9 B.length (mapD B)) :: .ex sb (mapQ Tryz.prog 9 3 0 (mapD [])) :: dcR [] ds (rws ++ base) ∧ e = (51, .int .i64 i) :: b' ∧
     (i ≤ ts.length ∧ addQ (ds.map (·.s)) (allO readT (ts.drop i)) = Q1 ∧ B.length ≤ i ∧ ByD B ds ∧ DsOk ds rws ∧ pend (ds.map (·.s)) [] ≤ ((ts.take i).map List.length).sum) ∧ μ = ts.length - i) rfl rfl ?_ _ _
     ⟨0, [], [], [], by simp [dupL, dcR], rfl, ⟨Nat.zero_le _, by rw [List.drop_zero, List.map_nil, addQ_nil]; exact hQ1, Nat.le_refl _, byD_nil, fun x hx => (by cases hx), by simp [pend]⟩, rfl⟩ (by repeat' first | exact trivial | refine And.intro rfl ?_)
    rintro _ _ _ ⟨i, ds, rws, B, rfl, rfl, ⟨g1, g2, g3, g4, g5, g6⟩, rfl⟩ ih
    by_cases h1 : i < ts.length
    ·have hdr : ts.drop i = ts.getD i [] :: ts.drop (i + 1) := by
      rw [List.drop_eq_getElem_cons h1]
      simp [List.getD, h1]
     rw [hdr] at g2
     have hst := sum_get h1
     have hsl := sum_le (ts := ts) (i + 1)
     repeat' (first | (apply T.loadS; apply rfl; infer_instance; (first | omega | (simp only [List.length_map]; omega)); apply rfl) | ((first | apply T.mv | apply T.asn); apply rfl; apply rfl) | (apply T.lss; (iterate 3 apply rfl)) | (apply T.ixN; apply rfl; apply rfl; infer_instance; omega; (first | omega | (simp only [List.length_map]; omega) | (simp; omega)); apply rfl) | (with_reducible first | refine Sr.nil ?_ | refine S.seq ?_ | refine S.block ?_ | refine S.reg ?_ | refine S.skip ?_) | (apply S.condQ; apply rfl; all_goals (intro _; try (exfalso; first | omega | with_reducible contradiction))) | fail)
     generalize ts.getD i [] = t at *
     refine T.call rfl rfl (sdread_spec (dg := digestOf t) hT (by omega)) ?_
     cases hr : readT t with
     | none =>
      rw [allO_no hr] at g2
      subst g2
      dsimp only at hQ
      subst hQ
      have hr' : readX (digestOf t) (decO t) = none := hr
      rw [hr']
      rintro _ _ ⟨rfl, rfl⟩
      refine T.ofRet ?_
      refine Sr.sublist ?_ (PSub.trans (PSub.trans (app_psub base rws) (dc_psub [] ds _)) (PSub.drop (PSub.drop (PSub.drop (PSub.refl _)))))
      subst hbase
      repeat' (first | ((first | apply T.mv | apply T.asn); apply rfl; apply rfl) | (apply T.extract; (iterate 3 apply rfl)) | (apply T.notB; apply rfl; apply rfl) | (apply T.store; apply rfl; apply rfl; infer_instance; (first | decide | (simp; omega) | simp); apply rfl) | (with_reducible first | refine Sr.nil ?_ | refine S.seq ?_ | refine S.reg ?_) | (apply S.condTV; apply rfl; (first | with_reducible rfl | decide)) | (apply T.retC; apply rfl; ((repeat' first | apply RV.nil | (apply RV.tmp; apply rfl) | (apply RV.cellW; apply rfl; apply rfl; infer_instance; (first | rfl | (simp only [List.length_append, List.length_map, List.length_set, List.length_replicate, List.length_cons, List.length_nil]; first | done | omega))) | (apply RV.cellP; apply rfl; apply rfl; infer_instance; apply rfl))); apply rfl) | fail)
      exact ⟨_, PSub.drop (PSub.drop (PSub.refl _)), none, 0, rfl, rfl⟩
     | some s =>
      rw [allO_go hr] at g2
      have hr' : readX (digestOf t) (decO t) = some s := hr
      obtain ⟨r1, r2, r3, r4, r5⟩ := readT_ok hr
      rw [hr']
      rintro _ _ ⟨b, xa, xc, r, rfl, k1, k2, k3, k4, rfl⟩
      repeat' (first | ((first | apply T.mv | apply T.asn); apply rfl; apply rfl) | (apply T.extract; (iterate 3 apply rfl)) | (apply T.notB; apply rfl; apply rfl) | (with_reducible first | refine Sr.nil ?_ | refine S.seq ?_ | refine S.reg ?_ | refine S.skip ?_) | (apply S.condFV; apply rfl; (first | with_reducible rfl | decide)) | (with_reducible apply T.ofRet) | fail)
      refine T.call rfl rfl (digest_spec hS (by omega)) ?_
      rintro _ _ ⟨rfl, rfl⟩
      rw [← r1]
      have hdup : dupL (ds.map (·.s.dig) ++ [s.dig]) = (dupL (ds.map (·.s.dig)) || decide (s.dig ∈ ds.map (·.s.dig))) := dupB_snoc _ _
      have hnp := byD_put g4 ⟨b, s, xa, xc⟩
      have hel := eput_length B s.dig (b : Int)
      have hdl : s.dig.length ≤ maxLen := by rw [r1, digestOf_len]; decide
      have hpn := pend_snoc (ds.map (·.s)) s
      have hmp : (ds ++ [(⟨b, s, xa, xc⟩ : Dc)]).map (·.s) = ds.map (·.s) ++ [s] := List.map_append
      have hmd : (ds ++ [(⟨b, s, xa, xc⟩ : Dc)]).map (·.s.dig) = ds.map (·.s.dig) ++ [s.dig] := List.map_append
      have hok : DsOk (ds ++ [⟨b, s, xa, xc⟩]) (r :: rws) := fun x hx => by
       rcases List.mem_append.1 hx with hx | hx
       ·obtain ⟨q1, q2, q3, q4, q5⟩ := g5 x hx
        exact ⟨q1, q2, q3, q4, fun F M X => by have := q5 F M X; exact Rd.tl⟩
       ·obtain rfl := List.mem_singleton.1 hx
        exact ⟨k2, r3, r4, r5, fun F M X => k1 F M (rws ++ X)⟩
      have fin := fun e'' => ih _ _ _ e'' ⟨i + 1, ds ++ [⟨b, s, xa, xc⟩], r :: rws, eput B s.dig b, rfl, rfl, ⟨by omega, by rw [hmp]; exact g2, by omega, hnp, hok, by rw [hmp, hpn]; omega⟩, rfl⟩ (by omega)
      clear ih
      obtain ⟨tw, htw⟩ : ∃ tw, dupL (ds.map (·.s.dig)) = tw := ⟨_, rfl⟩
      rw [hmd, hdup, htw] at fin
      rw [htw]
      by_cases hmem : s.dig ∈ ds.map (·.s.dig)
      ·obtain ⟨b0, hb0⟩ := g4.hit _ hmem
       rw [decide_eq_true hmem] at fin
       cases tw
       all_goals
        repeat' (first | (apply T.ptrLook; apply rfl; apply rfl; infer_instance; (first | assumption | (simp only [maxLen]; omega) | omega); apply rfl) | ((first | apply T.mv | apply T.asn | apply T.nilCheck | apply T.fieldAddrZ); apply rfl; apply rfl) | (apply T.load; apply rfl; apply rfl; infer_instance; apply rfl; apply rfl) | (apply T.pickT; (iterate 3 apply rfl)) | (apply T.store; apply rfl; apply rfl; infer_instance; (first | decide | (simp; omega) | simp); apply rfl) | (with_reducible first | refine Sr.nil ?_ | refine S.seq ?_ | refine S.reg ?_) | (apply T.ungV; apply rfl; (first | with_reducible rfl | decide)) | (apply T.skip; apply rfl; (first | with_reducible rfl | decide); apply rfl) | (with_reducible apply T.ofRet) | fail)
        try rw [hb0, pV_nat]
        repeat' (first | (apply T.neqP; apply rfl; apply rfl) | ((first | apply T.mv | apply T.nilCheck | apply T.fieldAddrZ); apply rfl; apply rfl) | (apply T.load; apply rfl; apply rfl; infer_instance; apply rfl; apply rfl) | (apply T.pickF; (iterate 3 apply rfl)) | (apply T.store; apply rfl; apply rfl; infer_instance; (first | decide | (simp; omega) | simp); apply rfl) | (with_reducible first | refine Sr.nil ?_ | refine S.reg ?_) | fail)
        refine T.ptrPutA (p := b) rfl rfl rfl inferInstance hdl (by simp only [maxLen]; omega) ?_
        dsimp only
        repeat' (first | (apply T.mv; apply rfl; apply rfl) | (apply T.addI; apply rfl; apply rfl; omega; apply rfl) | (with_reducible first | refine Sr.nil ?_ | refine S.reg ?_ | refine S.inBlock ?_) | fail)
        refine S.perm ?_ (new_perm _ _ _ r (rws ++ base) ds ⟨b, s, xa, xc⟩)
        exact fin _ (by repeat' first | exact trivial | refine And.intro rfl ?_)
      ·have hm0 : (eget B s.dig).getD (-1) = -1 := by rw [g4.miss _ hmem]; rfl
       rw [decide_eq_false hmem] at fin
       cases tw
       all_goals
        repeat' (first | (apply T.ptrLook; apply rfl; apply rfl; infer_instance; (first | assumption | (simp only [maxLen]; omega) | omega); apply rfl) | ((first | apply T.mv | apply T.asn | apply T.nilCheck | apply T.fieldAddrZ); apply rfl; apply rfl) | (apply T.load; apply rfl; apply rfl; infer_instance; apply rfl; apply rfl) | (apply T.pickT; (iterate 3 apply rfl)) | (apply T.store; apply rfl; apply rfl; infer_instance; (first | decide | (simp; omega) | simp); apply rfl) | (with_reducible first | refine Sr.nil ?_ | refine S.seq ?_ | refine S.reg ?_) | (apply T.ungV; apply rfl; (first | with_reducible rfl | decide)) | (apply T.skip; apply rfl; (first | with_reducible rfl | decide); apply rfl) | (with_reducible apply T.ofRet) | fail)
        try rw [hm0, show pV (-1) = .pointer none from rfl]
        repeat' (first | (apply T.neqP0; apply rfl; apply rfl) | ((first | apply T.mv | apply T.nilCheck | apply T.fieldAddrZ); apply rfl; apply rfl) | (apply T.load; apply rfl; apply rfl; infer_instance; apply rfl; apply rfl) | (apply T.pickF; (iterate 3 apply rfl)) | (apply T.store; apply rfl; apply rfl; infer_instance; (first | decide | (simp; omega) | simp); apply rfl) | (with_reducible first | refine Sr.nil ?_ | refine S.reg ?_) | fail)
        refine T.ptrPutA (p := b) rfl rfl rfl inferInstance hdl (by simp only [maxLen]; omega) ?_
        dsimp only
        repeat' (first | (apply T.mv; apply rfl; apply rfl) | (apply T.addI; apply rfl; apply rfl; omega; apply rfl) | (with_reducible first | refine Sr.nil ?_ | refine S.reg ?_ | refine S.inBlock ?_) | fail)
        refine S.perm ?_ (new_perm _ _ _ r (rws ++ base) ds ⟨b, s, xa, xc⟩)
        exact fin _ (by repeat' first | exact trivial | refine And.intro rfl ?_)
    ·obtain rfl : i = ts.length := by omega
     clear ih
     rw [List.drop_length] at g2
     have hq2 : Q1 = some (ds.map (·.s)) := by rw [← g2]; simp [allO, addQ]
     subst hq2
     dsimp only at hQ
     rw [List.map_map, show ((fun x : Said => x.dig) ∘ fun x : Dc => x.s) = fun x => x.s.dig from rfl] at hQ
     subst hbase
     rw [List.take_length] at g6
     obtain ⟨tw, htw⟩ : ∃ tw, dupL (ds.map (·.s.dig)) = tw := ⟨_, rfl⟩
     rw [htw] at hQ ⊢
     cases tw with
     | true =>
      rw [if_pos rfl] at hQ
      subst hQ
      repeat' (first | ((first | apply T.mv | apply T.nilCheck | apply T.fieldAddrZ); apply rfl; apply rfl) | (apply T.load; apply rfl; apply rfl; infer_instance; apply rfl; apply rfl) | (apply T.lss; (iterate 3 apply rfl)) | (apply T.store; apply rfl; apply rfl; infer_instance; (first | decide | (simp; omega) | simp); apply rfl) | (with_reducible first | refine Sr.nil ?_ | refine S.seq ?_ | refine S.reg ?_) | (apply S.exit; apply rfl) | (apply S.condTV; apply rfl; (first | with_reducible rfl | decide)) | (apply S.condQ; apply rfl; all_goals (intro _; try (exfalso; first | omega | with_reducible contradiction))) | (apply T.retC; apply rfl; ((repeat' first | apply RV.nil | (apply RV.tmp; apply rfl) | (apply RV.cellW; apply rfl; apply rfl; infer_instance; (first | rfl | (simp only [List.length_append, List.length_map, List.length_set, List.length_replicate, List.length_cons, List.length_nil]; first | done | omega))) | (apply RV.cellP; apply rfl; apply rfl; infer_instance; apply rfl))); apply rfl) | fail)
      exact ⟨_, PSub.trans (PSub.trans (PSub.trans (PSub.drop (PSub.drop (PSub.refl _))) (app_psub _ rws)) (dc_psub [] ds _)) (PSub.drop (PSub.drop (PSub.drop (PSub.refl _)))), none, 0, rfl, rfl⟩
     | false =>
      rw [if_neg (by simp)] at hQ
      have hnd : (ds.map (·.s.dig)).Nodup := by
       unfold dupL at htw
       simpa using htw
      generalize hL : ds.map (·.s) = L at *
      have hc := value_all (F := F) (M := M) (p := wb) (bb := mp) (sb := sb) (B := B) (ds := ds) (fun x hx => ⟨(g5 x hx).1, (g5 x hx).2.1.1⟩) (fun x hx => Nat.le_trans (g5 x hx).2.2.2.1 (by simp only [maxLen]; omega)) (v.length + pend L [] + 1) (rws ++ (errR b5 0 :: outR nb' :: noR none 0 [] :: H)) [] [] none 0 [] v va vc 0 [] true inferInstance hg ha (by simp [maxLen]) (fun x hx => (g5 x hx).2.2.2.2 F M _)
       ⟨g4.one hnd, fun d => by simp [eget], Nat.le_refl _, hnd⟩ (by rw [hL, valAt_zero hf]; omega) (by rw [hL, valAt_zero hf]; simp only [List.length_nil]; omega)
      rw [hL, valAt_zero hf] at hc
      have hfl : Tryz.f11.results = (#[.cell 4 22, .cell 5 27] : Array ResultVar) := rfl
      have hLok : LOk L := fun s hs => by
       rw [← hL] at hs
       obtain ⟨x, hx, rfl⟩ := List.mem_map.1 hs
       exact ⟨(g5 x hx).2.1, (g5 x hx).2.2.1, (g5 x hx).2.2.2.1⟩
      have hkeep := rev_keeps (L := L) (fun s hs => (hLok s hs).1) (v.length + pend L [] + 1) true [] v []
      have hbnd := rev_b hLok (v.length + pend L [] + 1) true [] v []
      repeat' (first | ((first | apply T.mv | apply T.nilCheck | apply T.fieldAddrZ); apply rfl; apply rfl) | (apply T.load; apply rfl; apply rfl; infer_instance; apply rfl; apply rfl) | (apply T.lss; (iterate 3 apply rfl)) | (apply S.deferM; apply rfl; apply rfl) | (with_reducible first | refine Sr.nil ?_ | refine S.seq ?_ | refine S.reg ?_ | refine S.skip ?_) | (apply S.exit; apply rfl) | (apply S.condFV; apply rfl; (first | with_reducible rfl | decide)) | (apply S.condQ; apply rfl; all_goals (intro _; try (exfalso; first | omega | with_reducible contradiction))) | fail)
      refine Sr.nilrow 34 6 ?_
      refine Sr.perm ?_ ((List.Perm.swap _ _ _).trans (((List.Perm.swap _ _ _).trans ((List.Perm.swap _ _ _).cons _)).cons _))
      refine T.call rfl rfl hc ?_
      clear hc
      cases hr : revV (v.length + pend L [] + 1) L true [] v [] with
      | none =>
       rw [hr] at hQ
       dsimp only at hQ
       subst hQ
       rintro _ _ ⟨rfl, rfl⟩
       refine T.ofPan ?_
       refine D.sub ?_ (app_psub _ rws)
       refine D.recovered HFn.h hfl rfl rfl rev_pan ?_
       rintro _ _ ⟨rfl, rfl⟩
       refine ⟨⟨_, rfl⟩, [.slice none 0 0, .int .i64 200], ?_, noR none 0 [] :: H, fun w h => h.psub (PSub.drop (PSub.drop (PSub.refl _))), none, 0, rfl, rfl⟩
       (repeat' first | apply RV.nil | (apply RV.cellP; apply rfl; apply rfl; infer_instance; apply rfl))
      | some my =>
       obtain ⟨m, y⟩ := my
       rw [hr] at hQ
       dsimp only at hQ
       obtain ⟨b1, b2⟩ := hkeep m y ⟨hf, hg.flat⟩ (by omega) hr
       have b3 := b1.size
       have b4 := hbnd m y ⟨hf, hg.flat⟩ hb (by simp) hr
       have hyl : y.length ≤ 1100000 := by simp only [List.length_nil] at b3; omega
       rintro _ _ ⟨E2, oa, oc, k1, rfl, rfl⟩
       rw [List.nil_append]
       repeat' (first | ((first | apply T.mv | apply T.nilCheck | apply T.fieldAddrZ); apply rfl; apply rfl) | (apply T.load; apply rfl; apply rfl; infer_instance; apply rfl; apply rfl) | (with_reducible first | refine Sr.nil ?_ | refine S.seq ?_ | refine S.reg ?_) | (with_reducible apply T.ofRet) | fail)
       refine Sr.front mp ?_
       refine T.ptrRange (t := 54) (k := 9) (E := 58) rfl rfl (fun r => ?_)
       dsimp only
       repeat' (first | (with_reducible first | refine Sr.nil ?_ | refine S.block ?_) | fail)
       have hB0 : ∀ x ∈ ds, Maps.has (mapD B) (.string x.s.dig) = true := fun x hx => by
        obtain ⟨b0, h0⟩ := g4.hit _ (List.mem_map_of_mem hx)
        rw [mapD_has]
        cases hg0 : eget B x.s.dig with
        | none => rw [hg0] at h0; simp at h0; try omega
        | some z => rfl
       refine S.loopE 2 [4, 5, 7, 99] (fun R b' μ H' e => ∃ (left : Lit → Bool) (tw : Bool), H' = .ex2 mp r (ptrRQ Tryz.prog 9 mp B.length (mapD B) left μ) :: .blk wb (wkV mp sb tw oa y.length oc) 57 :: R ∧ e = b' ∧ (tw = true ↔ (dupB m = true ∨ ∃ x ∈ ds, left (.string x.s.dig) = false ∧ x.s.dig ∉ m))) rfl rfl ?_ _ _
        ⟨Maps.has (mapD B), dupB m, rfl, rfl, ⟨.inl, fun h => h.elim id fun ⟨x, hx, h1, _⟩ => by rw [hB0 x hx] at h1; cases h1⟩⟩ (by repeat' first | exact trivial | refine And.intro rfl ?_)
       rintro μ _ _ ⟨left, tw, rfl, rfl, hI⟩ ih
       refine S.seq ?_
       refine S.reg ?_
       refine T.ptrNext rfl rfl (fun hl => ?_) (fun kk z cnt' hlf hge hlt2 => ?_)
       ·clear ih
        refine Sr.ptrUnrange ?_
        repeat' (first | ((first | apply T.mv | apply T.asn | apply T.nilCheck | apply T.fieldAddrZ); apply rfl; apply rfl) | (apply T.load; apply rfl; apply rfl; infer_instance; apply rfl; apply rfl) | (apply T.extract; (iterate 3 apply rfl)) | (with_reducible first | refine Sr.nil ?_ | refine S.seq ?_ | refine S.block ?_ | refine S.reg ?_) | (apply S.exit; apply rfl) | (apply S.condFV; apply rfl; (first | with_reducible rfl | decide)) | fail)
        have hall : tw = true ↔ (dupL m = true ∨ ∃ s ∈ L, s.dig ∉ m) := by
         rw [hI]
         refine or_congr Iff.rfl ⟨fun ⟨x, h1, _, h2⟩ => ⟨x.s, by rw [← hL]; exact List.mem_map_of_mem h1, h2⟩, fun ⟨s, h1, h2⟩ => ?_⟩
         rw [← hL] at h1
         obtain ⟨x, h3, rfl⟩ := List.mem_map.1 h1
         exact ⟨x, h3, hl _, h2⟩
        cases tw with
        | true =>
         rw [if_pos (hall.1 rfl)] at hQ
         subst hQ
         repeat' (first | (apply T.store; apply rfl; apply rfl; infer_instance; (first | decide | (simp; omega) | simp); apply rfl) | (with_reducible first | refine Sr.nil ?_ | refine S.seq ?_ | refine S.reg ?_) | (apply S.condTV; apply rfl; (first | with_reducible rfl | decide)) | fail)
         refine T.retDr hfl rfl rfl rev_ret ?_
         rintro _ _ ⟨rfl, rfl⟩
         refine ⟨⟨_, rfl⟩, [.slice none 0 0, .int .i64 201], ?_, noR none 0 [] :: H, fun w h => h.psub (PSub.trans (PSub.trans (PSub.trans (PSub.drop (PSub.drop (PSub.refl _))) (app_psub _ rws)) (dc_psub m ds _)) (PSub.drop (PSub.drop (PSub.drop (PSub.drop (PSub.refl _)))))), none, 0, rfl, rfl⟩
         (repeat' first | apply RV.nil | (apply RV.cellP; apply rfl; apply rfl; infer_instance; apply rfl))
        | false =>
         rw [if_neg (fun h => by cases hall.2 h)] at hQ
         have hky := b2.1.kids_le
         repeat' (first | ((first | apply T.mv | apply T.nilCheck | apply T.fieldAddrZ); apply rfl; apply rfl) | (apply T.load; apply rfl; apply rfl; infer_instance; apply rfl; apply rfl) | (with_reducible first | refine S.seq ?_ | refine S.reg ?_) | (apply S.condFV; apply rfl; (first | with_reducible rfl | decide)) | fail)
         refine T.call rfl rfl (shaped_spec hT (v := y) rfl hyl (fun x hx => ⟨fun _ => (b4 x hx).1, Nat.le_trans (b4 x hx).1 (by omega), (b4 x hx).2, by have := hky x hx; omega⟩)) ?_
         rintro _ _ ⟨rfl, rfl⟩
         cases hsy : shapedX Lib.validD y with
         | false =>
          rw [if_pos hsy] at hQ
          subst hQ
          repeat' (first | (apply T.asn; apply rfl; apply rfl) | (apply T.notB; apply rfl; apply rfl) | (apply T.store; apply rfl; apply rfl; infer_instance; (first | decide | (simp; omega) | simp); apply rfl) | (with_reducible first | refine Sr.nil ?_ | refine S.seq ?_ | refine S.reg ?_) | (apply S.condTV; apply rfl; (first | with_reducible rfl | decide)) | (with_reducible apply T.ofRet) | fail)
          refine T.retDr hfl rfl rfl rev_ret ?_
          rintro _ _ ⟨rfl, rfl⟩
          refine ⟨⟨_, rfl⟩, [.slice none 0 0, .int .i64 11], ?_, noR none 0 [] :: H, fun w h => h.psub (PSub.trans (PSub.trans (PSub.trans (PSub.drop (PSub.drop (PSub.refl _))) (app_psub _ rws)) (dc_psub m ds _)) (PSub.drop (PSub.drop (PSub.drop (PSub.drop (PSub.refl _)))))), none, 0, rfl, rfl⟩
          (repeat' first | apply RV.nil | (apply RV.cellP; apply rfl; apply rfl; infer_instance; apply rfl))
         | true =>
          rw [if_neg (by rw [hsy]; simp)] at hQ
          subst hQ
          repeat' (first | ((first | apply T.mv | apply T.asn | apply T.nilCheck | apply T.fieldAddrZ); apply rfl; apply rfl) | (apply T.load; apply rfl; apply rfl; infer_instance; apply rfl; apply rfl) | (apply T.notB; apply rfl; apply rfl) | (apply T.store; apply rfl; apply rfl; infer_instance; (first | decide | (simp; omega) | simp); apply rfl) | (with_reducible first | refine Sr.nil ?_ | refine S.seq ?_ | refine S.reg ?_ | refine S.skip ?_ | refine S.inBlock ?_) | (apply S.condFV; apply rfl; (first | with_reducible rfl | decide)) | (with_reducible apply T.ofRet) | fail)
          refine T.retDr hfl rfl rfl rev_ret ?_
          rintro _ _ ⟨rfl, rfl⟩
          refine ⟨⟨_, rfl⟩, [.slice oa y.length oc, .int .i64 0], ?_, noR oa oc y :: H, fun w h => h.psub (PSub.take (pick_tl (pick_tl (pick_tl pick_hd))) (PSub.trans (PSub.trans (PSub.trans (PSub.drop (PSub.drop (PSub.drop (PSub.refl _)))) (app_psub _ rws)) (dc_psub m ds _)) (PSub.drop (PSub.drop (PSub.drop (PSub.refl _)))))), oa, oc, rfl, rfl⟩
          (repeat' first | apply RV.nil | (apply RV.cellP; apply rfl; apply rfl; infer_instance; apply rfl))
       ·have hkm : kk ∈ ds.map (·.s.dig) := by
         rcases Decidable.em (kk ∈ ds.map (·.s.dig)) with h | h
         ·exact h
         ·rw [g4.miss _ h] at hge
          cases hge
        have h1 := g4.one hnd kk
        rw [hge] at h1
        cases hfd : findD ds kk with
        | none =>
         obtain ⟨x, hx, hxk⟩ := List.mem_map.1 hkm
         exact absurd (List.find?_eq_none.1 hfd x hx) (by simp [hxk])
        | some x =>
         rw [hfd] at h1
         have h1' : z = (x.b : Int) := h1
         subst h1'
         rw [pV_nat]
         obtain ⟨x1, x2⟩ := findD_some hfd
         haveI hI2 : InB (dcR m ds (rws ++ errR b5 0 :: outR nb' :: noR none 0 [] :: H)) x.b (dcV m x) 66 := ⟨mem_dc x1⟩
         have hks : ∀ x' : Dc, (left (.string x'.s.dig) && !(Lit.string x'.s.dig).sameKey (.string kk)) = false ↔ (left (.string x'.s.dig) = false ∨ x'.s.dig = kk) := fun x' => by
          have hsk : (Lit.string x'.s.dig).sameKey (.string kk) = (x'.s.dig == kk) := rfl
          rw [hsk]
          cases left (.string x'.s.dig) <;> by_cases h : x'.s.dig = kk <;> simp [h]
         cases tw with
         | true =>
          repeat' (first | (apply T.ptrEntry; apply rfl; apply rfl; rw [pV_nat]) | ((first | apply T.mv | apply T.asn | apply T.nilCheck | apply T.fieldAddrZ); apply rfl; apply rfl) | (apply T.load; apply rfl; apply rfl; infer_instance; apply rfl; apply rfl) | (apply T.extract; (iterate 3 apply rfl)) | (apply T.pickT; (iterate 3 apply rfl)) | (apply T.store; apply rfl; apply rfl; infer_instance; (first | decide | (simp; omega) | simp); apply rfl) | (with_reducible first | refine Sr.nil ?_ | refine S.seq ?_ | refine S.block ?_ | refine S.reg ?_ | refine S.skip ?_ | refine S.inBlock ?_) | (apply T.skip; apply rfl; (first | with_reducible rfl | decide); apply rfl) | (apply S.condTV; apply rfl; (first | with_reducible rfl | decide)) | fail)
          refine S.ptrUncur ?_
          refine ih _ _ _ _ ⟨_, true, rfl, rfl, ⟨fun _ => ?_, fun _ => rfl⟩⟩ hlt2 (by repeat' first | exact trivial | refine And.intro rfl ?_)
          rcases hI.1 rfl with h | ⟨x', q1, q2, q3⟩
          ·exact .inl h
          ·exact .inr ⟨x', q1, (hks x').2 (.inl q2), q3⟩
         | false =>
          have hI0 : ¬ (dupB m = true ∨ ∃ x ∈ ds, left (.string x.s.dig) = false ∧ x.s.dig ∉ m) := fun h => by cases hI.2 h
          repeat' (first | (apply T.ptrEntry; apply rfl; apply rfl; rw [pV_nat]) | ((first | apply T.mv | apply T.asn | apply T.nilCheck | apply T.fieldAddrZ | apply T.not); apply rfl; apply rfl) | (apply T.load; apply rfl; apply rfl; infer_instance; apply rfl; apply rfl) | (apply T.extract; (iterate 3 apply rfl)) | (apply T.pickF; (iterate 3 apply rfl)) | (apply T.store; apply rfl; apply rfl; infer_instance; (first | decide | (simp; omega) | simp); apply rfl) | (with_reducible first | refine Sr.nil ?_ | refine S.seq ?_ | refine S.block ?_ | refine S.reg ?_ | refine S.skip ?_ | refine S.inBlock ?_) | (apply T.ungV; apply rfl; (first | with_reducible rfl | decide)) | (apply S.condTV; apply rfl; (first | with_reducible rfl | decide)) | fail)
          refine S.ptrUncur ?_
          by_cases hu : x.s.dig ∈ m
          ·rw [decide_eq_false (fun h => h hu)]
           refine ih _ _ _ _ ⟨_, false, rfl, rfl, ⟨(fun h => by cases h), fun h => ?_⟩⟩ hlt2 (by repeat' first | exact trivial | refine And.intro rfl ?_)
           refine absurd ?_ hI0
           rcases h with h | ⟨x', q1, q2, q3⟩
           ·exact .inl h
           ·rcases (hks x').1 q2 with q2 | q2
            ·exact .inr ⟨x', q1, q2, q3⟩
            ·rw [q2, ← x2] at q3
             exact absurd hu q3
          ·rw [decide_eq_true hu]
           exact ih _ _ _ _ ⟨_, true, rfl, rfl, ⟨fun _ => .inr ⟨x, x1, (hks x).2 (.inr x2), hu⟩, fun _ => rfl⟩⟩ hlt2 (by repeat' first | exact trivial | refine And.intro rfl ?_)
  ·rw [if_pos (.inr (by rw [e0]; exact k7))] at hQ
   subst hQ
   repeat' (first | (apply T.mv; apply rfl; apply rfl) | (apply T.neq; (iterate 3 apply rfl)) | (apply T.ixF; apply rfl; apply rfl; infer_instance; exact (fun _ => rfl); apply rfl; omega; omega; apply rfl) | (apply T.fieldAddrF; apply rfl; infer_instance; exact (fun _ => rfl); apply rfl; omega; apply rfl) | (apply T.loadF; apply rfl; apply rfl; infer_instance; exact (fun _ => rfl); apply rfl; exact getD_some (by omega); apply rfl; apply rfl) | (apply T.notB; apply rfl; apply rfl) | (apply T.pickF; (iterate 3 apply rfl)) | (apply T.store; apply rfl; apply rfl; infer_instance; (first | decide | (simp; omega) | simp); apply rfl) | (with_reducible first | refine Sr.nil ?_ | refine S.seq ?_ | refine S.reg ?_) | (apply T.ungV; apply rfl; (first | with_reducible rfl | decide)) | (apply S.condQ; apply rfl; all_goals (intro _; try (exfalso; first | omega | with_reducible contradiction))) | (with_reducible apply T.ofRet) | (apply T.retC; apply rfl; ((repeat' first | apply RV.nil | (apply RV.tmp; apply rfl) | (apply RV.cellW; apply rfl; apply rfl; infer_instance; (first | rfl | (simp only [List.length_append, List.length_map, List.length_set, List.length_replicate, List.length_cons, List.length_nil]; first | done | omega))) | (apply RV.cellP; apply rfl; apply rfl; infer_instance; apply rfl))); apply rfl) | fail)
   exact ⟨_, PSub.drop (PSub.drop (PSub.refl _)), none, 0, rfl, rfl⟩
end
end Go.Proofs.YtjajcmedipjfhaaGreatDoor
