/- Texts put together by a program: ShpC SplB SerP SdP GenP ShlA. -/
import Derived.Test.YtnimcchalinihaaDoorMc
import Derived.Test.YtnimcchalinihaaDoorMb
import Derived.Test.YtnimcchalinihaaDoorMa
import Derived.Lib.Split
import Derived.Lib.SplitLaws
import Derived.Lib.CountLaws
import Derived.Lib.IndexMore
import Derived.Lib.Strings
import Derived.Shelf.Strings.Search3
import Derived.Shelf.Strings.Count
import Derived.Shelf.Strings.Shaped
import Derived.Shelf.Strings.Split
import Derived.Test.YtnimcchalinihaaDoorProg
/- The walk of the program's look at a value: is it well shaped. -/
namespace Go.Proofs.YtnimcchalinihaaDoor
open Sg Go.IntWalk
set_option maxRecDepth 100000
set_option maxHeartbeats 4000000
section
variable {F : World} {M : List Nat} {H : List Res} {oa : Option Addr} {oc n : Nat} {v : List Nd}
theorem maps_psub : ∀ (st : Stk) (H : List Res), PSub H (mapsR st H)
  | [], _ => PSub.refl _
  | (_, none) :: r, H => maps_psub r H
  | (_, some _) :: r, H => PSub.drop (maps_psub r H)
theorem rd_maps {a : Option Addr} {vs : List Value} : ∀ (st : Stk), Rd F M H a vs → Rd F M (mapsR st H) a vs
  | [], h => h
  | (_, none) :: r, h => rd_maps r h
  | (_, some _) :: r, h => have := rd_maps r h; Rd.tl
instance Rd.maps {st : Stk} {a : Option Addr} {vs : List Value} [h : Rd F M H a vs] : Rd F M (mapsR st H) a vs := rd_maps st h
theorem popL_len : ∀ l : List Lv, (popL l).length ≤ l.length
  | [] => Nat.le_refl _
  | (k, nm) :: l => by
    have := popL_len l
    unfold popL
    split <;> simp only [List.length_cons] <;> omega
theorem popL_fix {k : Nat} {nm : Option (List (List UInt8))} {l : List Lv} (h : popL ((k, nm) :: l) = (k, nm) :: l) : k ≠ 0 := by
  rintro rfl
  rw [popL_zero] at h
  have := popL_len l
  rw [h] at this
  simp only [List.length_cons] at this
  omega
def mlen (z : Nat × Option (Nat × Ents)) : Nat := match z.2 with
  | none => 0
  | some y => y.2.length
abbrev lv2 (n : Nd) : Option (List (List UInt8)) := if n.kind = 7 then some [] else none
/-- What the machine says behind a node that may stand there. -/
def shNext (n : Nd) (r : List Nd) (x : Lv) (s : List Lv) : Bool := if isRow n then (if 32 < s.length + 1 then false else shM Lib.validD r (popL ((n.kids.toNat, lv2 n) :: x :: s))) else shM Lib.validD r (popL (x :: s))
theorem sh_step {n : Nd} {r : List Nd} {k : Nat} {nm : Option (List (List UInt8))} {s : List Lv} (hp : plainX Lib.validD n = true) : shM Lib.validD (n :: r) ((k, nm) :: s) = if (nm = none ∧ n.key ≠ []) ∨ hasN nm n.key = true ∨ Lib.validD n.key = false then false else shNext n r (k - 1, nm.map (n.key :: ·)) s := by
  have h : ¬ plainX Lib.validD n = false := by rw [hp]; simp
  simp only [shM]
  rw [if_neg h]
  rfl
theorem shaped_spec (hT : Tabs F M) [Rd F M H oa (v.flatMap ndV)] (hn : v.length = n) (hl : n ≤ 1000000) (htx : ∀ x ∈ v, (x.kind = 4 → x.text.length ≤ 1100000) ∧ x.text.length ≤ 9223372036854775807 ∧ x.key.length ≤ 1000000 ∧ x.kids ≤ 9223372036854775807) :
    Meets Tryd.prog 35 [.slice oa n oc] F M H (fun e H' => e = .returned (.bool (shapedX Lib.validD v)) ∧ H' = H) := by
  subst hn
  refine Meets.enter Tryd.func35 rfl rfl ?_
  unfold shapedX
  generalize hQ : shM Lib.validD v [(1, none)] = Q
  repeat' (first | (apply T.mv; apply rfl; apply rfl) | (apply T.asn; apply rfl; apply rfl) | (apply T.len; apply rfl; apply rfl) | (apply T.buildL; apply rfl; apply rfl; apply rfl) | (apply T.bsL; apply rfl; apply rfl; apply rfl; apply rfl; apply rfl; intro nb) | with_reducible refine Sr.nil ?_ | with_reducible refine S.seq ?_ | with_reducible refine S.block ?_ | with_reducible refine S.reg ?_ | fail)
  refine S.rowOfN (n := 1) (sz := 2) rfl (by decide) ?_
  refine S.loopE 1 [10, 11] (fun R b' μ H' e => ∃ (i : Nat) (a : Option Addr) (cp k : Nat) (st : Stk) (l : List Lv), H' = .row a cp 103 2 k (st.reverse.flatMap lvV) :: mapsR st R ∧ e = (3, .slice a k cp) :: (12, .int .i64 i) :: b' ∧ (i ≤ v.length ∧ k = st.length ∧ k ≤ 33 ∧ (∀ z ∈ st, z.1 ≤ 9223372036854775807 ∧ mlen z ≤ i) ∧ LvOf st l ∧ popL l = l ∧ shM Lib.validD (v.drop i) l = Q) ∧ μ = v.length - i) rfl rfl ?_ _ _ ⟨0, _, _, 1, [(1, none)], [(1, none)], rfl, rfl, ⟨Nat.zero_le _, rfl, by decide, by simp [mlen], .list .nil, rfl, hQ⟩, rfl⟩ (by repeat' first | exact trivial | refine And.intro rfl ?_)
  rintro _ _ _ ⟨i, a, cp, k, st, l, rfl, rfl, ⟨h1, h2, h3, hb, h4, h5, h6⟩, rfl⟩ ih
  by_cases h7 : i < v.length
  · have e1 : v.drop i = v.getD i default :: v.drop (i + 1) := by
      rw [List.drop_eq_getElem_cons h7, List.getD_eq_getElem?_getD, List.getElem?_eq_getElem h7, Option.getD_some]
    have hx := htx (v.getD i default) (by rw [List.getD_eq_getElem?_getD, List.getElem?_eq_getElem h7, Option.getD_some]; exact List.getElem_mem h7)
    rw [e1] at h6
    obtain ⟨x1, x2, x3, x4⟩ := hx
    cases st with
    | nil =>
      cases h4
      have h8 : Q = false := by rw [← h6]; rfl
      subst h8
      subst h2
      repeat' (first | (apply T.mv; apply rfl; apply rfl) | (apply T.asn; apply rfl; apply rfl) | (apply T.len; apply rfl; apply rfl) | (apply T.lss; apply rfl; apply rfl; apply rfl) | (apply T.eql; apply rfl; apply rfl; apply rfl) | (apply T.ixF; apply rfl; apply rfl; infer_instance; exact (fun _ => rfl); apply rfl; omega; omega; apply rfl) | (apply T.loadFN; apply rfl; apply rfl; infer_instance; exact (fun _ => rfl); apply rfl; exact getD_some (by omega); apply rfl) | (apply T.pickT; apply rfl; apply rfl; apply rfl) | (apply T.storeW; apply rfl; apply rfl; infer_instance; (first | rfl | (simp only [List.length_append, List.length_map, List.length_set, List.length_replicate, List.length_cons, List.length_nil]; first | done | omega)); (first | rfl | (simp only [List.length_append, List.length_map, List.length_set, List.length_replicate, List.length_cons, List.length_nil]; first | done | omega)); (first | rfl | (repeat' first | apply all_nV | apply all_bV | apply all_iV | rfl | apply all_app))) | (apply T.alloc; apply rfl; intro nb) | with_reducible refine Sr.nil ?_ | with_reducible refine S.seq ?_ | with_reducible refine S.block ?_ | with_reducible refine S.reg ?_ | with_reducible refine S.skip ?_ | (apply T.skip; apply rfl; (first | with_reducible rfl | decide); apply rfl) | (apply S.condTV; apply rfl; (first | with_reducible rfl | decide)) | (apply S.condQ; apply rfl; all_goals (intro _; try (exfalso; first | omega | with_reducible contradiction))) | (apply T.retW; apply rfl) | fail)
      exact ⟨_, PSub.drop (PSub.drop (maps_psub _ _)), rfl, rfl⟩
    | cons y s =>
      refine S.rowSome (by rw [h2]; simp) ?_
      rintro g rfl
      have hs : (y :: s).length = s.length + 1 := rfl
      cases hp : plainX Lib.validD (v.getD i default) with
      | false =>
        have h9 : Q = false := by
          rw [← h6]
          cases l with
          | nil => rfl
          | cons z r => simp only [shM]; rw [if_pos hp]
        subst h9
        subst h2
        repeat' (first | (apply T.mv; apply rfl; apply rfl) | (apply T.len; apply rfl; apply rfl) | (apply T.lss; apply rfl; apply rfl; apply rfl) | (apply T.eql; apply rfl; apply rfl; apply rfl) | (apply T.ixF; apply rfl; apply rfl; infer_instance; exact (fun _ => rfl); apply rfl; omega; omega; apply rfl) | (apply T.loadFN; apply rfl; apply rfl; infer_instance; exact (fun _ => rfl); apply rfl; exact getD_some (by omega); apply rfl) | (apply T.loadW; apply rfl; apply rfl; infer_instance; (first | rfl | (simp only [List.length_append, List.length_map, List.length_set, List.length_replicate, List.length_cons, List.length_nil]; first | done | omega)); apply rfl) | (apply T.storeW; apply rfl; apply rfl; infer_instance; (first | rfl | (simp only [List.length_append, List.length_map, List.length_set, List.length_replicate, List.length_cons, List.length_nil]; first | done | omega)); (first | rfl | (simp only [List.length_append, List.length_map, List.length_set, List.length_replicate, List.length_cons, List.length_nil]; first | done | omega)); (first | rfl | (repeat' first | apply all_nV | apply all_bV | apply all_iV | rfl | apply all_app))) | (apply T.alloc; apply rfl; intro nb) | with_reducible refine Sr.nil ?_ | with_reducible refine S.seq ?_ | with_reducible refine S.block ?_ | with_reducible refine S.reg ?_ | with_reducible refine S.skip ?_ | (apply T.ungV; apply rfl; (first | with_reducible rfl | decide)) | (apply S.condQ; apply rfl; all_goals (intro _; try (exfalso; first | omega | with_reducible contradiction))) | (apply T.gcase; apply rfl; apply rfl; all_goals (intro _; try (exfalso; first | omega | with_reducible contradiction))) | fail)
        refine T.call rfl rfl (plain_spec hT x1 x2) ?_
        rintro _ _ ⟨rfl, rfl⟩
        rw [hp]
        repeat' (first | (apply T.asn; apply rfl; apply rfl) | (apply T.notB; apply rfl; apply rfl) | (apply T.pickF; apply rfl; apply rfl; apply rfl) | with_reducible refine Sr.nil ?_ | with_reducible refine S.seq ?_ | with_reducible refine S.reg ?_ | (apply T.ungV; apply rfl; (first | with_reducible rfl | decide)) | (apply S.condTV; apply rfl; (first | with_reducible rfl | decide)) | (apply T.retW; apply rfl) | (with_reducible apply T.ofRet) | fail)
        exact ⟨_, PSub.drop (PSub.drop (maps_psub _ _)), rfl, rfl⟩
      | true =>
        subst h2
        obtain ⟨k0, y2⟩ := y
        obtain ⟨nm, l', rfl, hs', hrel⟩ := h4.inv
        dsimp only at hrel h5 h6
        have hk := popL_fix h5
        obtain ⟨hb0, hml⟩ : k0 ≤ 9223372036854775807 ∧ mlen (k0, y2) ≤ i := hb (k0, y2) (List.mem_cons_self ..)
        have hbs : ∀ z ∈ s, z.1 ≤ 9223372036854775807 ∧ mlen z ≤ i := fun z hz => hb z (List.mem_cons_of_mem _ hz)
        have hsl := hs'.len
        rw [sh_step hp] at h6
        clear hb
        have hrl : ((k0, y2) :: s : Stk).reverse.length = s.length + 1 := by rw [List.length_reverse, hs]
        have hget : ((k0, y2) :: s : Stk).reverse[s.length]? = some (k0, y2) := by simp
        have i1 : ((((k0, y2) :: s : Stk).length : Nat) : Int) - 1 = (s.length : Nat) := by rw [hs]; omega
        have i2 : ((k0 : Nat) : Int) - 1 = ((k0 - 1 : Nat) : Int) := by omega
        have hset : ((k0, y2) :: s : Stk).reverse.set s.length (k0 - 1, y2) = ((k0 - 1, y2) :: s : Stk).reverse := by
          rw [List.reverse_cons, List.reverse_cons, List.set_append_right _ _ (by simp)]
          simp
        have hget2 : ((k0 - 1, y2) :: s : Stk).reverse[s.length]? = some (k0 - 1, y2) := by simp
        have hrl2 : ((k0 - 1, y2) :: s : Stk).reverse.length = s.length + 1 := by simp
        generalize hnd : v.getD i default = nd0 at *
        repeat' (first | (apply T.mv; apply rfl; apply rfl) | (apply T.len; apply rfl; apply rfl) | (apply T.lss; apply rfl; apply rfl; apply rfl) | (apply T.eql; apply rfl; apply rfl; apply rfl) | (apply T.ixF; apply rfl; apply rfl; infer_instance; exact (fun _ => rfl); apply rfl; omega; omega; apply rfl) | (apply T.loadFN; apply rfl; apply rfl; infer_instance; exact (fun _ => rfl); apply rfl; exact getD_some (by omega); apply rfl) | (apply T.loadW; apply rfl; apply rfl; infer_instance; (first | rfl | (simp only [List.length_append, List.length_map, List.length_set, List.length_replicate, List.length_cons, List.length_nil]; first | done | omega)); apply rfl) | (apply T.storeW; apply rfl; apply rfl; infer_instance; (first | rfl | (simp only [List.length_append, List.length_map, List.length_set, List.length_replicate, List.length_cons, List.length_nil]; first | done | omega)); (first | rfl | (simp only [List.length_append, List.length_map, List.length_set, List.length_replicate, List.length_cons, List.length_nil]; first | done | omega)); (first | rfl | (repeat' first | apply all_nV | apply all_bV | apply all_iV | rfl | apply all_app))) | (apply T.alloc; apply rfl; intro nb) | with_reducible refine Sr.nil ?_ | with_reducible refine S.seq ?_ | with_reducible refine S.block ?_ | with_reducible refine S.reg ?_ | with_reducible refine S.skip ?_ | (apply T.ungV; apply rfl; (first | with_reducible rfl | decide)) | (apply S.condQ; apply rfl; all_goals (intro _; try (exfalso; first | omega | with_reducible contradiction))) | (apply T.gcase; apply rfl; apply rfl; all_goals (intro _; try (exfalso; first | omega | with_reducible contradiction))) | fail)
        rw [hnd]
        refine T.call rfl rfl (plain_spec hT x1 x2) ?_
        rintro _ _ ⟨rfl, rfl⟩
        rw [hp]
        repeat' (first | (apply T.notB; apply rfl; apply rfl) | (apply T.pickF; apply rfl; apply rfl; apply rfl) | with_reducible refine Sr.nil ?_ | with_reducible refine S.skip ?_ | (apply T.ungV; apply rfl; (first | with_reducible rfl | decide)) | (apply S.condFV; apply rfl; (first | with_reducible rfl | decide)) | (with_reducible apply T.ofRet) | fail)
        refine S.seq ?_
        repeat' (first | (apply T.subI; apply rfl; apply rfl; (first | omega | (dsimp only; omega)); apply rfl; (first | rw [i1] | rw [i2])) | (apply T.mv; apply rfl; apply rfl) | (apply T.asn; apply rfl; apply rfl) | (apply T.len; apply rfl; apply rfl) | (apply T.ixF; apply rfl; apply rfl; infer_instance; exact (fun _ => rfl); apply rfl; omega; omega; apply rfl) | with_reducible refine Sr.nil ?_ | with_reducible refine S.reg ?_ | fail)
        refine S.seq ?_
        repeat' (first | (apply T.nilCheckS; apply rfl; apply rfl) | (apply T.fieldAddrS; apply rfl; apply rfl) | (apply T.subI; apply rfl; apply rfl; (first | omega | (dsimp only; omega)); apply rfl; (first | rw [i1] | rw [i2])) | (refine T.storeF (g := lvV) (k0 - 1, y2) rfl rfl inferInstance (fun _ => rfl) rfl hget rfl rfl ?_; rw [hset]) | (refine T.loadF (g := lvV) (v := .int .i64 (k0 : Int)) rfl rfl inferInstance (fun _ => rfl) rfl hget rfl rfl ?_) | (apply T.mv; apply rfl; apply rfl) | with_reducible refine Sr.nil ?_ | with_reducible refine S.reg ?_ | fail)
        refine S.seq ?_
        refine S.cut (fun H' e' => ∃ (z : Nat × Option (Nat × Ents)) (lv0 : Lv), H' = .blk nb (ndV nd0) 39 :: .row (some ⟨g, 0, none⟩) cp 103 2 (s.length + 1) ((z :: s : Stk).reverse.flatMap lvV) :: mapsR (z :: s) H ∧
          e' = [(3, .slice (some ⟨g, 0, none⟩) (s.length + 1) cp), (5, .pointer (some ⟨nb, 0, none⟩)), (10, .slice oa v.length oc), (11, .int .i64 v.length), (12, .int .i64 i)] ∧ z.1 ≤ 9223372036854775807 ∧ mlen z ≤ i + 1 ∧ LvOf (z :: s) (lv0 :: l') ∧ shNext nd0 (v.drop (i + 1)) lv0 l' = Q) ?_ ?_
        · intro k' hrest
          rcases hrel with ⟨rfl, rfl⟩ | ⟨b, m, ns, rfl, rfl, hkn⟩
          · dsimp only [mapsR]
            by_cases hkey : nd0.key = []
            · have hvk : Lib.validD nd0.key = true := by rw [hkey]; rfl
              have hk2 : decide (¬ nd0.key = []) = false := by simp [hkey]
              rw [if_neg (by rw [hvk]; simp [hkey, hasN])] at h6
              repeat' (first | with_reducible refine S.seq ?_ | with_reducible refine S.block ?_ | fail)
              (apply S.draw; (case Hs => exact .blk nb (ndV nd0) 39 :: .row (some ⟨g, 0, none⟩) cp 103 2 ((k0, none) :: s : Stk).length (((k0 - 1, none) :: s : Stk).reverse.flatMap lvV) :: mapsR s H); (case es => exact  [23]); (case n => exact  27); (case hn => rfl))
              repeat' (first | (apply T.sneq; apply rfl; apply rfl; apply rfl; rw [hk2]) | (apply T.nilCheckS; apply rfl; apply rfl) | (apply T.fieldAddrS; apply rfl; apply rfl) | (apply Sr.same; refine T.loadF (g := lvV) (v := .map none) rfl rfl inferInstance (fun _ => rfl) rfl hget2 rfl rfl ?_) | (apply Sr.same; refine T.call rfl rfl (validString_spec hT (by omega)) ?_; rintro _ _ ⟨rfl, rfl⟩; rw [hvk]) | (apply T.mapLook0; apply rfl; apply rfl; (first | assumption | (simp only [maxLen]; omega) | omega); apply rfl) | (apply T.eqlM0; apply rfl; apply rfl) | (apply T.neqM0; apply rfl; apply rfl) | (apply T.mv; apply rfl; apply rfl) | (apply T.asn; apply rfl; apply rfl) | (apply T.fieldAddrZ; apply rfl; apply rfl) | (apply T.load; apply rfl; apply rfl; infer_instance; apply rfl; apply rfl) | (apply T.gtr; apply rfl; apply rfl; apply rfl) | (apply T.notB; apply rfl; apply rfl) | (apply T.pickT; apply rfl; apply rfl; apply rfl) | (apply T.pickF; apply rfl; apply rfl; apply rfl) | with_reducible refine Sr.nil ?_ | with_reducible refine S.seq ?_ | with_reducible refine S.reg ?_ | with_reducible refine S.skip ?_ | with_reducible refine S.inBlock ?_ | (apply T.ungV; apply rfl; (first | with_reducible rfl | decide)) | (apply S.condFV; apply rfl; (first | with_reducible rfl | decide)) | (with_reducible apply T.ofRet) | (apply SA.gz; apply rfl; apply rfl; apply rfl; apply rfl; (first | with_reducible rfl | decide); apply rfl; kernel_rfl) | (apply SA.gn; apply rfl; apply rfl; apply rfl; apply rfl; (first | with_reducible rfl | decide); apply rfl; kernel_rfl) | (apply SA.qn; apply rfl; apply rfl; apply rfl; apply rfl; kernel_rfl) | (apply SA.qz; apply rfl; apply rfl; apply rfl; apply rfl; kernel_rfl) | (apply SA.en; apply rfl; apply rfl; kernel_rfl) | (apply SA.done; apply rfl; kernel_rfl) | (apply SK.intro; (first | exact fun _ h => h | exact fun _ h => St.psub h (by ((repeat (first | dsimp only [List.set_cons_zero] | dsimp only [List.set_cons_succ])); repeat' first | exact PSub.refl _ | exact PSub.nil | (apply PSub.take; (repeat' first | (with_reducible exact pick_hd) | (with_reducible apply pick_tl))) | (with_reducible apply PSub.drop) | ((apply PSub.take); (repeat' first | exact pick_hd | (apply pick_tl))))))) | fail)
              all_goals
                skip
                exact hrest _ _ _ ⟨(k0 - 1, none), (k0 - 1, none), rfl, rfl, by omega, by simp [mlen], .list hs', h6⟩ (by repeat' first | exact trivial | refine And.intro rfl ?_)
            · have hk2 : decide (¬ nd0.key = []) = true := by simp [hkey]
              rw [if_pos (.inl ⟨rfl, hkey⟩)] at h6
              subst h6
              repeat' (first | with_reducible refine S.seq ?_ | with_reducible refine S.block ?_ | fail)
              (apply S.draw; (case Hs => exact .blk nb (ndV nd0) 39 :: .row (some ⟨g, 0, none⟩) cp 103 2 ((k0, none) :: s : Stk).length (((k0 - 1, none) :: s : Stk).reverse.flatMap lvV) :: mapsR s H); (case es => exact  [23]); (case n => exact  27); (case hn => rfl))
              repeat' (first | (apply T.sneq; apply rfl; apply rfl; apply rfl; rw [hk2]) | (apply T.nilCheckS; apply rfl; apply rfl) | (apply T.fieldAddrS; apply rfl; apply rfl) | (apply Sr.same; refine T.loadF (g := lvV) (v := .map none) rfl rfl inferInstance (fun _ => rfl) rfl hget2 rfl rfl ?_) | (apply T.eqlM0; apply rfl; apply rfl) | (apply T.mv; apply rfl; apply rfl) | (apply T.asn; apply rfl; apply rfl) | (apply T.fieldAddrZ; apply rfl; apply rfl) | (apply T.load; apply rfl; apply rfl; infer_instance; apply rfl; apply rfl) | (apply T.pickT; apply rfl; apply rfl; apply rfl) | with_reducible refine Sr.nil ?_ | with_reducible refine S.seq ?_ | with_reducible refine S.reg ?_ | (apply T.skip; apply rfl; (first | with_reducible rfl | decide); apply rfl) | (apply S.condTV; apply rfl; (first | with_reducible rfl | decide)) | (apply T.retW; apply rfl) | (apply SA.gxv; apply rfl; apply rfl; apply rfl; apply rfl; apply rfl; kernel_rfl; apply rfl) | (apply SA.gz; apply rfl; apply rfl; apply rfl; apply rfl; (first | with_reducible rfl | decide); apply rfl; kernel_rfl) | (apply SA.gn; apply rfl; apply rfl; apply rfl; apply rfl; (first | with_reducible rfl | decide); apply rfl; kernel_rfl) | (apply SA.qn; apply rfl; apply rfl; apply rfl; apply rfl; kernel_rfl) | (apply SA.qz; apply rfl; apply rfl; apply rfl; apply rfl; kernel_rfl) | (apply SA.en; apply rfl; apply rfl; kernel_rfl) | (apply SA.done; apply rfl; kernel_rfl) | (apply SK.intro; (first | exact fun _ h => h | exact fun _ h => St.psub h (by ((repeat (first | dsimp only [List.set_cons_zero] | dsimp only [List.set_cons_succ])); repeat' first | exact PSub.refl _ | exact PSub.nil | (apply PSub.take; (repeat' first | (with_reducible exact pick_hd) | (with_reducible apply pick_tl))) | (with_reducible apply PSub.drop) | ((apply PSub.take); (repeat' first | exact pick_hd | (apply pick_tl))))))) | fail)
              all_goals
                skip
                exact ⟨_, PSub.drop (PSub.drop (maps_psub _ _)), rfl, rfl⟩
          · dsimp only [mapsR]
            have hml2 : m.length ≤ i := hml
            by_cases hmem : nd0.key ∈ ns
            · have hg : (eget m nd0.key).getD 0 = 1 := by rw [hkn, if_pos hmem]
              rw [if_pos (.inr (.inl (by simp [hasN, hmem])))] at h6
              subst h6
              repeat' (first | with_reducible refine S.seq ?_ | with_reducible refine S.block ?_ | fail)
              (apply S.draw; (case Hs => exact .blk nb (ndV nd0) 39 :: .row (some ⟨g, 0, none⟩) cp 103 2 ((k0, some (b, m)) :: s : Stk).length (((k0 - 1, some (b, m)) :: s : Stk).reverse.flatMap lvV) :: mpR b m :: mapsR s H); (case es => exact  [23]); (case n => exact  27); (case hn => rfl))
              repeat' (first | (apply T.nilCheckS; apply rfl; apply rfl) | (apply T.fieldAddrS; apply rfl; apply rfl) | (apply Sr.same; refine T.loadF (g := lvV) (v := .map (some b)) rfl rfl inferInstance (fun _ => rfl) rfl hget2 rfl rfl ?_) | (apply T.mapLook; apply rfl; apply rfl; infer_instance; (simp only [maxLen]; omega); apply rfl; rw [hg]) | (apply T.eqlM; apply rfl; apply rfl) | (apply T.mv; apply rfl; apply rfl) | (apply T.asn; apply rfl; apply rfl) | (apply T.fieldAddrZ; apply rfl; apply rfl) | (apply T.load; apply rfl; apply rfl; infer_instance; apply rfl; apply rfl) | (apply T.gtr; apply rfl; apply rfl; apply rfl) | (apply T.pickT; apply rfl; apply rfl; apply rfl) | (apply T.pickF; apply rfl; apply rfl; apply rfl) | with_reducible refine Sr.nil ?_ | with_reducible refine S.seq ?_ | with_reducible refine S.reg ?_ | (apply T.skip; apply rfl; (first | with_reducible rfl | decide); apply rfl) | (apply S.condTV; apply rfl; (first | with_reducible rfl | decide)) | (apply T.retW; apply rfl) | (apply SA.gxv; apply rfl; apply rfl; apply rfl; apply rfl; apply rfl; kernel_rfl; apply rfl) | (apply SA.gz; apply rfl; apply rfl; apply rfl; apply rfl; (first | with_reducible rfl | decide); apply rfl; kernel_rfl) | (apply SA.gn; apply rfl; apply rfl; apply rfl; apply rfl; (first | with_reducible rfl | decide); apply rfl; kernel_rfl) | (apply SA.qn; apply rfl; apply rfl; apply rfl; apply rfl; kernel_rfl) | (apply SA.qz; apply rfl; apply rfl; apply rfl; apply rfl; kernel_rfl) | (apply SA.en; apply rfl; apply rfl; kernel_rfl) | (apply SA.done; apply rfl; kernel_rfl) | (apply SK.intro; (first | exact fun _ h => h | exact fun _ h => St.psub h (by ((repeat (first | dsimp only [List.set_cons_zero] | dsimp only [List.set_cons_succ])); repeat' first | exact PSub.refl _ | exact PSub.nil | (apply PSub.take; (repeat' first | (with_reducible exact pick_hd) | (with_reducible apply pick_tl))) | (with_reducible apply PSub.drop) | ((apply PSub.take); (repeat' first | exact pick_hd | (apply pick_tl))))))) | fail)
              all_goals
                skip
                exact ⟨_, PSub.drop (PSub.drop (PSub.drop (maps_psub _ _))), rfl, rfl⟩
            · have hg : (eget m nd0.key).getD 0 = 0 := by rw [hkn, if_neg hmem]
              cases hvk : Lib.validD nd0.key with
              | false =>
                rw [if_pos (.inr (.inr hvk))] at h6
                subst h6
                repeat' (first | with_reducible refine S.seq ?_ | with_reducible refine S.block ?_ | fail)
                (apply S.draw; (case Hs => exact .blk nb (ndV nd0) 39 :: .row (some ⟨g, 0, none⟩) cp 103 2 ((k0, some (b, m)) :: s : Stk).length (((k0 - 1, some (b, m)) :: s : Stk).reverse.flatMap lvV) :: mpR b m :: mapsR s H); (case es => exact  [23]); (case n => exact  27); (case hn => rfl))
                repeat' (first | (apply T.nilCheckS; apply rfl; apply rfl) | (apply T.fieldAddrS; apply rfl; apply rfl) | (apply Sr.same; refine T.loadF (g := lvV) (v := .map (some b)) rfl rfl inferInstance (fun _ => rfl) rfl hget2 rfl rfl ?_) | (apply T.mapLook; apply rfl; apply rfl; infer_instance; (simp only [maxLen]; omega); apply rfl; rw [hg]) | (apply Sr.same; refine T.call rfl rfl (validString_spec hT (by omega)) ?_; rintro _ _ ⟨rfl, rfl⟩; rw [hvk]) | (apply T.eqlM; apply rfl; apply rfl) | (apply T.mv; apply rfl; apply rfl) | (apply T.asn; apply rfl; apply rfl) | (apply T.fieldAddrZ; apply rfl; apply rfl) | (apply T.load; apply rfl; apply rfl; infer_instance; apply rfl; apply rfl) | (apply T.gtr; apply rfl; apply rfl; apply rfl) | (apply T.notB; apply rfl; apply rfl) | (apply T.pickF; apply rfl; apply rfl; apply rfl) | with_reducible refine Sr.nil ?_ | with_reducible refine S.seq ?_ | with_reducible refine S.reg ?_ | (apply T.ungV; apply rfl; (first | with_reducible rfl | decide)) | (apply S.condTV; apply rfl; (first | with_reducible rfl | decide)) | (apply T.retW; apply rfl) | (with_reducible apply T.ofRet) | (apply SA.gxv; apply rfl; apply rfl; apply rfl; apply rfl; apply rfl; kernel_rfl; apply rfl) | (apply SA.gz; apply rfl; apply rfl; apply rfl; apply rfl; (first | with_reducible rfl | decide); apply rfl; kernel_rfl) | (apply SA.gn; apply rfl; apply rfl; apply rfl; apply rfl; (first | with_reducible rfl | decide); apply rfl; kernel_rfl) | (apply SA.qn; apply rfl; apply rfl; apply rfl; apply rfl; kernel_rfl) | (apply SA.qz; apply rfl; apply rfl; apply rfl; apply rfl; kernel_rfl) | (apply SA.en; apply rfl; apply rfl; kernel_rfl) | (apply SA.done; apply rfl; kernel_rfl) | (apply SK.intro; (first | exact fun _ h => h | exact fun _ h => St.psub h (by ((repeat (first | dsimp only [List.set_cons_zero] | dsimp only [List.set_cons_succ])); repeat' first | exact PSub.refl _ | exact PSub.nil | (apply PSub.take; (repeat' first | (with_reducible exact pick_hd) | (with_reducible apply pick_tl))) | (with_reducible apply PSub.drop) | ((apply PSub.take); (repeat' first | exact pick_hd | (apply pick_tl))))))) | fail)
                all_goals
                  skip
                  exact ⟨_, PSub.drop (PSub.drop (PSub.drop (maps_psub _ _))), rfl, rfl⟩
              | true =>
                rw [if_neg (by rw [hvk]; simp [hasN, hmem])] at h6
                have hel := eput_length m nd0.key 1
                repeat' (first | with_reducible refine S.seq ?_ | with_reducible refine S.block ?_ | fail)
                (apply S.draw; (case Hs => exact .blk nb (ndV nd0) 39 :: .row (some ⟨g, 0, none⟩) cp 103 2 ((k0, some (b, m)) :: s : Stk).length (((k0 - 1, some (b, m)) :: s : Stk).reverse.flatMap lvV) :: mpR b m :: mapsR s H); (case es => exact  [23]); (case n => exact  27); (case hn => rfl))
                repeat' (first | (apply T.nilCheckS; apply rfl; apply rfl) | (apply T.fieldAddrS; apply rfl; apply rfl) | (apply Sr.same; refine T.loadF (g := lvV) (v := .map (some b)) rfl rfl inferInstance (fun _ => rfl) rfl hget2 rfl rfl ?_) | (apply T.mapLook; apply rfl; apply rfl; infer_instance; (simp only [maxLen]; omega); apply rfl; rw [hg]) | (apply Sr.same; refine T.call rfl rfl (validString_spec hT (by omega)) ?_; rintro _ _ ⟨rfl, rfl⟩; rw [hvk]) | (apply T.eqlM; apply rfl; apply rfl) | (apply T.neqM; apply rfl; apply rfl) | (apply T.mv; apply rfl; apply rfl) | (apply T.asn; apply rfl; apply rfl) | (apply T.fieldAddrZ; apply rfl; apply rfl) | (apply T.load; apply rfl; apply rfl; infer_instance; apply rfl; apply rfl) | (apply T.gtr; apply rfl; apply rfl; apply rfl) | (apply T.notB; apply rfl; apply rfl) | (apply T.pickF; apply rfl; apply rfl; apply rfl) | with_reducible refine Sr.nil ?_ | with_reducible refine S.seq ?_ | with_reducible refine S.reg ?_ | (apply T.ungV; apply rfl; (first | with_reducible rfl | decide)) | (apply S.condTV; apply rfl; (first | with_reducible rfl | decide)) | (apply S.condFV; apply rfl; (first | with_reducible rfl | decide)) | (with_reducible apply T.ofRet) | (apply SA.gxv; apply rfl; apply rfl; apply rfl; apply rfl; apply rfl; kernel_rfl; apply rfl) | (apply SA.gz; apply rfl; apply rfl; apply rfl; apply rfl; (first | with_reducible rfl | decide); apply rfl; kernel_rfl) | (apply SA.gn; apply rfl; apply rfl; apply rfl; apply rfl; (first | with_reducible rfl | decide); apply rfl; kernel_rfl) | (apply SA.qn; apply rfl; apply rfl; apply rfl; apply rfl; kernel_rfl) | (apply SA.qz; apply rfl; apply rfl; apply rfl; apply rfl; kernel_rfl) | (apply SA.en; apply rfl; apply rfl; kernel_rfl) | (apply SA.done; apply rfl; kernel_rfl) | (apply SK.intro; (first | exact fun _ h => h | exact fun _ h => St.psub h (by ((repeat (first | dsimp only [List.set_cons_zero] | dsimp only [List.set_cons_succ])); repeat' first | exact PSub.refl _ | exact PSub.nil | (apply PSub.take; (repeat' first | (with_reducible exact pick_hd) | (with_reducible apply pick_tl))) | (with_reducible apply PSub.drop) | ((apply PSub.take); (repeat' first | exact pick_hd | (apply pick_tl))))))) | fail)
                all_goals
                  skip
                  (apply S.draw; (case Hs => exact []); (case es => exact  [6]); (case n => exact  7); (case hn => rfl))
                  repeat' (first | (apply T.nilCheckS; apply rfl; apply rfl) | (apply T.fieldAddrS; apply rfl; apply rfl) | (apply Sr.same; refine T.loadF (g := lvV) (v := .map (some b)) rfl rfl inferInstance (fun _ => rfl) rfl hget2 rfl rfl ?_) | (apply T.mv; apply rfl; apply rfl) | (apply T.fieldAddrZ; apply rfl; apply rfl) | (apply T.load; apply rfl; apply rfl; infer_instance; apply rfl; apply rfl) | with_reducible refine Sr.nil ?_ | (apply SA.qn; apply rfl; apply rfl; apply rfl; apply rfl; kernel_rfl) | (apply SA.en; apply rfl; apply rfl; kernel_rfl) | fail)
                  refine Sr.front b ?_
                  refine T.mapPutT rfl rfl rfl (by simp only [maxLen]; omega) (by simp only [maxLen]; omega) rfl ?_
                  refine Sr.frontR (some ⟨g, 0, none⟩) ?_
                  refine Sr.front nb ?_
                  repeat' (first | with_reducible refine Sr.nil ?_ | with_reducible refine S.inBlock ?_ | (apply SA.done; apply rfl; kernel_rfl) | (apply SK.intro; (first | exact fun _ h => h | exact fun _ h => St.psub h (by ((repeat (first | dsimp only [List.set_cons_zero] | dsimp only [List.set_cons_succ])); repeat' first | exact PSub.refl _ | exact PSub.nil | (apply PSub.take; (repeat' first | (with_reducible exact pick_hd) | (with_reducible apply pick_tl))) | (with_reducible apply PSub.drop) | ((apply PSub.take); (repeat' first | exact pick_hd | (apply pick_tl))))))) | fail)
                  skip
                  rw [show ((k0 - 1, some (b, m)) :: s : Stk).reverse.flatMap lvV = ((k0 - 1, some (b, eput m nd0.key 1)) :: s : Stk).reverse.flatMap lvV by rw [List.reverse_cons, List.reverse_cons, List.flatMap_append, List.flatMap_append]; rfl]
                  exact hrest _ _ _ ⟨(k0 - 1, some (b, eput m nd0.key 1)), (k0 - 1, some (nd0.key :: ns)), rfl, rfl, by omega, by show (eput m nd0.key 1).length ≤ _; omega, .obj (hkn.put _) hs', h6⟩ (by repeat' first | exact trivial | refine And.intro rfl ?_)
        · rintro _ _ ⟨z, lv0, rfl, rfl, hz, hzm, hlv, hQ2⟩
          clear h6 hget2 hrl2 hset hrl hget i1 i2 hrel h4 h5 hk hml hb0
          have hlen : l'.length + 1 = s.length + 1 := by omega
          refine S.seq ?_
          refine S.cut (fun H' e' => ∃ (st2 : Stk) (l2 : List Lv) (a2 : Option Addr) (cp2 : Nat), H' = .row a2 cp2 103 2 st2.length (st2.reverse.flatMap lvV) :: mapsR st2 H ∧ e' = [(3, .slice a2 st2.length cp2), (10, .slice oa v.length oc), (11, .int .i64 v.length), (12, .int .i64 i)] ∧
            st2.length ≤ 33 ∧ (∀ z ∈ st2, z.1 ≤ 9223372036854775807 ∧ mlen z ≤ i + 1) ∧ LvOf st2 l2 ∧ shM Lib.validD (v.drop (i + 1)) (popL l2) = Q) ?_ ?_
          · intro k' hrest
            have hbz : ∀ y ∈ (z :: s : Stk), y.1 ≤ 9223372036854775807 ∧ mlen y ≤ i + 1 := fun y hy => by
              rcases List.mem_cons.1 hy with rfl | hy
              · exact ⟨hz, hzm⟩
              · have := hbs y hy
                exact ⟨this.1, by omega⟩
            have hzl : (z :: s : Stk).reverse.length = s.length + 1 := by rw [List.length_reverse]; rfl
            unfold shNext at hQ2
            by_cases hrow : isRow nd0
            · rw [if_pos hrow] at hQ2
              obtain ⟨kk, hkk⟩ : ∃ kk : Nat, nd0.kids = (kk : Int) := ⟨_, (Int.toNat_of_nonneg (plain_ok hp).2).symm⟩
              rw [hkk, Int.toNat_natCast] at hQ2
              have hkl : kk ≤ 9223372036854775807 := by omega
              by_cases hd : 32 < l'.length + 1
              · rw [if_pos hd] at hQ2
                subst hQ2
                rcases hrow with h6' | h7'
                · repeat' (first | (apply T.mv; apply rfl; apply rfl) | (apply T.asn; apply rfl; apply rfl) | (apply T.len; apply rfl; apply rfl) | (apply T.fieldAddrZ; apply rfl; apply rfl) | (apply T.load; apply rfl; apply rfl; infer_instance; apply rfl; apply rfl) | (apply T.gtr; apply rfl; apply rfl; apply rfl) | (apply T.eql; apply rfl; apply rfl; apply rfl) | (apply T.pickT; apply rfl; apply rfl; apply rfl) | with_reducible refine Sr.nil ?_ | with_reducible refine S.seq ?_ | with_reducible refine S.reg ?_ | (apply T.skip; apply rfl; (first | with_reducible rfl | decide); apply rfl) | (apply S.condTV; apply rfl; (first | with_reducible rfl | decide)) | (apply S.condQ; apply rfl; all_goals (intro _; try (exfalso; first | omega | with_reducible contradiction))) | (apply T.gcase; apply rfl; apply rfl; all_goals (intro _; try (exfalso; first | omega | with_reducible contradiction))) | (apply T.retW; apply rfl) | fail)
                  exact ⟨_, PSub.drop (PSub.drop (maps_psub _ _)), rfl, rfl⟩
                · have h6' : ¬ nd0.kind = 6 := by omega
                  repeat' (first | (apply T.mv; apply rfl; apply rfl) | (apply T.asn; apply rfl; apply rfl) | (apply T.len; apply rfl; apply rfl) | (apply T.fieldAddrZ; apply rfl; apply rfl) | (apply T.load; apply rfl; apply rfl; infer_instance; apply rfl; apply rfl) | (apply T.gtr; apply rfl; apply rfl; apply rfl) | (apply T.eql; apply rfl; apply rfl; apply rfl) | (apply T.pickF; apply rfl; apply rfl; apply rfl) | with_reducible refine Sr.nil ?_ | with_reducible refine S.seq ?_ | with_reducible refine S.reg ?_ | (apply T.ungV; apply rfl; (first | with_reducible rfl | decide)) | (apply S.condQ; apply rfl; all_goals (intro _; try (exfalso; first | omega | with_reducible contradiction))) | (apply T.gcase; apply rfl; apply rfl; all_goals (intro _; try (exfalso; first | omega | with_reducible contradiction))) | (apply T.retW; apply rfl) | fail)
                  exact ⟨_, PSub.drop (PSub.drop (maps_psub _ _)), rfl, rfl⟩
              · rw [if_neg hd] at hQ2
                rcases hrow with h6' | h7'
                · have h7' : ¬ nd0.kind = 7 := by omega
                  rw [show lv2 nd0 = none from if_neg h7'] at hQ2
                  repeat' (first | (apply Sr.same; refine T.appendF (g := lvV) (kk, none) rfl rfl (by show [Value.int .i64 nd0.kids, _] = _; rw [hkk]; rfl) inferInstance (fun _ => rfl) rfl rfl rfl (by constructor <;> omega) rfl ?_; intro a2 cp2; rw [← List.reverse_cons]) | (apply T.mv; apply rfl; apply rfl) | (apply T.asn; apply rfl; apply rfl) | (apply T.len; apply rfl; apply rfl) | (apply T.fieldAddrZ; apply rfl; apply rfl) | (apply T.load; apply rfl; apply rfl; infer_instance; apply rfl; apply rfl) | (apply T.gtr; apply rfl; apply rfl; apply rfl) | (apply T.eql; apply rfl; apply rfl; apply rfl) | (apply T.pickT; apply rfl; apply rfl; apply rfl) | (apply T.buildL; apply rfl; apply rfl; apply rfl) | (apply T.loadW; apply rfl; apply rfl; infer_instance; (first | rfl | (simp only [List.length_append, List.length_map, List.length_set, List.length_replicate, List.length_cons, List.length_nil]; first | done | omega)); apply rfl) | (apply T.storeW; apply rfl; apply rfl; infer_instance; (first | rfl | (simp only [List.length_append, List.length_map, List.length_set, List.length_replicate, List.length_cons, List.length_nil]; first | done | omega)); (first | rfl | (simp only [List.length_append, List.length_map, List.length_set, List.length_replicate, List.length_cons, List.length_nil]; first | done | omega)); (first | rfl | (repeat' first | apply all_nV | apply all_bV | apply all_iV | rfl | apply all_app))) | (apply T.alloc; apply rfl; intro nb) | (apply T.bsL; apply rfl; apply rfl; apply rfl; apply rfl; apply rfl; intro nb) | with_reducible refine Sr.nil ?_ | with_reducible refine S.seq ?_ | with_reducible refine S.reg ?_ | with_reducible refine S.skip ?_ | (apply T.skip; apply rfl; (first | with_reducible rfl | decide); apply rfl) | (apply S.condTV; apply rfl; (first | with_reducible rfl | decide)) | (apply S.condQ; apply rfl; all_goals (intro _; try (exfalso; first | omega | with_reducible contradiction))) | (apply T.gcase; apply rfl; apply rfl; all_goals (intro _; try (exfalso; first | omega | with_reducible contradiction))) | fail)
                  refine S.sublist ?_ (PSub.drop (PSub.drop (PSub.refl _)))
                  exact hrest _ _ _ ⟨(kk, none) :: z :: s, (kk, none) :: lv0 :: l', a2, cp2, rfl, rfl, by show s.length + 1 + 1 ≤ 33; omega, fun y hy => (List.mem_cons.1 hy).elim (fun h => by subst h; exact ⟨hkl, Nat.zero_le _⟩) (hbz y), .list hlv, hQ2⟩ (by repeat' first | exact trivial | refine And.intro rfl ?_)
                · have h6' : ¬ nd0.kind = 6 := by omega
                  rw [show lv2 nd0 = some [] from if_pos h7'] at hQ2
                  repeat' (first | (apply Sr.same; refine T.appendF (g := lvV) (kk, some (mb, [])) rfl rfl (by show [Value.int .i64 nd0.kids, _] = _; rw [hkk]; rfl) inferInstance (fun _ => rfl) rfl rfl rfl (by constructor <;> omega) rfl ?_; intro a2 cp2; rw [← List.reverse_cons]) | (apply T.mapMake; apply rfl; intro mb) | (apply T.mv; apply rfl; apply rfl) | (apply T.asn; apply rfl; apply rfl) | (apply T.len; apply rfl; apply rfl) | (apply T.fieldAddrZ; apply rfl; apply rfl) | (apply T.load; apply rfl; apply rfl; infer_instance; apply rfl; apply rfl) | (apply T.gtr; apply rfl; apply rfl; apply rfl) | (apply T.eql; apply rfl; apply rfl; apply rfl) | (apply T.pickF; apply rfl; apply rfl; apply rfl) | (apply T.buildL; apply rfl; apply rfl; apply rfl) | (apply T.loadW; apply rfl; apply rfl; infer_instance; (first | rfl | (simp only [List.length_append, List.length_map, List.length_set, List.length_replicate, List.length_cons, List.length_nil]; first | done | omega)); apply rfl) | (apply T.storeW; apply rfl; apply rfl; infer_instance; (first | rfl | (simp only [List.length_append, List.length_map, List.length_set, List.length_replicate, List.length_cons, List.length_nil]; first | done | omega)); (first | rfl | (simp only [List.length_append, List.length_map, List.length_set, List.length_replicate, List.length_cons, List.length_nil]; first | done | omega)); (first | rfl | (repeat' first | apply all_nV | apply all_bV | apply all_iV | rfl | apply all_app))) | (apply T.store; apply rfl; apply rfl; infer_instance; (first | decide | (simp; omega) | simp); apply rfl) | (apply T.alloc; apply rfl; intro nb) | (apply T.bsL; apply rfl; apply rfl; apply rfl; apply rfl; apply rfl; intro nb) | with_reducible refine Sr.nil ?_ | with_reducible refine S.seq ?_ | with_reducible refine S.reg ?_ | with_reducible refine S.skip ?_ | (apply T.ungV; apply rfl; (first | with_reducible rfl | decide)) | (apply S.condQ; apply rfl; all_goals (intro _; try (exfalso; first | omega | with_reducible contradiction))) | (apply T.gcase; apply rfl; apply rfl; all_goals (intro _; try (exfalso; first | omega | with_reducible contradiction))) | fail)
                  refine S.sublist (H' := .row a2 cp2 103 2 (s.length + 1 + 1) (((kk, some (mb, [])) :: z :: s : Stk).reverse.flatMap lvV) :: mpR mb [] :: mapsR (z :: s) H) ?_ (by first | exact PSub.take (pick_tl (pick_tl (pick_tl pick_hd))) (PSub.take pick_hd (PSub.drop (PSub.drop (PSub.refl _)))) | exact PSub.take (pick_tl (pick_tl (pick_tl pick_hd))) (PSub.take (pick_tl pick_hd) (PSub.drop (PSub.drop (PSub.refl _)))) | exact PSub.take (pick_tl (pick_tl pick_hd)) (PSub.drop (PSub.drop (PSub.refl _))))
                  exact hrest _ _ _ ⟨(kk, some (mb, [])) :: z :: s, (kk, some []) :: lv0 :: l', a2, cp2, rfl, rfl, by show s.length + 1 + 1 ≤ 33; omega, fun y hy => (List.mem_cons.1 hy).elim (fun h => by subst h; exact ⟨hkl, Nat.zero_le _⟩) (hbz y), .obj KN.nil hlv, hQ2⟩ (by repeat' first | exact trivial | refine And.intro rfl ?_)
            · rw [if_neg hrow] at hQ2
              have h6' : ¬ nd0.kind = 6 := fun h => hrow (.inl h)
              have h7' : ¬ nd0.kind = 7 := fun h => hrow (.inr h)
              repeat' (first | (apply T.mv; apply rfl; apply rfl) | (apply T.fieldAddrZ; apply rfl; apply rfl) | (apply T.load; apply rfl; apply rfl; infer_instance; apply rfl; apply rfl) | (apply T.eql; apply rfl; apply rfl; apply rfl) | (apply T.pickF; apply rfl; apply rfl; apply rfl) | with_reducible refine Sr.nil ?_ | with_reducible refine S.seq ?_ | with_reducible refine S.reg ?_ | with_reducible refine S.skip ?_ | (apply T.ungV; apply rfl; (first | with_reducible rfl | decide)) | (apply S.condQ; apply rfl; all_goals (intro _; try (exfalso; first | omega | with_reducible contradiction))) | (apply T.gcase; apply rfl; apply rfl; all_goals (intro _; try (exfalso; first | omega | with_reducible contradiction))) | fail)
              refine S.sublist ?_ (PSub.drop (PSub.refl _))
              exact hrest _ _ _ ⟨z :: s, lv0 :: l', _, _, rfl, rfl, by show s.length + 1 ≤ 33; omega, hbz, hlv, hQ2⟩ (by repeat' first | exact trivial | refine And.intro rfl ?_)
          · rintro _ _ ⟨st2, l2, a2, cp2, rfl, rfl, hl2, hb2, hlv2, hQ3⟩
            clear hQ2 hlv hzm hz hlen
            refine S.block ?_
            refine S.loopE 0 [10, 11, 12] (fun R b' μ H' e => ∃ (k : Nat) (st : Stk) (l : List Lv), H' = .row a2 cp2 103 2 k (st.reverse.flatMap lvV) :: mapsR st H ∧ e = (3, .slice a2 k cp2) :: b' ∧
              (k = st.length ∧ k ≤ 33 ∧ (∀ z ∈ st, z.1 ≤ 9223372036854775807 ∧ mlen z ≤ i + 1) ∧ LvOf st l ∧ shM Lib.validD (v.drop (i + 1)) (popL l) = Q) ∧ μ = k) rfl rfl ?_ _ _ ⟨_, st2, l2, rfl, rfl, ⟨rfl, hl2, hb2, hlv2, hQ3⟩, rfl⟩ (by repeat' first | exact trivial | refine And.intro rfl ?_)
            rintro _ _ _ ⟨k, st, l, rfl, rfl, ⟨c1, c2, c3, c4, c5⟩, rfl⟩ ih2
            cases st with
            | nil =>
              cases c4
              subst c1
              repeat' (first | (apply T.mv; apply rfl; apply rfl) | (apply T.len; apply rfl; apply rfl) | (apply T.gtr; apply rfl; apply rfl; apply rfl) | (apply T.addI; apply rfl; apply rfl; omega; apply rfl) | (apply T.pickF; apply rfl; apply rfl; apply rfl) | with_reducible refine Sr.nil ?_ | with_reducible refine S.seq ?_ | with_reducible refine S.reg ?_ | with_reducible refine S.inBlock ?_ | (apply S.exit; apply rfl) | (apply T.skip; apply rfl; (first | with_reducible rfl | decide); apply rfl) | (apply S.condFV; apply rfl; (first | with_reducible rfl | decide)) | fail)
              exact ih _ _ _ _ ⟨i + 1, a2, cp2, 0, [], [], rfl, rfl, ⟨h7, rfl, by omega, by simp, .nil, rfl, c5⟩, rfl⟩ (by omega) (by repeat' first | exact trivial | refine And.intro rfl ?_)
            | cons y s2 =>
              subst c1
              obtain ⟨k0, y2⟩ := y
              obtain ⟨nm2, l3, rfl, c6, c7⟩ := c4.inv
              refine S.rowSome (by simp) ?_
              rintro g2 rfl
              have c8 : ((k0, y2) :: s2 : Stk).length = s2.length + 1 := rfl
              have j1 : ((((k0, y2) :: s2 : Stk).length : Nat) : Int) - 1 = (s2.length : Nat) := by rw [c8]; omega
              have jrl : ((k0, y2) :: s2 : Stk).reverse.length = s2.length + 1 := by rw [List.length_reverse, c8]
              have jget : ((k0, y2) :: s2 : Stk).reverse[s2.length]? = some (k0, y2) := by simp
              by_cases hk0 : k0 = 0
              · subst hk0
                refine S.capR (ad := some ⟨g2, 0, none⟩) inferInstance fun hcap => ?_
                repeat' (first | (apply T.fieldAddrS; apply rfl; apply rfl) | (apply T.subI; apply rfl; apply rfl; (first | omega | (dsimp only; omega)); apply rfl; rw [j1]) | (apply Sr.same; refine T.loadF (g := lvV) (v := .int .i64 ((0 : Nat) : Int)) rfl rfl inferInstance (fun _ => rfl) rfl jget rfl rfl ?_) | (apply T.sliceHK; apply rfl; apply rfl; omega; apply rfl) | (apply T.mv; apply rfl; apply rfl) | (apply T.asn; apply rfl; apply rfl) | (apply T.len; apply rfl; apply rfl) | (apply T.gtr; apply rfl; apply rfl; apply rfl) | (apply T.eql; apply rfl; apply rfl; apply rfl) | (apply T.ixF; apply rfl; apply rfl; infer_instance; exact (fun _ => rfl); apply rfl; omega; omega; apply rfl) | (apply T.pickT; apply rfl; apply rfl; apply rfl) | with_reducible refine Sr.nil ?_ | with_reducible refine S.seq ?_ | with_reducible refine S.block ?_ | with_reducible refine S.reg ?_ | with_reducible refine S.skip ?_ | with_reducible refine S.inBlock ?_ | (apply T.ungV; apply rfl; (first | with_reducible rfl | decide)) | (apply S.condTV; apply rfl; (first | with_reducible rfl | decide)) | (apply T.gcase; apply rfl; apply rfl; all_goals (intro _; try (exfalso; first | omega | with_reducible contradiction))) | fail)
                refine S.weaken (H' := lvR (some ⟨g2, 0, none⟩) cp2 s2 :: mapsR s2 H) ?_ (fun w h => pop_lv h)
                exact ih2 _ _ _ _ ⟨s2.length, s2, l3, rfl, rfl, ⟨rfl, by rw [c8] at c2; omega, fun z hz => c3 z (List.mem_cons_of_mem _ hz), c6, c5⟩, rfl⟩ (by rw [c8]; omega) (by repeat' first | exact trivial | refine And.intro rfl ?_)
              · repeat' (first | (apply T.fieldAddrS; apply rfl; apply rfl) | (apply T.subI; apply rfl; apply rfl; (first | omega | (dsimp only; omega)); apply rfl; rw [j1]) | (apply Sr.same; refine T.loadF (g := lvV) (v := .int .i64 ((k0 : Nat) : Int)) rfl rfl inferInstance (fun _ => rfl) rfl jget rfl rfl ?_) | (apply T.mv; apply rfl; apply rfl) | (apply T.len; apply rfl; apply rfl) | (apply T.gtr; apply rfl; apply rfl; apply rfl) | (apply T.eql; apply rfl; apply rfl; apply rfl) | (apply T.addI; apply rfl; apply rfl; omega; apply rfl) | (apply T.ixF; apply rfl; apply rfl; infer_instance; exact (fun _ => rfl); apply rfl; omega; omega; apply rfl) | (apply T.pickT; apply rfl; apply rfl; apply rfl) | with_reducible refine Sr.nil ?_ | with_reducible refine S.seq ?_ | with_reducible refine S.reg ?_ | with_reducible refine S.inBlock ?_ | (apply S.exit; apply rfl) | (apply T.ungV; apply rfl; (first | with_reducible rfl | decide)) | (apply S.condQ; apply rfl; all_goals (intro _; try (exfalso; first | omega | with_reducible contradiction))) | (apply T.gcase; apply rfl; apply rfl; all_goals (intro _; try (exfalso; first | omega | with_reducible contradiction))) | fail)
                have e5 : popL ((k0, nm2) :: l3) = (k0, nm2) :: l3 := by
                  obtain ⟨k, rfl⟩ : ∃ k, k0 = k + 1 := ⟨k0 - 1, by omega⟩
                  rfl
                dsimp only at c5
                rw [e5] at c5
                exact ih _ _ _ _ ⟨i + 1, _, cp2, _, (k0, y2) :: s2, (k0, nm2) :: l3, rfl, rfl, ⟨h7, rfl, c2, c3, c4, e5, c5⟩, rfl⟩ (by omega) (by repeat' first | exact trivial | refine And.intro rfl ?_)
  · obtain rfl : i = v.length := by omega
    rw [List.drop_length] at h6
    have h8 := h4.len
    have h9 : (decide ((k : Int) = 0)) = Q := by
      rw [← h6, h2, h8]
      cases l with
      | nil => simp [shM]
      | cons x r =>
        simp only [shM, List.length_cons, List.isEmpty_cons, decide_eq_false_iff_not]
        omega
    subst h2
    repeat' (first | (apply T.mv; apply rfl; apply rfl) | (apply T.asn; apply rfl; apply rfl) | (apply T.len; apply rfl; apply rfl) | (apply T.lss; apply rfl; apply rfl; apply rfl) | (apply T.eql; apply rfl; apply rfl; apply rfl) | with_reducible refine Sr.nil ?_ | with_reducible refine S.seq ?_ | with_reducible refine S.reg ?_ | (apply S.exit; apply rfl) | (apply S.condQ; apply rfl; all_goals (intro _; try (exfalso; first | omega | with_reducible contradiction))) | (apply T.retW; apply rfl) | fail)
    exact ⟨_, PSub.drop (maps_psub _ _), by rw [← h9], rfl⟩
end
end Go.Proofs.YtnimcchalinihaaDoor
/- The walks of the program's printing of values. -/
namespace Go.Proofs.YtnimcchalinihaaDoor
open Sg Go.IntWalk
set_option maxRecDepth 100000
set_option maxHeartbeats 4000000
section
variable {F : World} {M : List Nat} {H : List Res} {b : Nat} {v : List Nd} {oa : Option Addr} {oc n : Nat}
theorem spelled_spec : ∀ (L : Nat) {x r : List Nd} {p cp : Nat} {na : Option Addr} {pv : Value} {bs : List UInt8} {H : List Res} [Rd F M H oa (v.flatMap ndV)], x.length ≤ L → v.length = n → n ≤ 1000000 → Fo 1 x → (∀ m ∈ x, NdSh m) → v.drop p = x ++ r → BdOk b pv → bs.length + wL x ≤ 50000010 + 6 * (headN x).key.length →
    Meets Tryd.prog 36 [.pointer (some ⟨b, 0, none⟩), .slice oa n oc, .int .i64 p] F M (bdB b pv na bs.length cp :: byR na cp bs :: H)
      (fun e H' => ∃ na' cp', e = .returned (.int .i64 (p + x.length : Nat)) ∧ H' = bdB b (.pointer (some ⟨b, 0, none⟩)) na' (bs ++ spellX L x).length cp' :: byR na' cp' (bs ++ spellX L x) :: H) := by
  intro L
  induction L with
  | zero =>
    intro x r p cp na pv bs H _ hL hn hl hx hok hd hb hw
    have := hx.pos
    omega
  | succ L IH =>
    intro x r p cp na pv bs H _ hL hn hl hx hok hd hb hw
    subst hn
    refine Meets.enter Tryd.func36 rfl rfl ?_
    obtain ⟨nn, xs, rfl, ha⟩ := At.of_fo hd hx
    obtain ⟨g1, g2⟩ := drop_head ha.drop
    subst g1
    have g3 : (v.getD p default).kids = (xs.length : Int) := ha.kids
    have hxl : ((v.getD p default) :: xs.flatten).length = xs.flatten.length + 1 := rfl
    have hxs := (Fo.of ha.fo).le
    have hvl := drop_le hd hx.pos
    have hwx : wL ((v.getD p default) :: xs.flatten) = 6 * ((v.getD p default).text.length + (v.getD p default).key.length) + 20 + wL xs.flatten := rfl
    have hhk : headN ((v.getD p default) :: xs.flatten) = (v.getD p default) := rfl
    rw [hhk, hwx] at hw
    rw [hxl] at hL hvl ⊢
    have h0 : ¬ isRow (v.getD p default) → xs = [] := fun h => by
      have h9 := (hok (v.getD p default) (List.mem_cons_self ..)).2.2 h
      rw [g3] at h9
      exact List.eq_nil_of_length_eq_zero (by omega)
    obtain ⟨hkl, hku, -⟩ := hok (v.getD p default) (List.mem_cons_self ..)
    by_cases k1 : (v.getD p default).kind = 1
    · have hxs : xs = [] := h0 (by unfold isRow; omega)
      subst hxs
      have hsp : spellX (L + 1) ((v.getD p default) :: ([] : List (List Nd)).flatten) = [110, 117, 108, 108] := by rw [spellX, if_pos k1]
      repeat' (first | (apply T.mv; apply rfl; apply rfl) | (apply T.asn; apply rfl; apply rfl) | (apply T.fieldAddrZ; apply rfl; apply rfl) | (apply T.load; apply rfl; apply rfl; infer_instance; apply rfl; apply rfl) | (apply T.eql; apply rfl; apply rfl; apply rfl) | (apply T.addI; apply rfl; apply rfl; omega; apply rfl) | (apply T.ixF; apply rfl; apply rfl; infer_instance; exact (fun _ => rfl); apply rfl; omega; omega; apply rfl) | (apply T.loadFN; apply rfl; apply rfl; infer_instance; exact (fun _ => rfl); apply rfl; exact getD_some (by omega); apply rfl) | (apply T.storeW; apply rfl; apply rfl; infer_instance; (first | rfl | (simp only [List.length_append, List.length_map, List.length_set, List.length_replicate, List.length_cons, List.length_nil]; first | done | omega)); (first | rfl | (simp only [List.length_append, List.length_map, List.length_set, List.length_replicate, List.length_cons, List.length_nil]; first | done | omega)); (first | rfl | (repeat' first | apply all_nV | apply all_bV | apply all_iV | rfl | apply all_app))) | (apply T.alloc; apply rfl; intro nb) | with_reducible refine Sr.nil ?_ | with_reducible refine S.seq ?_ | with_reducible refine S.block ?_ | with_reducible refine S.reg ?_ | (apply S.condQ; apply rfl; all_goals (intro _; try (exfalso; first | omega | with_reducible contradiction))) | fail)
      refine Sr.frontR na ?_
      refine Sr.front b ?_
      refine T.call rfl rfl (writeString_spec (s := [110, 117, 108, 108]) hb (by show _ + 4 ≤ _; omega)) ?_
      rintro _ _ ⟨na1, cp1, rfl, rfl⟩
      repeat' (first | (apply T.mv; apply rfl; apply rfl) | (apply T.asn; apply rfl; apply rfl) | with_reducible refine Sr.nil ?_ | with_reducible refine S.seq ?_ | with_reducible refine S.reg ?_ | with_reducible refine S.inBlock ?_ | (apply T.retW; apply rfl) | (with_reducible apply T.ofRet) | fail)
      rw [hsp]
      exact ⟨_, PSub.take pick_hd (PSub.take pick_hd (PSub.drop (PSub.refl _))), _, _, rfl, rfl⟩
    by_cases k2 : (v.getD p default).kind = 2
    · have hxs : xs = [] := h0 (by unfold isRow; omega)
      subst hxs
      have hsp : spellX (L + 1) ((v.getD p default) :: ([] : List (List Nd)).flatten) = [102, 97, 108, 115, 101] := by rw [spellX, if_neg k1, if_pos k2]
      repeat' (first | (apply T.mv; apply rfl; apply rfl) | (apply T.asn; apply rfl; apply rfl) | (apply T.fieldAddrZ; apply rfl; apply rfl) | (apply T.load; apply rfl; apply rfl; infer_instance; apply rfl; apply rfl) | (apply T.eql; apply rfl; apply rfl; apply rfl) | (apply T.addI; apply rfl; apply rfl; omega; apply rfl) | (apply T.ixF; apply rfl; apply rfl; infer_instance; exact (fun _ => rfl); apply rfl; omega; omega; apply rfl) | (apply T.loadFN; apply rfl; apply rfl; infer_instance; exact (fun _ => rfl); apply rfl; exact getD_some (by omega); apply rfl) | (apply T.storeW; apply rfl; apply rfl; infer_instance; (first | rfl | (simp only [List.length_append, List.length_map, List.length_set, List.length_replicate, List.length_cons, List.length_nil]; first | done | omega)); (first | rfl | (simp only [List.length_append, List.length_map, List.length_set, List.length_replicate, List.length_cons, List.length_nil]; first | done | omega)); (first | rfl | (repeat' first | apply all_nV | apply all_bV | apply all_iV | rfl | apply all_app))) | (apply T.alloc; apply rfl; intro nb) | with_reducible refine Sr.nil ?_ | with_reducible refine S.seq ?_ | with_reducible refine S.block ?_ | with_reducible refine S.reg ?_ | (apply S.condQ; apply rfl; all_goals (intro _; try (exfalso; first | omega | with_reducible contradiction))) | fail)
      refine Sr.frontR na ?_
      refine Sr.front b ?_
      refine T.call rfl rfl (writeString_spec (s := [102, 97, 108, 115, 101]) hb (by show _ + 5 ≤ _; omega)) ?_
      rintro _ _ ⟨na1, cp1, rfl, rfl⟩
      repeat' (first | (apply T.mv; apply rfl; apply rfl) | (apply T.asn; apply rfl; apply rfl) | with_reducible refine Sr.nil ?_ | with_reducible refine S.seq ?_ | with_reducible refine S.reg ?_ | with_reducible refine S.inBlock ?_ | (apply T.retW; apply rfl) | (with_reducible apply T.ofRet) | fail)
      rw [hsp]
      exact ⟨_, PSub.take pick_hd (PSub.take pick_hd (PSub.drop (PSub.refl _))), _, _, rfl, rfl⟩
    by_cases k3 : (v.getD p default).kind = 3
    · have hxs : xs = [] := h0 (by unfold isRow; omega)
      subst hxs
      have hsp : spellX (L + 1) ((v.getD p default) :: ([] : List (List Nd)).flatten) = [116, 114, 117, 101] := by rw [spellX, if_neg k1, if_neg k2, if_pos k3]
      repeat' (first | (apply T.mv; apply rfl; apply rfl) | (apply T.asn; apply rfl; apply rfl) | (apply T.fieldAddrZ; apply rfl; apply rfl) | (apply T.load; apply rfl; apply rfl; infer_instance; apply rfl; apply rfl) | (apply T.eql; apply rfl; apply rfl; apply rfl) | (apply T.addI; apply rfl; apply rfl; omega; apply rfl) | (apply T.ixF; apply rfl; apply rfl; infer_instance; exact (fun _ => rfl); apply rfl; omega; omega; apply rfl) | (apply T.loadFN; apply rfl; apply rfl; infer_instance; exact (fun _ => rfl); apply rfl; exact getD_some (by omega); apply rfl) | (apply T.storeW; apply rfl; apply rfl; infer_instance; (first | rfl | (simp only [List.length_append, List.length_map, List.length_set, List.length_replicate, List.length_cons, List.length_nil]; first | done | omega)); (first | rfl | (simp only [List.length_append, List.length_map, List.length_set, List.length_replicate, List.length_cons, List.length_nil]; first | done | omega)); (first | rfl | (repeat' first | apply all_nV | apply all_bV | apply all_iV | rfl | apply all_app))) | (apply T.alloc; apply rfl; intro nb) | with_reducible refine Sr.nil ?_ | with_reducible refine S.seq ?_ | with_reducible refine S.block ?_ | with_reducible refine S.reg ?_ | (apply S.condQ; apply rfl; all_goals (intro _; try (exfalso; first | omega | with_reducible contradiction))) | fail)
      refine Sr.frontR na ?_
      refine Sr.front b ?_
      refine T.call rfl rfl (writeString_spec (s := [116, 114, 117, 101]) hb (by show _ + 4 ≤ _; omega)) ?_
      rintro _ _ ⟨na1, cp1, rfl, rfl⟩
      repeat' (first | (apply T.mv; apply rfl; apply rfl) | (apply T.asn; apply rfl; apply rfl) | with_reducible refine Sr.nil ?_ | with_reducible refine S.seq ?_ | with_reducible refine S.reg ?_ | with_reducible refine S.inBlock ?_ | (apply T.retW; apply rfl) | (with_reducible apply T.ofRet) | fail)
      rw [hsp]
      exact ⟨_, PSub.take pick_hd (PSub.take pick_hd (PSub.drop (PSub.refl _))), _, _, rfl, rfl⟩
    by_cases k4 : (v.getD p default).kind = 4
    · have hxs : xs = [] := h0 (by unfold isRow; omega)
      subst hxs
      have hsp : spellX (L + 1) ((v.getD p default) :: ([] : List (List Nd)).flatten) = (v.getD p default).text := by rw [spellX, if_neg k1, if_neg k2, if_neg k3, if_pos k4]
      repeat' (first | (apply T.mv; apply rfl; apply rfl) | (apply T.asn; apply rfl; apply rfl) | (apply T.fieldAddrZ; apply rfl; apply rfl) | (apply T.load; apply rfl; apply rfl; infer_instance; apply rfl; apply rfl) | (apply T.eql; apply rfl; apply rfl; apply rfl) | (apply T.addI; apply rfl; apply rfl; omega; apply rfl) | (apply T.ixF; apply rfl; apply rfl; infer_instance; exact (fun _ => rfl); apply rfl; omega; omega; apply rfl) | (apply T.loadFN; apply rfl; apply rfl; infer_instance; exact (fun _ => rfl); apply rfl; exact getD_some (by omega); apply rfl) | (apply T.storeW; apply rfl; apply rfl; infer_instance; (first | rfl | (simp only [List.length_append, List.length_map, List.length_set, List.length_replicate, List.length_cons, List.length_nil]; first | done | omega)); (first | rfl | (simp only [List.length_append, List.length_map, List.length_set, List.length_replicate, List.length_cons, List.length_nil]; first | done | omega)); (first | rfl | (repeat' first | apply all_nV | apply all_bV | apply all_iV | rfl | apply all_app))) | (apply T.alloc; apply rfl; intro nb) | with_reducible refine Sr.nil ?_ | with_reducible refine S.seq ?_ | with_reducible refine S.block ?_ | with_reducible refine S.reg ?_ | (apply S.condQ; apply rfl; all_goals (intro _; try (exfalso; first | omega | with_reducible contradiction))) | fail)
      refine Sr.frontR na ?_
      refine Sr.front b ?_
      refine T.call rfl rfl (writeString_spec hb (by omega)) ?_
      rintro _ _ ⟨na1, cp1, rfl, rfl⟩
      repeat' (first | (apply T.mv; apply rfl; apply rfl) | (apply T.asn; apply rfl; apply rfl) | with_reducible refine Sr.nil ?_ | with_reducible refine S.seq ?_ | with_reducible refine S.reg ?_ | with_reducible refine S.inBlock ?_ | (apply T.retW; apply rfl) | (with_reducible apply T.ofRet) | fail)
      rw [hsp]
      exact ⟨_, PSub.take pick_hd (PSub.take pick_hd (PSub.drop (PSub.refl _))), _, _, rfl, rfl⟩
    by_cases k5 : (v.getD p default).kind = 5
    · have hxs : xs = [] := h0 (by unfold isRow; omega)
      subst hxs
      have hsp : spellX (L + 1) ((v.getD p default) :: ([] : List (List Nd)).flatten) = quoS (v.getD p default).text := by rw [spellX, if_neg k1, if_neg k2, if_neg k3, if_neg k4, if_pos k5]
      repeat' (first | (apply T.mv; apply rfl; apply rfl) | (apply T.asn; apply rfl; apply rfl) | (apply T.fieldAddrZ; apply rfl; apply rfl) | (apply T.load; apply rfl; apply rfl; infer_instance; apply rfl; apply rfl) | (apply T.eql; apply rfl; apply rfl; apply rfl) | (apply T.addI; apply rfl; apply rfl; omega; apply rfl) | (apply T.ixF; apply rfl; apply rfl; infer_instance; exact (fun _ => rfl); apply rfl; omega; omega; apply rfl) | (apply T.loadFN; apply rfl; apply rfl; infer_instance; exact (fun _ => rfl); apply rfl; exact getD_some (by omega); apply rfl) | (apply T.storeW; apply rfl; apply rfl; infer_instance; (first | rfl | (simp only [List.length_append, List.length_map, List.length_set, List.length_replicate, List.length_cons, List.length_nil]; first | done | omega)); (first | rfl | (simp only [List.length_append, List.length_map, List.length_set, List.length_replicate, List.length_cons, List.length_nil]; first | done | omega)); (first | rfl | (repeat' first | apply all_nV | apply all_bV | apply all_iV | rfl | apply all_app))) | (apply T.alloc; apply rfl; intro nb) | with_reducible refine Sr.nil ?_ | with_reducible refine S.seq ?_ | with_reducible refine S.block ?_ | with_reducible refine S.reg ?_ | (apply S.condQ; apply rfl; all_goals (intro _; try (exfalso; first | omega | with_reducible contradiction))) | fail)
      refine Sr.frontR na ?_
      refine Sr.front b ?_
      refine T.call rfl rfl (quote_spec hb (by omega)) ?_
      rintro _ _ ⟨na1, cp1, rfl, rfl⟩
      repeat' (first | (apply T.mv; apply rfl; apply rfl) | (apply T.asn; apply rfl; apply rfl) | with_reducible refine Sr.nil ?_ | with_reducible refine S.seq ?_ | with_reducible refine S.reg ?_ | with_reducible refine S.inBlock ?_ | (apply T.retW; apply rfl) | (with_reducible apply T.ofRet) | fail)
      rw [hsp]
      exact ⟨_, PSub.take pick_hd (PSub.take pick_hd (PSub.drop (PSub.refl _))), _, _, rfl, rfl⟩
    by_cases k7 : (v.getD p default).kind = 7
    · skip
      repeat' (first | (refine T.sidx (i := 0) rfl rfl (by decide) rfl ?_) | (apply T.mv; apply rfl; apply rfl) | (apply T.asn; apply rfl; apply rfl) | (apply T.fieldAddrZ; apply rfl; apply rfl) | (apply T.load; apply rfl; apply rfl; infer_instance; apply rfl; apply rfl) | (apply T.eql; apply rfl; apply rfl; apply rfl) | (apply T.addI; apply rfl; apply rfl; omega; apply rfl) | (apply T.ixF; apply rfl; apply rfl; infer_instance; exact (fun _ => rfl); apply rfl; omega; omega; apply rfl) | (apply T.loadFN; apply rfl; apply rfl; infer_instance; exact (fun _ => rfl); apply rfl; exact getD_some (by omega); apply rfl) | (apply T.storeW; apply rfl; apply rfl; infer_instance; (first | rfl | (simp only [List.length_append, List.length_map, List.length_set, List.length_replicate, List.length_cons, List.length_nil]; first | done | omega)); (first | rfl | (simp only [List.length_append, List.length_map, List.length_set, List.length_replicate, List.length_cons, List.length_nil]; first | done | omega)); (first | rfl | (repeat' first | apply all_nV | apply all_bV | apply all_iV | rfl | apply all_app))) | (apply T.alloc; apply rfl; intro nb) | with_reducible refine Sr.nil ?_ | with_reducible refine S.seq ?_ | with_reducible refine S.block ?_ | with_reducible refine S.reg ?_ | (apply S.condQ; apply rfl; all_goals (intro _; try (exfalso; first | omega | with_reducible contradiction))) | fail)
      refine Sr.frontR na ?_
      refine Sr.front b ?_
      refine T.call rfl rfl (writeByte_spec (x := 123) hb (by omega)) ?_
      rintro _ _ ⟨na1, cp1, rfl, rfl⟩
      repeat' (first | (apply T.mv; apply rfl; apply rfl) | (apply T.fieldAddrZ; apply rfl; apply rfl) | (apply T.load; apply rfl; apply rfl; infer_instance; apply rfl; apply rfl) | with_reducible refine Sr.nil ?_ | with_reducible refine S.seq ?_ | with_reducible refine S.block ?_ | with_reducible refine S.reg ?_ | (with_reducible apply T.ofRet) | fail)
      refine S.loopE 2 [0, 1, 7, 8, 26] (fun R b' μ H' e => ∃ (i q : Nat) (na : Option Addr) (cp : Nat) (ys : List UInt8), H' = bdB b (.pointer (some ⟨b, 0, none⟩)) na ys.length cp :: byR na cp ys :: R ∧ e = (2, .int .i64 q) :: (27, .int .i64 i) :: b' ∧
        (i ≤ xs.length ∧ q = p + 1 + (xs.take i).flatten.length ∧ ys = bs ++ 123 :: joinC ((xs.take i).map (itemS L ((v.getD p default).kind = 7)))) ∧ μ = xs.length - i) rfl rfl ?_ _ _ ⟨0, p + 1, na1, cp1, bs ++ [123], rfl, rfl, ⟨Nat.zero_le _, rfl, rfl⟩, rfl⟩ (by repeat' first | exact trivial | refine And.intro rfl ?_)
      rintro _ _ _ ⟨i, q, na, cp, ys, rfl, rfl, ⟨h1, h3, h5⟩, rfl⟩ ih
      have hjl := joinC_len (g := itemS L ((v.getD p default).kind = 7)) (xs := xs.take i) fun y hy => itemS_len (ha.fo _ (List.mem_of_mem_take hy)) (by have := flat_mem_len (List.mem_of_mem_take hy); omega)
      have hyl : ys.length = bs.length + 1 + (joinC ((xs.take i).map (itemS L ((v.getD p default).kind = 7)))).length := by rw [h5, List.length_append, List.length_cons]; omega
      have hwt := wL_take xs i
      by_cases h4 : i < xs.length
      · have hk := ha.kid h4
        rw [← h3] at hk
        have hx2 := ha.fo _ (List.getElem_mem h4)
        have hq := drop_le hk hx2.pos
        have hxp := hx2.pos
        have ht := take_flat_succ h4
        have hjn := join_next (g := itemS L ((v.getD p default).kind = 7)) h4
        have hws := wL_split h4
        have hfl := flat_mem_len (List.getElem_mem h4)
        have hok2 : ∀ m ∈ xs[i], NdSh m := fun m hm => hok m (List.mem_cons_of_mem _ (List.mem_flatten.2 ⟨_, List.getElem_mem h4, hm⟩))
        have hhd : v.getD q default = headN xs[i] := by
          obtain ⟨n2, xs2, e2, -⟩ := At.of_fo hk hx2
          rw [e2] at hk ⊢
          exact (drop_head hk).1
        have hql := quoS_len (headN xs[i]).key
        have hsl := spell_len L xs[i] hx2 (by omega)
        have hyq : (ys ++ quoS (headN xs[i]).key).length = ys.length + (quoS (headN xs[i]).key).length := List.length_append
        have hyq1 : (ys ++ [44] ++ quoS (headN xs[i]).key).length = ys.length + 1 + (quoS (headN xs[i]).key).length := by rw [List.length_append, List.length_append]; rfl
        have hit : itemS L ((v.getD p default).kind = 7) xs[i] = quoS (headN xs[i]).key ++ [58] ++ spellX L xs[i] := by unfold itemS; rw [if_pos k7]
        have hy44 : (ys ++ [44]).length = ys.length + 1 := List.length_append
        rw [hit] at hjn
        by_cases hi0 : i = 0
        · rw [if_pos hi0] at hjn
          repeat' (first | (apply T.mv; apply rfl; apply rfl) | (apply T.asn; apply rfl; apply rfl) | (apply T.fieldAddrZ; apply rfl; apply rfl) | (apply T.load; apply rfl; apply rfl; infer_instance; apply rfl; apply rfl) | (apply T.lss; apply rfl; apply rfl; apply rfl) | (apply T.gtr; apply rfl; apply rfl; apply rfl) | (apply T.eql; apply rfl; apply rfl; apply rfl) | (apply T.ixF; apply rfl; apply rfl; infer_instance; exact (fun _ => rfl); apply rfl; omega; omega; apply rfl) | (apply T.fieldAddrF; apply rfl; infer_instance; exact (fun _ => rfl); apply rfl; omega; apply rfl) | (apply T.loadF; apply rfl; apply rfl; infer_instance; exact (fun _ => rfl); apply rfl; exact getD_some (by omega); apply rfl; apply rfl) | with_reducible refine Sr.nil ?_ | with_reducible refine S.seq ?_ | with_reducible refine S.block ?_ | with_reducible refine S.reg ?_ | with_reducible refine S.skip ?_ | (apply S.condQ; apply rfl; all_goals (intro _; try (exfalso; first | omega | with_reducible contradiction))) | fail)
          rw [hhd]
          refine T.call rfl rfl (quote_spec (BdOk.self b) (by omega)) ?_
          rintro _ _ ⟨na3, cp3, rfl, rfl⟩
          repeat' (first | (apply T.mv; apply rfl; apply rfl) | with_reducible refine Sr.nil ?_ | with_reducible refine S.reg ?_ | (with_reducible apply T.ofRet) | fail)
          refine T.call rfl rfl (writeByte_spec (x := 58) (BdOk.self b) (by omega)) ?_
          rintro _ _ ⟨na4, cp4, rfl, rfl⟩
          repeat' (first | (apply T.mv; apply rfl; apply rfl) | with_reducible refine Sr.nil ?_ | with_reducible refine S.reg ?_ | (with_reducible apply T.ofRet) | fail)
          refine T.call rfl rfl (IH (x := xs[i]) (by omega) rfl hl hx2 hok2 hk (BdOk.self b) (by rw [List.length_append, hyq]; show _ + _ + 1 + _ ≤ _; omega)) ?_
          rintro _ _ ⟨na5, cp5, rfl, rfl⟩
          repeat' (first | (apply T.mv; apply rfl; apply rfl) | (apply T.asn; apply rfl; apply rfl) | (apply T.addI; apply rfl; apply rfl; omega; apply rfl) | with_reducible refine Sr.nil ?_ | with_reducible refine S.reg ?_ | with_reducible refine S.inBlock ?_ | (with_reducible apply T.ofRet) | fail)
          exact ih _ _ _ _ ⟨i + 1, q + xs[i].length, _, _, ((ys ++ quoS (headN xs[i]).key) ++ [58]) ++ spellX L xs[i], rfl, rfl, ⟨h4, by omega, by rw [h5, hjn]; simp⟩, rfl⟩ (by omega) (by repeat' first | exact trivial | refine And.intro rfl ?_)
        · rw [if_neg hi0] at hjn
          repeat' (first | (apply T.mv; apply rfl; apply rfl) | (apply T.asn; apply rfl; apply rfl) | (apply T.lss; apply rfl; apply rfl; apply rfl) | (apply T.gtr; apply rfl; apply rfl; apply rfl) | with_reducible refine Sr.nil ?_ | with_reducible refine S.seq ?_ | with_reducible refine S.block ?_ | with_reducible refine S.reg ?_ | with_reducible refine S.skip ?_ | (apply S.condQ; apply rfl; all_goals (intro _; try (exfalso; first | omega | with_reducible contradiction))) | fail)
          refine T.call rfl rfl (writeByte_spec (x := 44) (BdOk.self b) (by omega)) ?_
          rintro _ _ ⟨na2, cp2, rfl, rfl⟩
          repeat' (first | (apply T.mv; apply rfl; apply rfl) | (apply T.fieldAddrZ; apply rfl; apply rfl) | (apply T.load; apply rfl; apply rfl; infer_instance; apply rfl; apply rfl) | (apply T.eql; apply rfl; apply rfl; apply rfl) | (apply T.ixF; apply rfl; apply rfl; infer_instance; exact (fun _ => rfl); apply rfl; omega; omega; apply rfl) | (apply T.fieldAddrF; apply rfl; infer_instance; exact (fun _ => rfl); apply rfl; omega; apply rfl) | (apply T.loadF; apply rfl; apply rfl; infer_instance; exact (fun _ => rfl); apply rfl; exact getD_some (by omega); apply rfl; apply rfl) | with_reducible refine Sr.nil ?_ | with_reducible refine S.seq ?_ | with_reducible refine S.reg ?_ | (apply S.condQ; apply rfl; all_goals (intro _; try (exfalso; first | omega | with_reducible contradiction))) | (with_reducible apply T.ofRet) | fail)
          rw [hhd]
          refine T.call rfl rfl (quote_spec (BdOk.self b) (by omega)) ?_
          rintro _ _ ⟨na3, cp3, rfl, rfl⟩
          repeat' (first | (apply T.mv; apply rfl; apply rfl) | with_reducible refine Sr.nil ?_ | with_reducible refine S.reg ?_ | (with_reducible apply T.ofRet) | fail)
          refine T.call rfl rfl (writeByte_spec (x := 58) (BdOk.self b) (by omega)) ?_
          rintro _ _ ⟨na4, cp4, rfl, rfl⟩
          repeat' (first | (apply T.mv; apply rfl; apply rfl) | with_reducible refine Sr.nil ?_ | with_reducible refine S.reg ?_ | (with_reducible apply T.ofRet) | fail)
          refine T.call rfl rfl (IH (x := xs[i]) (by omega) rfl hl hx2 hok2 hk (BdOk.self b) (by rw [List.length_append, hyq1]; show _ + _ + 1 + _ ≤ _; omega)) ?_
          rintro _ _ ⟨na5, cp5, rfl, rfl⟩
          repeat' (first | (apply T.mv; apply rfl; apply rfl) | (apply T.asn; apply rfl; apply rfl) | (apply T.addI; apply rfl; apply rfl; omega; apply rfl) | with_reducible refine Sr.nil ?_ | with_reducible refine S.reg ?_ | with_reducible refine S.inBlock ?_ | (with_reducible apply T.ofRet) | fail)
          exact ih _ _ _ _ ⟨i + 1, q + xs[i].length, _, _, (((ys ++ [44]) ++ quoS (headN xs[i]).key) ++ [58]) ++ spellX L xs[i], rfl, rfl, ⟨h4, by omega, by rw [h5, hjn]; simp⟩, rfl⟩ (by omega) (by repeat' first | exact trivial | refine And.intro rfl ?_)
      · obtain rfl : i = xs.length := by omega
        rw [List.take_length] at h3 h5
        repeat' (first | (refine T.sidx (i := 1) rfl rfl (by decide) rfl ?_) | (apply T.mv; apply rfl; apply rfl) | (apply T.lss; apply rfl; apply rfl; apply rfl) | with_reducible refine Sr.nil ?_ | with_reducible refine S.seq ?_ | with_reducible refine S.reg ?_ | (apply S.exit; apply rfl) | (apply S.condQ; apply rfl; all_goals (intro _; try (exfalso; first | omega | with_reducible contradiction))) | fail)
        refine T.call rfl rfl (writeByte_spec (x := 125) (BdOk.self b) (by omega)) ?_
        rintro _ _ ⟨na2, cp2, rfl, rfl⟩
        repeat' (first | (apply T.mv; apply rfl; apply rfl) | (apply T.asn; apply rfl; apply rfl) | with_reducible refine Sr.nil ?_ | with_reducible refine S.seq ?_ | with_reducible refine S.reg ?_ | with_reducible refine S.inBlock ?_ | (apply T.retW; apply rfl) | (with_reducible apply T.ofRet) | fail)
        have h12 : ys ++ [125] = bs ++ spellX (L + 1) ((v.getD p default) :: xs.flatten) := by rw [spellX_row ha.kids ha.fo k1 k2 k3 k4 k5, h5, if_pos k7, if_pos k7]; simp
        exact ⟨_, PSub.take pick_hd (PSub.take pick_hd (PSub.drop (PSub.refl _))), _, _, by rw [h3]; congr 3; omega, by rw [← h12]⟩
    · skip
      repeat' (first | (refine T.sidx (i := 0) rfl rfl (by decide) rfl ?_) | (apply T.mv; apply rfl; apply rfl) | (apply T.asn; apply rfl; apply rfl) | (apply T.fieldAddrZ; apply rfl; apply rfl) | (apply T.load; apply rfl; apply rfl; infer_instance; apply rfl; apply rfl) | (apply T.eql; apply rfl; apply rfl; apply rfl) | (apply T.addI; apply rfl; apply rfl; omega; apply rfl) | (apply T.ixF; apply rfl; apply rfl; infer_instance; exact (fun _ => rfl); apply rfl; omega; omega; apply rfl) | (apply T.loadFN; apply rfl; apply rfl; infer_instance; exact (fun _ => rfl); apply rfl; exact getD_some (by omega); apply rfl) | (apply T.storeW; apply rfl; apply rfl; infer_instance; (first | rfl | (simp only [List.length_append, List.length_map, List.length_set, List.length_replicate, List.length_cons, List.length_nil]; first | done | omega)); (first | rfl | (simp only [List.length_append, List.length_map, List.length_set, List.length_replicate, List.length_cons, List.length_nil]; first | done | omega)); (first | rfl | (repeat' first | apply all_nV | apply all_bV | apply all_iV | rfl | apply all_app))) | (apply T.alloc; apply rfl; intro nb) | with_reducible refine Sr.nil ?_ | with_reducible refine S.seq ?_ | with_reducible refine S.block ?_ | with_reducible refine S.reg ?_ | with_reducible refine S.skip ?_ | (apply S.condQ; apply rfl; all_goals (intro _; try (exfalso; first | omega | with_reducible contradiction))) | fail)
      refine Sr.frontR na ?_
      refine Sr.front b ?_
      refine T.call rfl rfl (writeByte_spec (x := 91) hb (by omega)) ?_
      rintro _ _ ⟨na1, cp1, rfl, rfl⟩
      repeat' (first | (apply T.mv; apply rfl; apply rfl) | (apply T.fieldAddrZ; apply rfl; apply rfl) | (apply T.load; apply rfl; apply rfl; infer_instance; apply rfl; apply rfl) | with_reducible refine Sr.nil ?_ | with_reducible refine S.seq ?_ | with_reducible refine S.block ?_ | with_reducible refine S.reg ?_ | (with_reducible apply T.ofRet) | fail)
      refine S.loopE 2 [0, 1, 7, 8, 26] (fun R b' μ H' e => ∃ (i q : Nat) (na : Option Addr) (cp : Nat) (ys : List UInt8), H' = bdB b (.pointer (some ⟨b, 0, none⟩)) na ys.length cp :: byR na cp ys :: R ∧ e = (2, .int .i64 q) :: (27, .int .i64 i) :: b' ∧
        (i ≤ xs.length ∧ q = p + 1 + (xs.take i).flatten.length ∧ ys = bs ++ 91 :: joinC ((xs.take i).map (itemS L ((v.getD p default).kind = 7)))) ∧ μ = xs.length - i) rfl rfl ?_ _ _ ⟨0, p + 1, na1, cp1, bs ++ [91], rfl, rfl, ⟨Nat.zero_le _, rfl, rfl⟩, rfl⟩ (by repeat' first | exact trivial | refine And.intro rfl ?_)
      rintro _ _ _ ⟨i, q, na, cp, ys, rfl, rfl, ⟨h1, h3, h5⟩, rfl⟩ ih
      have hjl := joinC_len (g := itemS L ((v.getD p default).kind = 7)) (xs := xs.take i) fun y hy => itemS_len (ha.fo _ (List.mem_of_mem_take hy)) (by have := flat_mem_len (List.mem_of_mem_take hy); omega)
      have hyl : ys.length = bs.length + 1 + (joinC ((xs.take i).map (itemS L ((v.getD p default).kind = 7)))).length := by rw [h5, List.length_append, List.length_cons]; omega
      have hwt := wL_take xs i
      by_cases h4 : i < xs.length
      · have hk := ha.kid h4
        rw [← h3] at hk
        have hx2 := ha.fo _ (List.getElem_mem h4)
        have hq := drop_le hk hx2.pos
        have hxp := hx2.pos
        have ht := take_flat_succ h4
        have hjn := join_next (g := itemS L ((v.getD p default).kind = 7)) h4
        have hws := wL_split h4
        have hfl := flat_mem_len (List.getElem_mem h4)
        have hok2 : ∀ m ∈ xs[i], NdSh m := fun m hm => hok m (List.mem_cons_of_mem _ (List.mem_flatten.2 ⟨_, List.getElem_mem h4, hm⟩))
        have hhd : v.getD q default = headN xs[i] := by
          obtain ⟨n2, xs2, e2, -⟩ := At.of_fo hk hx2
          rw [e2] at hk ⊢
          exact (drop_head hk).1
        have hql := quoS_len (headN xs[i]).key
        have hsl := spell_len L xs[i] hx2 (by omega)
        have hyq : (ys ++ quoS (headN xs[i]).key).length = ys.length + (quoS (headN xs[i]).key).length := List.length_append
        have hyq1 : (ys ++ [44] ++ quoS (headN xs[i]).key).length = ys.length + 1 + (quoS (headN xs[i]).key).length := by rw [List.length_append, List.length_append]; rfl
        have hit : itemS L ((v.getD p default).kind = 7) xs[i] = spellX L xs[i] := by unfold itemS; rw [if_neg k7]; rfl
        have hy44 : (ys ++ [44]).length = ys.length + 1 := List.length_append
        rw [hit] at hjn
        by_cases hi0 : i = 0
        · rw [if_pos hi0] at hjn
          repeat' (first | (apply T.mv; apply rfl; apply rfl) | (apply T.asn; apply rfl; apply rfl) | (apply T.fieldAddrZ; apply rfl; apply rfl) | (apply T.load; apply rfl; apply rfl; infer_instance; apply rfl; apply rfl) | (apply T.lss; apply rfl; apply rfl; apply rfl) | (apply T.gtr; apply rfl; apply rfl; apply rfl) | (apply T.eql; apply rfl; apply rfl; apply rfl) | with_reducible refine Sr.nil ?_ | with_reducible refine S.seq ?_ | with_reducible refine S.block ?_ | with_reducible refine S.reg ?_ | with_reducible refine S.skip ?_ | (apply S.condQ; apply rfl; all_goals (intro _; try (exfalso; first | omega | with_reducible contradiction))) | fail)
          skip
          refine T.call rfl rfl (IH (x := xs[i]) (by omega) rfl hl hx2 hok2 hk (BdOk.self b) (by omega)) ?_
          rintro _ _ ⟨na5, cp5, rfl, rfl⟩
          repeat' (first | (apply T.mv; apply rfl; apply rfl) | (apply T.asn; apply rfl; apply rfl) | (apply T.addI; apply rfl; apply rfl; omega; apply rfl) | with_reducible refine Sr.nil ?_ | with_reducible refine S.reg ?_ | with_reducible refine S.inBlock ?_ | (with_reducible apply T.ofRet) | fail)
          exact ih _ _ _ _ ⟨i + 1, q + xs[i].length, _, _, ys ++ spellX L xs[i], rfl, rfl, ⟨h4, by omega, by rw [h5, hjn]; simp⟩, rfl⟩ (by omega) (by repeat' first | exact trivial | refine And.intro rfl ?_)
        · rw [if_neg hi0] at hjn
          repeat' (first | (apply T.mv; apply rfl; apply rfl) | (apply T.asn; apply rfl; apply rfl) | (apply T.lss; apply rfl; apply rfl; apply rfl) | (apply T.gtr; apply rfl; apply rfl; apply rfl) | with_reducible refine Sr.nil ?_ | with_reducible refine S.seq ?_ | with_reducible refine S.block ?_ | with_reducible refine S.reg ?_ | with_reducible refine S.skip ?_ | (apply S.condQ; apply rfl; all_goals (intro _; try (exfalso; first | omega | with_reducible contradiction))) | fail)
          refine T.call rfl rfl (writeByte_spec (x := 44) (BdOk.self b) (by omega)) ?_
          rintro _ _ ⟨na2, cp2, rfl, rfl⟩
          repeat' (first | (apply T.mv; apply rfl; apply rfl) | (apply T.fieldAddrZ; apply rfl; apply rfl) | (apply T.load; apply rfl; apply rfl; infer_instance; apply rfl; apply rfl) | (apply T.eql; apply rfl; apply rfl; apply rfl) | with_reducible refine Sr.nil ?_ | with_reducible refine S.seq ?_ | with_reducible refine S.reg ?_ | with_reducible refine S.skip ?_ | (apply S.condQ; apply rfl; all_goals (intro _; try (exfalso; first | omega | with_reducible contradiction))) | (with_reducible apply T.ofRet) | fail)
          skip
          refine T.call rfl rfl (IH (x := xs[i]) (by omega) rfl hl hx2 hok2 hk (BdOk.self b) (by omega)) ?_
          rintro _ _ ⟨na5, cp5, rfl, rfl⟩
          repeat' (first | (apply T.mv; apply rfl; apply rfl) | (apply T.asn; apply rfl; apply rfl) | (apply T.addI; apply rfl; apply rfl; omega; apply rfl) | with_reducible refine Sr.nil ?_ | with_reducible refine S.reg ?_ | with_reducible refine S.inBlock ?_ | (with_reducible apply T.ofRet) | fail)
          exact ih _ _ _ _ ⟨i + 1, q + xs[i].length, _, _, (ys ++ [44]) ++ spellX L xs[i], rfl, rfl, ⟨h4, by omega, by rw [h5, hjn]; simp⟩, rfl⟩ (by omega) (by repeat' first | exact trivial | refine And.intro rfl ?_)
      · obtain rfl : i = xs.length := by omega
        rw [List.take_length] at h3 h5
        repeat' (first | (refine T.sidx (i := 1) rfl rfl (by decide) rfl ?_) | (apply T.mv; apply rfl; apply rfl) | (apply T.lss; apply rfl; apply rfl; apply rfl) | with_reducible refine Sr.nil ?_ | with_reducible refine S.seq ?_ | with_reducible refine S.reg ?_ | (apply S.exit; apply rfl) | (apply S.condQ; apply rfl; all_goals (intro _; try (exfalso; first | omega | with_reducible contradiction))) | fail)
        refine T.call rfl rfl (writeByte_spec (x := 93) (BdOk.self b) (by omega)) ?_
        rintro _ _ ⟨na2, cp2, rfl, rfl⟩
        repeat' (first | (apply T.mv; apply rfl; apply rfl) | (apply T.asn; apply rfl; apply rfl) | with_reducible refine Sr.nil ?_ | with_reducible refine S.seq ?_ | with_reducible refine S.reg ?_ | with_reducible refine S.inBlock ?_ | (apply T.retW; apply rfl) | (with_reducible apply T.ofRet) | fail)
        have h12 : ys ++ [93] = bs ++ spellX (L + 1) ((v.getD p default) :: xs.flatten) := by rw [spellX_row ha.kids ha.fo k1 k2 k3 k4 k5, h5, if_neg k7, if_neg k7]; simp
        exact ⟨_, PSub.take pick_hd (PSub.take pick_hd (PSub.drop (PSub.refl _))), _, _, by rw [h3]; congr 3; omega, by rw [← h12]⟩
theorem print_spec (hT : Tabs F M) [Rd F M H oa (v.flatMap ndV)] (hn : v.length = n) (hl : n ≤ 1000000) (htx : ∀ x ∈ v, (x.kind = 4 → x.text.length ≤ 1100000) ∧ x.text.length ≤ 9223372036854775807 ∧ x.key.length ≤ 1000000 ∧ x.kids ≤ 9223372036854775807) (hw : wL v ≤ 50000000) :
    Meets Tryd.prog 18 [.slice oa n oc] F M H (fun e H' => e = .returned (.tuple ⟨[sV (printX Lib.validD v).1, .int .i64 (printX Lib.validD v).2]⟩) ∧ H' = H) := by
  subst hn
  refine Meets.enter Tryd.func18 rfl rfl ?_
  cases hs : shapedX Lib.validD v with
  | false =>
    have hp : printX Lib.validD v = ([], 31) := by unfold printX; rw [hs, if_neg (by simp)]
    rw [hp]
    repeat' (first | (apply T.mv; apply rfl; apply rfl) | (apply T.asn; apply rfl; apply rfl) | with_reducible refine Sr.nil ?_ | with_reducible refine S.seq ?_ | with_reducible refine S.reg ?_ | fail)
    refine T.call rfl rfl (shaped_spec (oa := oa) hT rfl hl htx) ?_
    rintro _ _ ⟨rfl, rfl⟩
    rw [hs]
    repeat' (first | (apply T.asn; apply rfl; apply rfl) | (apply T.notB; apply rfl; apply rfl) | with_reducible refine Sr.nil ?_ | with_reducible refine S.seq ?_ | with_reducible refine S.reg ?_ | (apply S.condTV; apply rfl; (first | with_reducible rfl | decide)) | (apply T.retW; apply rfl) | (with_reducible apply T.ofRet) | fail)
    exact ⟨_, PSub.refl _, rfl, rfl⟩
  | true =>
    have hp : printX Lib.validD v = if 262144 < (spellX v.length v).length then ([], 10) else (spellX v.length v, 0) := by unfold printX; rw [hs, if_pos rfl]
    rw [hp]
    obtain ⟨hf, hok⟩ := shaped_fo hs
    have hsl := spell_len v.length v hf (Nat.le_refl _)
    have hps := spell_pos hs
    repeat' (first | (apply T.mv; apply rfl; apply rfl) | (apply T.asn; apply rfl; apply rfl) | with_reducible refine Sr.nil ?_ | with_reducible refine S.seq ?_ | with_reducible refine S.reg ?_ | fail)
    refine T.call rfl rfl (shaped_spec (oa := oa) hT rfl hl htx) ?_
    rintro _ _ ⟨rfl, rfl⟩
    rw [hs]
    repeat' (first | (apply T.mv; apply rfl; apply rfl) | (apply T.notB; apply rfl; apply rfl) | (apply T.alloc; apply rfl; intro nb) | with_reducible refine Sr.nil ?_ | with_reducible refine S.seq ?_ | with_reducible refine S.reg ?_ | with_reducible refine S.skip ?_ | (apply S.condFV; apply rfl; (first | with_reducible rfl | decide)) | (with_reducible apply T.ofRet) | fail)
    refine Sr.nilrow 5 1 ?_
    refine Sr.front nb ?_
    refine T.call rfl rfl (spelled_spec v.length (x := v) (r := []) (p := 0) (bs := []) (pv := .pointer none) (na := none) (cp := 0) (Nat.le_refl _) rfl hl hf hok (by simp) (.inl rfl) (by rw [List.length_nil]; omega)) ?_
    rintro _ _ ⟨na1, cp1, rfl, rfl⟩
    rw [List.nil_append]
    generalize spellX v.length v = tx at *
    repeat' (first | with_reducible refine Sr.nil ?_ | with_reducible refine S.seq ?_ | with_reducible refine S.reg ?_ | (with_reducible apply T.ofRet) | fail)
    refine T.call rfl rfl bdLen_spec ?_
    rintro _ _ ⟨rfl, rfl⟩
    by_cases hL : 262144 < tx.length
    · rw [if_pos hL]
      repeat' (first | (apply T.asn; apply rfl; apply rfl) | (apply T.gtr; apply rfl; apply rfl; apply rfl) | with_reducible refine Sr.nil ?_ | with_reducible refine S.seq ?_ | with_reducible refine S.reg ?_ | (apply S.condQ; apply rfl; all_goals (intro _; try (exfalso; first | omega | with_reducible contradiction))) | (apply T.retW; apply rfl) | (with_reducible apply T.ofRet) | fail)
      exact ⟨_, PSub.drop (PSub.drop (PSub.refl _)), rfl, rfl⟩
    · rw [if_neg hL]
      repeat' (first | (apply T.gtr; apply rfl; apply rfl; apply rfl) | with_reducible refine Sr.nil ?_ | with_reducible refine S.seq ?_ | with_reducible refine S.reg ?_ | with_reducible refine S.skip ?_ | (apply S.condQ; apply rfl; all_goals (intro _; try (exfalso; first | omega | with_reducible contradiction))) | (with_reducible apply T.ofRet) | fail)
      refine T.call rfl rfl (bdString_spec hps) ?_
      rintro _ _ ⟨rfl, rfl⟩
      repeat' (first | (apply T.asn; apply rfl; apply rfl) | with_reducible refine Sr.nil ?_ | (apply T.retW; apply rfl) | (with_reducible apply T.ofRet) | fail)
      exact ⟨_, PSub.refl _, rfl, rfl⟩
end
end Go.Proofs.YtnimcchalinihaaDoor
/- The compact tokens of a JSON form, in plain Lean; by the program's way and by the document's. -/
namespace Sg
def nPay : List UInt8 := [112, 97, 121, 108, 111, 97, 100]
def nPro : List UInt8 := [112, 114, 111, 116, 101, 99, 116, 101, 100]
def nSig : List UInt8 := [115, 105, 103, 110, 97, 116, 117, 114, 101]
def nSigs : List UInt8 := [115, 105, 103, 110, 97, 116, 117, 114, 101, 115]
/- By the program's way. -/
end Sg
/- A text in parts: pieces between signs, in plain Lean; that the library's ways to ask say the same. -/
namespace Sg
open Go
/-- The pieces of a text between signs c. -/
def pieces (c : UInt8) : List UInt8 → List (List UInt8)
  | [] => [[]]
  | b :: r => if b = c then [] :: pieces c r else ((b :: (pieces c r).headD []) :: (pieces c r).tail)
theorem pieces_ne (c : UInt8) (s : List UInt8) : pieces c s ≠ [] := by
  cases s with
  | nil => simp [pieces]
  | cons b r => unfold pieces; split <;> simp
theorem pieces_cons (c : UInt8) (s : List UInt8) : (pieces c s).headD [] :: (pieces c s).tail = pieces c s := by
  have := pieces_ne c s
  cases h : pieces c s with
  | nil => exact absurd h this
  | cons p r => rfl
theorem pieces_snoc (c : UInt8) : ∀ (s : List UInt8) (b : UInt8) (ps : List (List UInt8)) (l : List UInt8), pieces c s = ps ++ [l] → pieces c (s ++ [b]) = if b = c then ps ++ [l] ++ [[]] else ps ++ [l ++ [b]]
  | [], b, ps, l, h => by
    have h1 : ps = [] ∧ l = [] := by
      simp only [pieces] at h
      cases ps with
      | nil => simpa using h.symm
      | cons p r => simp at h
    obtain ⟨rfl, rfl⟩ := h1
    by_cases hb : b = c <;> simp [pieces, hb]
  | a :: r, b, ps, l, h => by
    obtain ⟨qs, m, hq⟩ : ∃ qs m, pieces c r = qs ++ [m] := ⟨_, _, (List.dropLast_concat_getLast (pieces_ne c r)).symm⟩
    have ih := pieces_snoc c r b qs m hq
    by_cases ha : a = c
    · subst ha
      have e : ∀ s, pieces a (a :: s) = [] :: pieces a s := fun s => by rw [pieces, if_pos rfl]
      rw [e, hq] at h
      rw [List.cons_append, e, ih]
      obtain ⟨rfl, rfl⟩ : ps = [] :: qs ∧ l = m := by
        rw [show [] :: (qs ++ [m]) = ([] :: qs) ++ [m] from rfl] at h
        have := List.append_inj' h rfl
        exact ⟨this.1.symm, by simpa using this.2.symm⟩
      split <;> rfl
    · have e : ∀ s, pieces c (a :: s) = (a :: (pieces c s).headD []) :: (pieces c s).tail := fun s => by rw [pieces, if_neg ha]
      rw [e, hq] at h
      rw [List.cons_append, e, ih]
      cases qs with
      | nil =>
        simp only [List.nil_append, List.headD_cons, List.tail_cons] at h
        obtain ⟨rfl, rfl⟩ : ps = [] ∧ l = a :: m := by
          cases ps with
          | nil => simpa using h.symm
          | cons p r => simp at h
        split <;> rfl
      | cons q qs =>
        simp only [List.cons_append, List.headD_cons, List.tail_cons] at h
        obtain ⟨rfl, rfl⟩ : ps = (a :: q) :: qs ∧ l = m := by
          rw [show (a :: q) :: (qs ++ [m]) = ((a :: q) :: qs) ++ [m] from rfl] at h
          have := List.append_inj' h rfl
          exact ⟨this.1.symm, by simpa using this.2.symm⟩
        split <;> rfl
theorem pieces_join (c : UInt8) : ∀ s, (pieces c s).flatMap (· ++ [c]) = s ++ [c]
  | [] => by simp [pieces]
  | b :: r => by
    have ih := pieces_join c r
    rw [← pieces_cons c r, List.flatMap_cons] at ih
    by_cases hb : b = c
    · rw [pieces, if_pos hb, List.flatMap_cons, ← pieces_cons c r, List.flatMap_cons, ih, hb]
      rfl
    · rw [pieces, if_neg hb, List.flatMap_cons, List.cons_append, List.cons_append, ih]
      rfl
theorem index_one_ne {b c : UInt8} (l : List UInt8) (h : b ≠ c) : Lib.index (b :: l) [c] = if Lib.index l [c] = -1 then -1 else Lib.index l [c] + 1 := by
  rw [Lib.index]
  have : ([c] : List UInt8).isPrefixOf (b :: l) = false := by simp [List.isPrefixOf, Ne.symm h]
  rw [this]
  simp
theorem index_one_eq (c : UInt8) (l : List UInt8) : Lib.index (c :: l) [c] = 0 := by
  rw [Lib.index]
  simp [List.isPrefixOf]
theorem splitK_ne {b c : UInt8} (h : b ≠ c) : ∀ (k : Nat) (l : List UInt8), Lib.splitK [c] 0 k (b :: l) = (b :: (Lib.splitK [c] 0 k l).headD []) :: (Lib.splitK [c] 0 k l).tail
  | 0, l => by simp [Lib.splitK]
  | k + 1, l => by
    have hg := Lib.index_ge l [c]
    rw [Lib.splitK, Lib.splitK, index_one_ne l h]
    by_cases h1 : Lib.index l [c] = -1
    · simp [h1]
    · obtain ⟨j, hj⟩ : ∃ j : Nat, Lib.index l [c] = (j : Int) := ⟨(Lib.index l [c]).toNat, by omega⟩
      have e1 : ((j : Int) + 1 == -1) = false := by rw [beq_eq_false_iff_ne]; omega
      have e2 : ((j : Int) == -1) = false := by rw [beq_eq_false_iff_ne]; omega
      have e3 : ¬ (j : Int) = -1 := by omega
      have e4 : ((j : Int) + 1).toNat = j + 1 := by omega
      rw [hj, if_neg e3, e1, e2, e4, Int.toNat_natCast]
      simp only [Bool.false_eq_true, if_false, Nat.add_zero, List.take_succ_cons, List.headD_cons, List.tail_cons, List.length_cons, List.length_nil]
      rw [show j + 1 + (0 + 1) = (j + (0 + 1)) + 1 from rfl, List.drop_succ_cons]
theorem split_pieces (c : UInt8) : ∀ s, Lib.split s [c] = pieces c s
  | [] => by
    have : Lib.count ([] : List UInt8) [c] = 0 := by rw [Lib.count_one]; rfl
    rw [Lib.split, this]
    rfl
  | b :: l => by
    have ih := split_pieces c l
    rw [Lib.split] at ih ⊢
    by_cases hb : b = c
    · subst hb
      rw [Lib.count_cons_eq, Nat.add_comm, Lib.splitK, index_one_eq, pieces, if_pos rfl, ← ih]
      simp
    · rw [Lib.count_cons_ne b c l hb, splitK_ne hb, pieces, if_neg hb, ih]
end Sg
/- The general form of tokens, in plain Lean. -/
namespace Sg
open Go
theorem pieces_count (c : UInt8) : ∀ s, (pieces c s).length = s.count c + 1
  | [] => rfl
  | b :: r => by
    have ih := pieces_count c r
    rw [← pieces_cons c r, List.length_cons] at ih
    by_cases hb : b = c
    · subst hb
      rw [pieces, if_pos rfl, List.length_cons, ← pieces_cons b r, List.length_cons, List.count_cons_self, ih]
    · rw [pieces, if_neg hb, List.length_cons, List.count_cons_of_ne hb, ih]
theorem list3 {α : Type} {d : α} {l : List α} (h : l.length = 3) : l = [l.getD 0 d, l.getD 1 d, l.getD 2 d] := by
  match l, h with
  | [_, _, _], _ => rfl
abbrev pc (s : List UInt8) (i : Nat) : List UInt8 := (pieces 46 s).getD i []
theorem pieces3 {s : List UInt8} (h : (pieces 46 s).length = 3) : pieces 46 s = [pc s 0, pc s 1, pc s 2] := list3 h
theorem pieces3_len {s : List UInt8} (h : (pieces 46 s).length = 3) : (pc s 0).length + (pc s 1).length + (pc s 2).length + 2 = s.length := by
  have h1 := congrArg List.length (pieces_join 46 s)
  rw [pieces3 h] at h1
  simp only [List.flatMap_cons, List.flatMap_nil, List.length_append, List.length_cons, List.length_nil] at h1
  omega
def strNd (k t : List UInt8) : Nd := ⟨5, k, t, false, 0, 0⟩
def obj2 : Nd := ⟨7, [], [], false, 0, 2⟩
def tri (s : List UInt8) : List Nd := [obj2, strNd nPro (pc s 0), strNd nSig (pc s 2)]
def genH (n : Nat) (x : Nd) : List Nd := [obj2, x, ⟨6, nSigs, [], false, 0, (n : Int)⟩]
def genV (ts : List (List UInt8)) (pay : List UInt8) : List Nd := genH ts.length (strNd nPay pay) ++ ts.flatMap tri
/-- Is it a token whose payload is this? -/
def okT (pay s : List UInt8) : Prop := (pieces 46 s).length = 3 ∧ Lib.validD s = true ∧ pc s 1 = pay
instance (pay s : List UInt8) : Decidable (okT pay s) := inferInstanceAs (Decidable (_ ∧ _))
def payOf (ts : List (List UInt8)) : List UInt8 := pc (ts.getD 0 []) 1
def gnX (ts : List (List UInt8)) : List UInt8 × Int :=
  if ts.length < 1 ∨ 16 < ts.length then ([], 140) else if ∀ s ∈ ts, okT (payOf ts) s then printX Lib.validD (genV ts (payOf ts)) else ([], 140)
theorem shaped_one (s : List UInt8) : shapedX Lib.validD [strNd [] s] = Lib.validD s := by
  have hp : plainX Lib.validD (strNd [] s) = Lib.validD s := by
    unfold plainX strNd
    simp
  unfold shapedX
  cases hv : Lib.validD s with
  | false =>
    rw [hv] at hp
    simp only [shM]
    rw [if_pos hp]
  | true =>
    rw [hv] at hp
    have h1 : ¬ plainX Lib.validD (strNd [] s) = false := by rw [hp]; simp
    simp only [shM]
    rw [if_neg h1]
    rfl
def tot : List (List UInt8) → Nat
  | [] => 0
  | s :: r => s.length + tot r
theorem tot_mem {s : List UInt8} : ∀ {ts : List (List UInt8)}, s ∈ ts → s.length ≤ tot ts
  | _ :: r, h => by
    rcases List.mem_cons.1 h with rfl | h
    · rw [tot]; omega
    · have := tot_mem h
      rw [tot]; omega
theorem wL_tri {s : List UInt8} (h : (pieces 46 s).length = 3) : wL (tri s) ≤ 6 * s.length + 168 := by
  have := pieces3_len h
  simp only [tri, wL, wN, strNd, obj2, nPro, nSig, List.length_cons, List.length_nil]
  omega
theorem wL_tris : ∀ {ts : List (List UInt8)}, (∀ s ∈ ts, (pieces 46 s).length = 3) → wL (ts.flatMap tri) ≤ 6 * tot ts + 168 * ts.length
  | [], _ => Nat.le_refl _
  | s :: r, h => by
    have h1 := wL_tri (h s (List.mem_cons_self ..))
    have h2 := wL_tris fun x hx => h x (List.mem_cons_of_mem _ hx)
    rw [List.flatMap_cons, wL_app, tot, List.length_cons]
    omega
theorem wL_gen {ts : List (List UInt8)} {pay : List UInt8} (h : ∀ s ∈ ts, (pieces 46 s).length = 3) : wL (genV ts pay) ≤ 6 * pay.length + 6 * tot ts + 168 * ts.length + 200 := by
  have := wL_tris h
  rw [genV, wL_app]
  simp only [genH, wL, wN, strNd, obj2, nPay, nSigs, List.length_cons, List.length_nil]
  omega
theorem genV_tx {ts : List (List UInt8)} {pay : List UInt8} {B : Nat} (h : ∀ s ∈ ts, (pieces 46 s).length = 3) (hb : ∀ s ∈ ts, s.length ≤ B) (hp : pay.length ≤ B) (hn : (ts.length : Int) ≤ 16) : ∀ x ∈ genV ts pay, x.kind ≠ 4 ∧ x.text.length ≤ B ∧ x.key.length ≤ 10 ∧ x.kids ≤ 16 := by
  intro x hx
  rcases List.mem_append.1 hx with hx | hx
  · simp only [genH, List.mem_cons, List.not_mem_nil, or_false] at hx
    rcases hx with rfl | rfl | rfl
    · simp [obj2]
    · simp [strNd, nPay, hp]
    · simp [nSigs, hn]
  · obtain ⟨s, hs, hx⟩ := List.mem_flatMap.1 hx
    have h3 := pieces3_len (h s hs)
    have h4 := hb s hs
    simp only [tri, List.mem_cons, List.not_mem_nil, or_false] at hx
    rcases hx with rfl | rfl | rfl
    · simp [obj2]
    · show (5 : Int) ≠ 4 ∧ (pc s 0).length ≤ B ∧ nPro.length ≤ 10 ∧ (0 : Int) ≤ 16
      exact ⟨by decide, by omega, by decide, by decide⟩
    · show (5 : Int) ≠ 4 ∧ (pc s 2).length ≤ B ∧ nSig.length ≤ 10 ∧ (0 : Int) ≤ 16
      exact ⟨by decide, by omega, by decide, by decide⟩
theorem tris_len (ts : List (List UInt8)) : (ts.flatMap tri).length = 3 * ts.length := by
  induction ts with
  | nil => rfl
  | cons s r ih => rw [List.flatMap_cons, List.length_append, ih, List.length_cons]; show 3 + _ = _; omega
theorem genV_len (ts : List (List UInt8)) (pay : List UInt8) : (genV ts pay).length = 3 + 3 * ts.length := by
  have : (ts.flatMap tri).length = 3 * ts.length := by
    induction ts with
    | nil => rfl
    | cons s r ih => rw [List.flatMap_cons, List.length_append, ih, List.length_cons]; show 3 + _ = _; omega
  rw [genV, List.length_append, this]
  rfl
end Sg
/- The library's contracts, laid at this program (printed by the kit's tools lay-shelf and lay-plain, cut out by a program). -/
namespace Go.Proofs
open Go.Shelf
def Tryd.lays146_ren : Go.Shelf.Ren := ⟨fun | 146 => 15 | 221 => 33 | 268 => 49 | 138 => 50 | 143 => 51 | 195 => 77 | 197 => 78 | 218 => 79 | 219 => 80 | 260 => 103 | 217 => 104 | 225 => 105 | 224 => 106 | 267 => 107 | 266 => 122 | 314 => 123 | n => n, fun | 9 => 9 | 31 => 22 | 3 => 3 | 4 => 4 | 0 => 0 | 105 => 138 | 21 => 21 | 5 => 5 | 46 => 79 | 119 => 75 | 139 => 78 | 138 => 77 | 146 => 172 | 51 => 51 | n => n, fun | 1 => 2 | 3 => 0 | 4 => 1 | n => n⟩
theorem Tryd.lays146 : Go.Proofs.Lays.n146 Tryd.prog Tryd.lays146_ren := {
  mixed := by kernel_rfl
  f138 := Tryd.func50.trans (congrArg some (by kernel_rfl))
  f143 := Tryd.func51.trans (congrArg some (by kernel_rfl))
  f146 := Tryd.func15.trans (congrArg some (by kernel_rfl))
  f195 := Tryd.func77.trans (congrArg some (by kernel_rfl))
  f197 := Tryd.func78.trans (congrArg some (by kernel_rfl))
  f217 := Tryd.func104.trans (congrArg some (by kernel_rfl))
  f218 := Tryd.func79.trans (congrArg some (by kernel_rfl))
  f219 := Tryd.func80.trans (congrArg some (by kernel_rfl))
  f221 := Tryd.func33.trans (congrArg some (by kernel_rfl))
  f224 := Tryd.func106.trans (congrArg some (by kernel_rfl))
  f225 := Tryd.func105.trans (congrArg some (by kernel_rfl))
  f260 := Tryd.func103.trans (congrArg some (by kernel_rfl))
  f266 := Tryd.func122.trans (congrArg some (by kernel_rfl))
  f267 := Tryd.func107.trans (congrArg some (by kernel_rfl))
  f268 := Tryd.func49.trans (congrArg some (by kernel_rfl))
  f314 := Tryd.func123.trans (congrArg some (by kernel_rfl))
  t0 := Tryd.underlying0
  a0 := Tryd.isAgg0
  z0 := Tryd.sizeOf0
  v0 := Tryd.zeroValue0
  t3 := Tryd.underlying3
  a3 := Tryd.isAgg3
  z3 := Tryd.sizeOf3
  v3 := Tryd.zeroValue3
  t4 := Tryd.underlying4
  a4 := Tryd.isAgg4
  z4 := Tryd.sizeOf4
  v4 := Tryd.zeroValue4
  t5 := Tryd.underlying5
  a5 := Tryd.isAgg5
  z5 := Tryd.sizeOf5
  v5 := Tryd.zeroValue5
  t9 := Tryd.underlying9
  a9 := Tryd.isAgg9
  z9 := Tryd.sizeOf9
  v9 := Tryd.zeroValue9
  t21 := Tryd.underlying21
  a21 := Tryd.isAgg21
  z21 := Tryd.sizeOf21
  v21 := Tryd.zeroValue21
  t31 := Tryd.underlying22
  a31 := Tryd.isAgg22
  z31 := Tryd.sizeOf22
  v31 := Tryd.zeroValue22
  t46 := Tryd.underlying79
  a46 := Tryd.isAgg79
  z46 := Tryd.sizeOf79
  v46 := Tryd.zeroValue79
  t51 := Tryd.underlying51
  a51 := Tryd.isAgg51
  z51 := Tryd.sizeOf51
  v51 := Tryd.zeroValue51
  t105 := Tryd.underlying138
  a105 := Tryd.isAgg138
  z105 := Tryd.sizeOf138
  v105 := Tryd.zeroValue138
  t119 := Tryd.underlying75
  a119 := Tryd.isAgg75
  z119 := Tryd.sizeOf75
  t138 := Tryd.underlying77
  a138 := Tryd.isAgg77
  z138 := Tryd.sizeOf77
  v138 := Tryd.zeroValue77
  t139 := Tryd.underlying78
  a139 := Tryd.isAgg78
  z139 := Tryd.sizeOf78
  v139 := Tryd.zeroValue78
  t146 := Tryd.underlying172
  a146 := Tryd.isAgg172
  z146 := Tryd.sizeOf172
  v146 := Tryd.zeroValue172
  g1 := by kernel_rfl
  g3 := by kernel_rfl
  g4 := by kernel_rfl }
open Go.RowKit Go.Lib in
/-- strings.Split. (LAID: no walk: one application.) -/
theorem Tryd.strings_Split (s sep : ByteArray) (m : Int) (w : World) (hs : s.size < 4294967281) (hm : w.cell? ⟨2, 0, none⟩ = some (.int .i64 m)) (h1 : 1 ≤ sep.size) :
    Calls Tryd.prog 15 #[.string s, .string sep] w fun e w' =>
      e = .returned (.slice (some ⟨w.heap.size, 0, none⟩) (Lib.countB s sep + 1) (Lib.countB s sep + 1)) ∧ w' = w.alloc (.cells ((Lib.splitB sep 0 (Lib.countB s sep) s).map Value.string).toArray 9) := Any.strings_Split Tryd.lays146 (by kernel_rfl) s sep m w hs hm h1
end Go.Proofs
