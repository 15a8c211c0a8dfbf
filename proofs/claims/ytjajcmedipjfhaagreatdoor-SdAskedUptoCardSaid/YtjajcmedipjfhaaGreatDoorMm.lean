/- Texts put together by a program: AskP AskQ AskR AskS AskT AskU PlnC AskW LawS SdT. -/
import Derived.Test.YtjajcmedipjfhaaGreatDoorMl
import Derived.Test.YtjajcmedipjfhaaGreatDoorMa
import Derived.Handed
import Derived.Shelf.Vars
import Derived.Test.YtjajcmedipjfhaaGreatDoorMj
import Derived.Test.YtjajcmedipjfhaaGreatDoorMd
import Derived.Test.YtjajcmedipjfhaaGreatDoorRows
import Derived.Lay
import Derived.ChangeMaps5
/- What is revealed has nothing of the format left; plain. -/
namespace Sg
open Go.Lib
def Own (k : List UInt8) : Prop := k ≠ sdN ∧ k ≠ dotsN
def BareV (val : RevV) : Prop := ∀ met x key m y, Vl x → Own key → val met x key = some (m, y) → Bare y
def LOwn (L : List Said) : Prop := ∀ s ∈ L, Vl s.value ∧ Own s.name
theorem own_nil : Own [] := ⟨by decide, by decide⟩
theorem bare_snoc {ys : List (List Nd)} {y : List Nd} (hy : ∀ z ∈ ys, Bare z) (h : Bare y) : ∀ z ∈ ys ++ [y], Bare z := fun z hz => (List.mem_append.1 hz).elim (hy z) fun e => by rw [List.mem_singleton.1 e]; exact h
theorem items_bare {val : RevV} {L : List Said} (hv : BareV val) (hL : LOwn L) : ∀ (r : List (List Nd)) (met : List Dg) (ys : List (List Nd)) (m : List Dg) (zs : List (List Nd)), (∀ y ∈ r, Vl y) → (∀ y ∈ ys, Bare y) → itemsA val L met ys r = some (m, zs) → ∀ y ∈ zs, Bare y
 | [], met, ys, m, zs, _, hy, h => by
  rw [itemsA] at h
  cases h
  exact hy
 | x :: r, met, ys, m, zs, hr, hy, h => by
  have hx := hr x (List.mem_cons_self ..)
  have hr' : ∀ y ∈ r, Vl y := fun y h => hr y (List.mem_cons_of_mem _ h)
  rw [itemsA] at h
  split at h
  ·split at h
   ·cases h
   ·rename_i m1 y h1
    exact items_bare hv hL r m1 _ m zs hr' (bare_snoc hy (hv _ _ _ _ _ hx own_nil h1)) h
  ·split at h
   ·split at h
    ·exact items_bare hv hL r _ ys m zs hr' hy h
    ·rename_i s hs
     obtain ⟨hs1, hs2⟩ := findS_some hs
     split at h
     ·cases h
     ·split at h
      ·exact items_bare hv hL r _ ys m zs hr' hy h
      ·split at h
       ·cases h
       ·rename_i m1 y h1
        exact items_bare hv hL r m1 _ m zs hr' (bare_snoc hy (hv _ _ _ _ _ (hL s hs1).1 own_nil h1)) h
   ·cases h
theorem members_bare {val : RevV} {L : List Said} (hv : BareV val) {top : Bool} : ∀ (r : List (List Nd)) (met : List Dg) (ys : List (List Nd)) (m : List Dg) (zs : List (List Nd)), (∀ y ∈ r, Vl y ∧ (headN y).key ≠ dotsN) → (∀ y ∈ ys, Bare y) → membersA val top met ys r = some (m, zs) → ∀ y ∈ zs, Bare y
 | [], met, ys, m, zs, _, hy, h => by
  rw [membersA] at h
  cases h
  exact hy
 | x :: r, met, ys, m, zs, hr, hy, h => by
  have hx := hr x (List.mem_cons_self ..)
  have hr' : ∀ y ∈ r, Vl y ∧ (headN y).key ≠ dotsN := fun y h => hr y (List.mem_cons_of_mem _ h)
  rw [membersA] at h
  split at h
  ·exact members_bare (L := L) hv r _ ys m zs hr' hy h
  ·rename_i hk
   split at h
   ·exact members_bare (L := L) hv r _ ys m zs hr' hy h
   ·split at h
    ·cases h
    ·rename_i m1 y h1
     exact members_bare (L := L) hv r m1 _ m zs hr' (bare_snoc hy (hv _ _ _ _ _ hx.1 ⟨hk, hx.2⟩ h1)) h
theorem discl_bare {val : RevV} {L : List Said} (hv : BareV val) (hL : LOwn L) : ∀ (r : List (List Nd)) (met : List Dg) (ns : List (List UInt8)) (ys : List (List Nd)) (m : List Dg) (zs : List (List Nd)), (∀ y ∈ ys, Bare y) → disclA val L met ns ys r = some (m, zs) → ∀ y ∈ zs, Bare y
 | [], met, ns, ys, m, zs, hy, h => by
  rw [disclA] at h
  cases h
  exact hy
 | x :: r, met, ns, ys, m, zs, hy, h => by
  rw [disclA] at h
  split at h
  ·split at h
   ·exact discl_bare hv hL r _ _ ys m zs hy h
   ·rename_i s hs
    obtain ⟨hs1, hs2⟩ := findS_some hs
    split at h
    ·split at h
     ·exact discl_bare hv hL r _ _ ys m zs hy h
     ·split at h
      ·cases h
      ·rename_i m1 y h1
       exact discl_bare hv hL r m1 _ _ m zs (bare_snoc hy (hv _ _ _ _ _ (hL s hs1).1 (hL s hs1).2 h1)) h
    ·cases h
  ·cases h
theorem row_bare {kind : Int} {key : List UInt8} {ys : List (List Nd)} (hk : Own key) (h : ∀ y ∈ ys, Bare y) : Bare (rowN kind key ys) := fun n hn => by
 rcases List.mem_cons.1 hn with rfl | hn
 ·exact hk
 ·obtain ⟨y, h1, h2⟩ := List.mem_flatten.1 hn
  exact h y h1 n h2
theorem rev_bare {L : List Said} (hL : LOwn L) : ∀ (f : Nat) (top : Bool), BareV (revV f L top)
 | 0, top => fun met x key m y _ _ h => by cases h
 | f + 1, top => fun met x key m y hx hk h => by
  have ih := rev_bare hL f false
  have hkk := hx.kids
  rw [revV] at h
  simp only at h
  split at h
  ·rename_i k7
   split at h
   ·cases h
   ·rename_i hd
    have hdots : ∀ y ∈ kidsOf x 0, Vl y ∧ (headN y).key ≠ dotsN := fun y hy => ⟨hkk y hy, fun e => by
     unfold memV at hd
     rw [if_pos k7, List.find?_eq_none] at hd
     exact hd y hy (by simp [e])⟩
    split at h
    ·cases h
    ·rename_i m1 ys h1
     have h2 := members_bare (L := L) ih (kidsOf x 0) met [] m1 ys hdots (fun y hy => by cases hy) h1
     split at h
     ·cases h
      exact row_bare hk h2
     ·split at h
      ·split at h
       ·cases h
       ·rename_i m2 zs h5
        have h6 := discl_bare ih hL _ _ _ _ _ _ h2 h5
        cases h
        exact row_bare hk h6
      ·cases h
  ·split at h
   ·split at h
    ·cases h
    ·rename_i m1 ys h1
     have h2 := items_bare ih hL (kidsOf x 0) met [] m1 ys hkk (fun y hy => by cases hy) h1
     cases h
     exact row_bare hk h2
   ·cases h
    intro n hn
    obtain rfl := List.mem_singleton.1 hn
    exact hk
end Sg
/- Each digest that is met stands in the payload, or in what was opened ahead of it; plain. -/
namespace Sg
def StandsX (x : List Nd) (d : Dg) : Prop := ∃ n ∈ x, n.kind = 5 ∧ n.text = d
def Src (v : List Nd) (L : List Said) (met : List Dg) (d : Dg) : Prop := StandsX v d ∨ ∃ s ∈ L, s.dig ∈ met ∧ StandsX s.value d
def Placed (v : List Nd) (L : List Said) (met : List Dg) : Prop := ∀ m1 d m2, met = m1 ++ d :: m2 → Src v L m1 d
theorem Src.more {v : List Nd} {L : List Said} {met : List Dg} {d : Dg} (h : Src v L met d) (r : List Dg) : Src v L (met ++ r) d := by
 rcases h with h | ⟨s, h1, h2, h3⟩
 ·exact .inl h
 ·exact .inr ⟨s, h1, List.mem_append_left _ h2, h3⟩
theorem Placed.snoc {v : List Nd} {L : List Said} {met : List Dg} {d : Dg} (h : Placed v L met) (hd : Src v L met d) : Placed v L (met ++ [d]) := fun m1 e m2 he => by
 rcases List.eq_nil_or_concat m2 with rfl | ⟨m3, z, rfl⟩
 ·obtain ⟨rfl, h2⟩ := List.append_inj' he rfl
  cases h2
  exact hd
 ·rw [List.concat_eq_append, ← List.cons_append, ← List.append_assoc] at he
  obtain ⟨rfl, -⟩ := List.append_inj' he rfl
  exact h _ _ _ rfl
def SrcAll (v : List Nd) (L : List Said) (met : List Dg) (x : List Nd) : Prop := ∀ d, StandsX x d → Src v L met d
theorem SrcAll.more {v : List Nd} {L : List Said} {met : List Dg} {x : List Nd} (h : SrcAll v L met x) (r : List Dg) : SrcAll v L (met ++ r) x := fun d hd => (h d hd).more r
theorem SrcAll.sub {v : List Nd} {L : List Said} {met : List Dg} {x y : List Nd} (h : SrcAll v L met x) (hs : ∀ n ∈ y, n ∈ x) : SrcAll v L met y := fun d ⟨n, h1, h2⟩ => h d ⟨n, hs n h1, h2⟩
theorem SrcAll.opened {v : List Nd} {L : List Said} {met : List Dg} {s : Said} (hs : s ∈ L) (hm : s.dig ∈ met) : SrcAll v L met s.value := fun _ hd => .inr ⟨s, hs, hm, hd⟩
theorem SrcAll.head {v : List Nd} {L : List Said} {met : List Dg} {x : List Nd} (h : SrcAll v L met x) (hx : Vl x) (hk : (headN x).kind = 5) : Src v L met (headN x).text := h _ ⟨_, head_mem hx.1, hk, rfl⟩
def PlacesV (v : List Nd) (L : List Said) (val : RevV) : Prop := ∀ met x key m y, Vl x → SrcAll v L met x → Placed v L met → val met x key = some (m, y) → Placed v L m ∧ ∃ r, m = met ++ r
theorem memV_mem {x k : List Nd} {key : List UInt8} (h : memV x key = some k) : k ∈ kidsOf x 0 := by
 unfold memV at h
 split at h
 ·exact List.mem_of_find?_eq_some h
 ·cases h
theorem kid_in {x y : List Nd} (hx : Vl x) (hy : y ∈ kidsOf x 0) : ∀ n ∈ y, n ∈ x := kid_sub (kids_size hx.1).2.2.1 hy
theorem items_places {v : List Nd} {L : List Said} {val : RevV} (hv : PlacesV v L val) (hL : ∀ s ∈ L, Vl s.value) : ∀ (r : List (List Nd)) (met : List Dg) (ys : List (List Nd)) (m : List Dg) (zs : List (List Nd)), (∀ y ∈ r, Vl y ∧ SrcAll v L met y) → Placed v L met → itemsA val L met ys r = some (m, zs) → Placed v L m ∧ ∃ r, m = met ++ r
 | [], met, ys, m, zs, _, hp, h => by
  rw [itemsA] at h
  cases h
  exact ⟨hp, [], by simp⟩
 | x :: r, met, ys, m, zs, hr, hp, h => by
  obtain ⟨hx, hsx⟩ := hr x (List.mem_cons_self ..)
  have hr' : ∀ {e} (ys' : List (List Nd)), Placed v L (met ++ e) → itemsA val L (met ++ e) ys' r = some (m, zs) → Placed v L m ∧ ∃ r, m = met ++ r := fun {e} ys' hp' h' => by
   obtain ⟨h1, u, rfl⟩ := items_places hv hL r (met ++ e) ys' m zs (fun y hy => ⟨(hr y (List.mem_cons_of_mem _ hy)).1, (hr y (List.mem_cons_of_mem _ hy)).2.more e⟩) hp' h'
   exact ⟨h1, e ++ u, by rw [List.append_assoc]⟩
  rw [itemsA] at h
  split at h
  ·split at h
   ·cases h
   ·rename_i m1 y h1
    obtain ⟨h2, e, rfl⟩ := hv _ _ _ _ _ hx hsx hp h1
    exact hr' _ h2 h
  ·rename_i k hk
   have hkm := memV_mem hk
   split at h
   ·rename_i h5
    have hsrc : Src v L met (headN k).text := (hsx.sub (kid_in hx hkm)).head (hx.kids k hkm) h5.2
    split at h
    ·exact hr' _ (hp.snoc hsrc) h
    ·rename_i s hs
     obtain ⟨hs1, hs2⟩ := findS_some hs
     split at h
     ·cases h
     ·split at h
      ·exact hr' _ (hp.snoc hsrc) h
      ·split at h
       ·cases h
       ·rename_i m1 y h1
        obtain ⟨h2, e, rfl⟩ := hv _ _ _ _ _ (hL s hs1) (SrcAll.opened hs1 (by rw [hs2]; simp)) (hp.snoc hsrc) h1
        rw [List.append_assoc] at h h2
        exact hr' _ h2 h
   ·cases h
theorem members_places {v : List Nd} {L : List Said} {val : RevV} (hv : PlacesV v L val) {top : Bool} : ∀ (r : List (List Nd)) (met : List Dg) (ys : List (List Nd)) (m : List Dg) (zs : List (List Nd)), (∀ y ∈ r, Vl y ∧ SrcAll v L met y) → Placed v L met → membersA val top met ys r = some (m, zs) → Placed v L m ∧ ∃ r, m = met ++ r
 | [], met, ys, m, zs, _, hp, h => by
  rw [membersA] at h
  cases h
  exact ⟨hp, [], by simp⟩
 | x :: r, met, ys, m, zs, hr, hp, h => by
  obtain ⟨hx, hsx⟩ := hr x (List.mem_cons_self ..)
  have hr0 : ∀ y ∈ r, Vl y ∧ SrcAll v L met y := fun y hy => hr y (List.mem_cons_of_mem _ hy)
  rw [membersA] at h
  split at h
  ·exact members_places hv r met ys m zs hr0 hp h
  ·split at h
   ·exact members_places hv r met ys m zs hr0 hp h
   ·split at h
    ·cases h
    ·rename_i m1 y h1
     obtain ⟨h2, e, rfl⟩ := hv _ _ _ _ _ hx hsx hp h1
     obtain ⟨h3, u, rfl⟩ := members_places hv r (met ++ e) _ m zs (fun y hy => ⟨(hr0 y hy).1, (hr0 y hy).2.more e⟩) h2 h
     exact ⟨h3, e ++ u, by rw [List.append_assoc]⟩
theorem discl_places {v : List Nd} {L : List Said} {val : RevV} (hv : PlacesV v L val) (hL : ∀ s ∈ L, Vl s.value) : ∀ (r : List (List Nd)) (met : List Dg) (ns : List (List UInt8)) (ys : List (List Nd)) (m : List Dg) (zs : List (List Nd)), (∀ y ∈ r, Vl y ∧ SrcAll v L met y) → Placed v L met → disclA val L met ns ys r = some (m, zs) → Placed v L m ∧ ∃ r, m = met ++ r
 | [], met, ns, ys, m, zs, _, hp, h => by
  rw [disclA] at h
  cases h
  exact ⟨hp, [], by simp⟩
 | x :: r, met, ns, ys, m, zs, hr, hp, h => by
  obtain ⟨hx, hsx⟩ := hr x (List.mem_cons_self ..)
  have hr' : ∀ {e ns'} (ys' : List (List Nd)), Placed v L (met ++ e) → disclA val L (met ++ e) ns' ys' r = some (m, zs) → Placed v L m ∧ ∃ r, m = met ++ r := fun {e ns'} ys' hp' h' => by
   obtain ⟨h1, u, rfl⟩ := discl_places hv hL r (met ++ e) ns' ys' m zs (fun y hy => ⟨(hr y (List.mem_cons_of_mem _ hy)).1, (hr y (List.mem_cons_of_mem _ hy)).2.more e⟩) hp' h'
   exact ⟨h1, e ++ u, by rw [List.append_assoc]⟩
  rw [disclA] at h
  split at h
  ·rename_i h5
   have hsrc : Src v L met (headN x).text := hsx.head hx h5
   split at h
   ·exact hr' _ (hp.snoc hsrc) h
   ·rename_i s hs
    obtain ⟨hs1, hs2⟩ := findS_some hs
    split at h
    ·split at h
     ·exact hr' _ (hp.snoc hsrc) h
     ·split at h
      ·cases h
      ·rename_i m1 y h1
       obtain ⟨h2, e, rfl⟩ := hv _ _ _ _ _ (hL s hs1) (SrcAll.opened hs1 (by rw [hs2]; simp)) (hp.snoc hsrc) h1
       rw [List.append_assoc] at h h2
       exact hr' _ h2 h
    ·cases h
  ·cases h
theorem rev_places {v : List Nd} {L : List Said} (hL : ∀ s ∈ L, Vl s.value) : ∀ (f : Nat) (top : Bool), PlacesV v L (revV f L top)
 | 0, top => fun met x key m y _ _ _ h => by cases h
 | f + 1, top => fun met x key m y hx hs hp h => by
  have ih : PlacesV v L (revV f L false) := rev_places hL f false
  have hkk : ∀ y ∈ kidsOf x 0, Vl y ∧ SrcAll v L met y := fun y hy => ⟨hx.kids y hy, hs.sub (kid_in hx hy)⟩
  rw [revV] at h
  simp only at h
  split at h
  ·split at h
   ·cases h
   ·split at h
    ·cases h
    ·rename_i m1 ys h1
     obtain ⟨h2, e, rfl⟩ := members_places ih (kidsOf x 0) met [] m1 ys hkk hp h1
     split at h
     ·cases h
      exact ⟨h2, e, rfl⟩
     ·rename_i hh hd
      have hm := (hidden_size hx.kids hd).2.2.1
      split at h
      ·split at h
       ·cases h
       ·rename_i m2 zs h5
        obtain ⟨h6, u, rfl⟩ := discl_places ih hL _ _ _ _ m2 zs (fun y hy => ⟨(hx.kids hh hm).kids y hy, ((hkk hh hm).2.sub (kid_in (hx.kids hh hm) hy)).more e⟩) h2 h5
        cases h
        exact ⟨h6, e ++ u, by rw [List.append_assoc]⟩
      ·cases h
  ·split at h
   ·split at h
    ·cases h
    ·rename_i m1 ys h1
     have h2 := items_places ih hL (kidsOf x 0) met [] m1 ys hkk hp h1
     cases h
     exact h2
   ·cases h
    exact ⟨hp, [], by simp⟩
end Sg
/- With one disclosure fewer less is revealed; plain. -/
namespace Sg
structure Less (L L' : List Said) (s0 : Said) : Prop where
 has : findS L s0.dig = some s0
 no : findS L' s0.dig = none
 same : ∀ d, d ≠ s0.dig → findS L' d = findS L d
def FewV (d0 : Dg) (val val' : RevV) : Prop := ∀ met met' x key m m' y y', Vl x → val met x key = some (m, y) → val' met' x key = some (m', y') → m.Nodup → m'.Nodup →
 ∃ r r', m = met ++ r ∧ m' = met' ++ r' ∧ (d0 ∈ r → d0 ∈ r') ∧ y'.length + r'.count d0 ≤ y.length ∧ 1 ≤ y.length
theorem pre_nodup {m a b : List Dg} (h : m = a ++ b) (hn : m.Nodup) : a.Nodup := by
 subst h
 exact (List.nodup_append.1 hn).1
theorem new_of {met r : List Dg} {d : Dg} (h : (met ++ [d] ++ r).Nodup) : d ∉ met := fun hm => by
 have h1 := (List.nodup_append.1 h).1
 exact (List.nodup_append.1 h1).2.2 d hm d (by simp) rfl
def GrowV (val : RevV) : Prop := ∀ met x key m y, Vl x → val met x key = some (m, y) → ∃ r, m = met ++ r
theorem items_few {d0 : Dg} {L L' : List Said} {s0 : Said} {val val' : RevV} (hd : d0 = s0.dig) (hl : Less L L' s0) (hv : FewV d0 val val') (hg : ∀ (r : List (List Nd)) (met : List Dg) (ys : List (List Nd)) (m : List Dg) (zs : List (List Nd)), (∀ y ∈ r, Vl y) → itemsA val L met ys r = some (m, zs) → ∃ q, m = met ++ q) (hg' : ∀ (r : List (List Nd)) (met : List Dg) (ys : List (List Nd)) (m : List Dg) (zs : List (List Nd)), (∀ y ∈ r, Vl y) → itemsA val' L' met ys r = some (m, zs) → ∃ q, m = met ++ q) (hgv : GrowV val) (hL : ∀ s ∈ L, Vl s.value) (hone : ∀ met x key m y, Vl x → val met x key = some (m, y) → 1 ≤ y.length) : ∀ (r : List (List Nd)) (met met' : List Dg) (ys ys' : List (List Nd)) (m m' : List Dg) (zs zs' : List (List Nd)), (∀ y ∈ r, Vl y) →
  itemsA val L met ys r = some (m, zs) → itemsA val' L' met' ys' r = some (m', zs') → m.Nodup → m'.Nodup → ∃ q q', m = met ++ q ∧ m' = met' ++ q' ∧ (d0 ∈ q → d0 ∈ q') ∧ zs'.flatten.length + q'.count d0 + ys.flatten.length ≤ zs.flatten.length + ys'.flatten.length
 | [], met, met', ys, ys', m, m', zs, zs', _, h, h', _, _ => by
  rw [itemsA] at h h'
  cases h
  cases h'
  exact ⟨[], [], by simp, by simp, id, by simp; omega⟩
 | x :: r, met, met', ys, ys', m, m', zs, zs', hr, h, h', hn, hn' => by
  have hx := hr x (List.mem_cons_self ..)
  have hr0 : ∀ y ∈ r, Vl y := fun y hy => hr y (List.mem_cons_of_mem _ hy)
  have ih := items_few hd hl hv hg hg' hgv hL hone r
  rw [itemsA] at h h'
  cases hm : memV x dotsN with
  | none =>
   rw [hm] at h h'
   simp only at h h'
   cases h1 : val met x [] with
   | none => rw [h1] at h; cases h
   | some p =>
    obtain ⟨m1, y⟩ := p
    rw [h1] at h
    simp only at h
    cases h1' : val' met' x [] with
    | none => rw [h1'] at h'; cases h'
    | some p' =>
     obtain ⟨m1', y'⟩ := p'
     rw [h1'] at h'
     simp only at h'
     obtain ⟨u, hu⟩ := hg r _ _ _ _ hr0 h
     obtain ⟨u', hu'⟩ := hg' r _ _ _ _ hr0 h'
     obtain ⟨r1, r1', rfl, rfl, c1, c2, c3⟩ := hv met met' x [] m1 m1' y y' hx h1 h1' (pre_nodup hu hn) (pre_nodup hu' hn')
     obtain ⟨q, q', rfl, rfl, d1, d2⟩ := ih _ _ _ _ _ _ _ _ hr0 h h' hn hn'
     refine ⟨r1 ++ q, r1' ++ q', by rw [List.append_assoc], by rw [List.append_assoc], fun hq => ?_, ?_⟩
     ·rcases List.mem_append.1 hq with hq | hq
      ·exact List.mem_append_left _ (c1 hq)
      ·exact List.mem_append_right _ (d1 hq)
     ·rw [List.count_append]
      rw [flat_snoc_len, flat_snoc_len] at d2
      omega
  | some k =>
   rw [hm] at h h'
   simp only at h h'
   by_cases hc : (headN x).kids = 1 ∧ (headN k).kind = 5
   ·rw [if_pos hc] at h h'
    by_cases hd0 : (headN k).text = s0.dig
    ·rw [hd0, hl.has] at h
     rw [hd0, hl.no] at h'
     simp only at h h'
     by_cases hmb : s0.member = true
     ·rw [if_pos hmb] at h
      cases h
     ·rw [if_neg hmb] at h
      by_cases hin : s0.dig ∈ met
      ·rw [if_pos hin] at h
       obtain ⟨u, hu⟩ := hg r _ _ _ _ hr0 h
       rw [hu] at hn
       exact absurd hin (new_of hn)
      ·rw [if_neg hin] at h
       cases h1 : val (met ++ [s0.dig]) s0.value [] with
       | none => rw [h1] at h; cases h
       | some p =>
        obtain ⟨m1, y⟩ := p
        rw [h1] at h
        simp only at h
        have hs0 := hL s0 (findS_some hl.has).1
        obtain ⟨e, rfl⟩ := hgv _ _ _ _ _ hs0 h1
        have hy1 := hone _ _ _ _ _ hs0 h1
        obtain ⟨q, q', rfl, rfl, d1, d2⟩ := ih _ _ _ _ _ _ _ _ hr0 h h' hn hn'
        refine ⟨[s0.dig] ++ e ++ q, [s0.dig] ++ q', by simp, by simp, fun _ => by rw [hd]; simp, ?_⟩
        rw [flat_snoc_len] at d2
        rw [List.count_append, hd, List.count_singleton_self]
        rw [hd] at d2
        omega
    ·rw [hl.same _ hd0] at h'
     have hnd : d0 ≠ (headN k).text := fun e => hd0 (by rw [← e, hd])
     have hc0 : List.count d0 [(headN k).text] = 0 := by
      rw [List.count_eq_zero]
      simpa using hnd
     have skip : ∀ {ys1 ys1' : List (List Nd)} {e e' : List Dg} {b b' : Nat}, itemsA val L (met ++ [(headN k).text] ++ e) ys1 r = some (m, zs) → itemsA val' L' (met' ++ [(headN k).text] ++ e') ys1' r = some (m', zs') → (d0 ∈ e → d0 ∈ e') → b' + e'.count d0 ≤ b → ys1.flatten.length = ys.flatten.length + b → ys1'.flatten.length = ys'.flatten.length + b' →
       ∃ q q', m = met ++ q ∧ m' = met' ++ q' ∧ (d0 ∈ q → d0 ∈ q') ∧ zs'.flatten.length + q'.count d0 + ys.flatten.length ≤ zs.flatten.length + ys'.flatten.length := fun {ys1 ys1' e e' b b'} h h' he hb f1 f2 => by
      obtain ⟨q, q', rfl, rfl, d1, d2⟩ := ih _ _ _ _ _ _ _ _ hr0 h h' hn hn'
      refine ⟨[(headN k).text] ++ e ++ q, [(headN k).text] ++ e' ++ q', by simp, by simp, fun hq => ?_, ?_⟩
      ·rcases List.mem_append.1 hq with hq | hq
       ·rcases List.mem_append.1 hq with hq | hq
        ·exact absurd (List.mem_singleton.1 hq) hnd
        ·exact List.mem_append_left _ (List.mem_append_right _ (he hq))
       ·exact List.mem_append_right _ (d1 hq)
      ·rw [List.count_append, List.count_append, hc0]
       omega
     cases hf : findS L (headN k).text with
     | none =>
      rw [hf] at h h'
      simp only at h h'
      exact skip (e := []) (e' := []) (b := 0) (b' := 0) (by rw [List.append_nil]; exact h) (by rw [List.append_nil]; exact h') id (by simp) rfl rfl
     | some s =>
      rw [hf] at h h'
      simp only at h h'
      by_cases hmb : s.member = true
      ·rw [if_pos hmb] at h
       cases h
      ·rw [if_neg hmb] at h h'
       by_cases hin : (headN k).text ∈ met
       ·rw [if_pos hin] at h
        obtain ⟨u, hu⟩ := hg r _ _ _ _ hr0 h
        rw [hu] at hn
        exact absurd hin (new_of hn)
       ·by_cases hin' : (headN k).text ∈ met'
        ·rw [if_pos hin'] at h'
         obtain ⟨u, hu⟩ := hg' r _ _ _ _ hr0 h'
         rw [hu] at hn'
         exact absurd hin' (new_of hn')
        ·rw [if_neg hin] at h
         rw [if_neg hin'] at h'
         cases h1 : val (met ++ [(headN k).text]) s.value [] with
         | none => rw [h1] at h; cases h
         | some p =>
          obtain ⟨m1, y⟩ := p
          rw [h1] at h
          simp only at h
          cases h1' : val' (met' ++ [(headN k).text]) s.value [] with
          | none => rw [h1'] at h'; cases h'
          | some p' =>
           obtain ⟨m1', y'⟩ := p'
           rw [h1'] at h'
           simp only at h'
           obtain ⟨u, hu⟩ := hg r _ _ _ _ hr0 h
           obtain ⟨u', hu'⟩ := hg' r _ _ _ _ hr0 h'
           obtain ⟨r1, r1', rfl, rfl, c1, c2, c3⟩ := hv _ _ _ _ m1 m1' y y' (hL s (findS_some hf).1) h1 h1' (pre_nodup hu hn) (pre_nodup hu' hn')
           exact skip h h' c1 c2 (flat_snoc_len ..) (flat_snoc_len ..)
   ·rw [if_neg hc] at h
    cases h
theorem members_few {d0 : Dg} {val val' : RevV} (hv : FewV d0 val val') {top : Bool} (hg : ∀ (r : List (List Nd)) (met : List Dg) (ys : List (List Nd)) (m : List Dg) (zs : List (List Nd)), (∀ y ∈ r, Vl y) → membersA val top met ys r = some (m, zs) → ∃ q, m = met ++ q) (hg' : ∀ (r : List (List Nd)) (met : List Dg) (ys : List (List Nd)) (m : List Dg) (zs : List (List Nd)), (∀ y ∈ r, Vl y) → membersA val' top met ys r = some (m, zs) → ∃ q, m = met ++ q) : ∀ (r : List (List Nd)) (met met' : List Dg) (ys ys' : List (List Nd)) (m m' : List Dg) (zs zs' : List (List Nd)), (∀ y ∈ r, Vl y) →
  membersA val top met ys r = some (m, zs) → membersA val' top met' ys' r = some (m', zs') → m.Nodup → m'.Nodup → ∃ q q', m = met ++ q ∧ m' = met' ++ q' ∧ (d0 ∈ q → d0 ∈ q') ∧ zs'.flatten.length + q'.count d0 + ys.flatten.length ≤ zs.flatten.length + ys'.flatten.length
 | [], met, met', ys, ys', m, m', zs, zs', _, h, h', _, _ => by
  rw [membersA] at h h'
  cases h
  cases h'
  exact ⟨[], [], by simp, by simp, id, by simp; omega⟩
 | x :: r, met, met', ys, ys', m, m', zs, zs', hr, h, h', hn, hn' => by
  have hx := hr x (List.mem_cons_self ..)
  have hr0 : ∀ y ∈ r, Vl y := fun y hy => hr y (List.mem_cons_of_mem _ hy)
  have ih := members_few hv hg hg' r
  rw [membersA] at h h'
  by_cases k1 : (headN x).key = sdN
  ·rw [if_pos k1] at h h'
   exact ih _ _ _ _ _ _ _ _ hr0 h h' hn hn'
  ·rw [if_neg k1] at h h'
   by_cases k2 : top = true ∧ (headN x).key = algN
   ·rw [if_pos k2] at h h'
    exact ih _ _ _ _ _ _ _ _ hr0 h h' hn hn'
   ·rw [if_neg k2] at h h'
    cases h1 : val met x (headN x).key with
    | none => rw [h1] at h; cases h
    | some p =>
     obtain ⟨m1, y⟩ := p
     rw [h1] at h
     simp only at h
     cases h1' : val' met' x (headN x).key with
     | none => rw [h1'] at h'; cases h'
     | some p' =>
      obtain ⟨m1', y'⟩ := p'
      rw [h1'] at h'
      simp only at h'
      obtain ⟨u, hu⟩ := hg r _ _ _ _ hr0 h
      obtain ⟨u', hu'⟩ := hg' r _ _ _ _ hr0 h'
      obtain ⟨r1, r1', rfl, rfl, c1, c2, c3⟩ := hv met met' x _ m1 m1' y y' hx h1 h1' (pre_nodup hu hn) (pre_nodup hu' hn')
      obtain ⟨q, q', rfl, rfl, d1, d2⟩ := ih _ _ _ _ _ _ _ _ hr0 h h' hn hn'
      refine ⟨r1 ++ q, r1' ++ q', by rw [List.append_assoc], by rw [List.append_assoc], fun hq => ?_, ?_⟩
      ·rcases List.mem_append.1 hq with hq | hq
       ·exact List.mem_append_left _ (c1 hq)
       ·exact List.mem_append_right _ (d1 hq)
      ·rw [List.count_append]
       rw [flat_snoc_len, flat_snoc_len] at d2
       omega
theorem discl_few {d0 : Dg} {L L' : List Said} {s0 : Said} {val val' : RevV} (hd : d0 = s0.dig) (hl : Less L L' s0) (hv : FewV d0 val val') (hg : ∀ (r : List (List Nd)) (met : List Dg) (ns : List (List UInt8)) (ys : List (List Nd)) (m : List Dg) (zs : List (List Nd)), (∀ y ∈ r, Vl y) → disclA val L met ns ys r = some (m, zs) → ∃ q, m = met ++ q) (hg' : ∀ (r : List (List Nd)) (met : List Dg) (ns : List (List UInt8)) (ys : List (List Nd)) (m : List Dg) (zs : List (List Nd)), (∀ y ∈ r, Vl y) → disclA val' L' met ns ys r = some (m, zs) → ∃ q, m = met ++ q) (hgv : GrowV val) (hL : ∀ s ∈ L, Vl s.value) (hone : ∀ met x key m y, Vl x → val met x key = some (m, y) → 1 ≤ y.length) : ∀ (r : List (List Nd)) (met met' : List Dg) (ns ns' : List (List UInt8)) (ys ys' : List (List Nd)) (m m' : List Dg) (zs zs' : List (List Nd)), (∀ y ∈ r, Vl y) →
  disclA val L met ns ys r = some (m, zs) → disclA val' L' met' ns' ys' r = some (m', zs') → m.Nodup → m'.Nodup → ∃ q q', m = met ++ q ∧ m' = met' ++ q' ∧ (d0 ∈ q → d0 ∈ q') ∧ zs'.flatten.length + q'.count d0 + ys.flatten.length ≤ zs.flatten.length + ys'.flatten.length
 | [], met, met', ns, ns', ys, ys', m, m', zs, zs', _, h, h', _, _ => by
  rw [disclA] at h h'
  cases h
  cases h'
  exact ⟨[], [], by simp, by simp, id, by simp; omega⟩
 | x :: r, met, met', ns, ns', ys, ys', m, m', zs, zs', hr, h, h', hn, hn' => by
  have hr0 : ∀ y ∈ r, Vl y := fun y hy => hr y (List.mem_cons_of_mem _ hy)
  have ih := discl_few hd hl hv hg hg' hgv hL hone r
  rw [disclA] at h h'
  by_cases hc : (headN x).kind = 5
  ·rw [if_pos hc] at h h'
   by_cases hd0 : (headN x).text = s0.dig
   ·rw [hd0, hl.has] at h
    rw [hd0, hl.no] at h'
    simp only at h h'
    by_cases hmb : s0.member = true ∧ s0.name ∉ ns
    ·rw [if_pos hmb] at h
     by_cases hin : s0.dig ∈ met
     ·rw [if_pos hin] at h
      obtain ⟨u, hu⟩ := hg r _ _ _ _ _ hr0 h
      rw [hu] at hn
      exact absurd hin (new_of hn)
     ·rw [if_neg hin] at h
      cases h1 : val (met ++ [s0.dig]) s0.value s0.name with
      | none => rw [h1] at h; cases h
      | some p =>
       obtain ⟨m1, y⟩ := p
       rw [h1] at h
       simp only at h
       have hs0 := hL s0 (findS_some hl.has).1
       obtain ⟨e, rfl⟩ := hgv _ _ _ _ _ hs0 h1
       have hy1 := hone _ _ _ _ _ hs0 h1
       obtain ⟨q, q', rfl, rfl, d1, d2⟩ := ih _ _ _ _ _ _ _ _ _ _ hr0 h h' hn hn'
       refine ⟨[s0.dig] ++ e ++ q, [s0.dig] ++ q', by simp, by simp, fun _ => by rw [hd]; simp, ?_⟩
       rw [flat_snoc_len] at d2
       rw [List.count_append, hd, List.count_singleton_self]
       rw [hd] at d2
       omega
    ·rw [if_neg hmb] at h
     cases h
   ·rw [hl.same _ hd0] at h'
    have hnd : d0 ≠ (headN x).text := fun e => hd0 (by rw [← e, hd])
    have hc0 : List.count d0 [(headN x).text] = 0 := by
     rw [List.count_eq_zero]
     simpa using hnd
    have skip : ∀ {ys1 ys1' : List (List Nd)} {n1 n1' : List (List UInt8)} {e e' : List Dg} {b b' : Nat}, disclA val L (met ++ [(headN x).text] ++ e) n1 ys1 r = some (m, zs) → disclA val' L' (met' ++ [(headN x).text] ++ e') n1' ys1' r = some (m', zs') → (d0 ∈ e → d0 ∈ e') → b' + e'.count d0 ≤ b → ys1.flatten.length = ys.flatten.length + b → ys1'.flatten.length = ys'.flatten.length + b' →
      ∃ q q', m = met ++ q ∧ m' = met' ++ q' ∧ (d0 ∈ q → d0 ∈ q') ∧ zs'.flatten.length + q'.count d0 + ys.flatten.length ≤ zs.flatten.length + ys'.flatten.length := fun {ys1 ys1' n1 n1' e e' b b'} h h' he hb f1 f2 => by
     obtain ⟨q, q', rfl, rfl, d1, d2⟩ := ih _ _ _ _ _ _ _ _ _ _ hr0 h h' hn hn'
     refine ⟨[(headN x).text] ++ e ++ q, [(headN x).text] ++ e' ++ q', by simp, by simp, fun hq => ?_, ?_⟩
     ·rcases List.mem_append.1 hq with hq | hq
      ·rcases List.mem_append.1 hq with hq | hq
       ·exact absurd (List.mem_singleton.1 hq) hnd
       ·exact List.mem_append_left _ (List.mem_append_right _ (he hq))
      ·exact List.mem_append_right _ (d1 hq)
     ·rw [List.count_append, List.count_append, hc0]
      omega
    cases hf : findS L (headN x).text with
    | none =>
     rw [hf] at h h'
     simp only at h h'
     exact skip (e := []) (e' := []) (b := 0) (b' := 0) (by rw [List.append_nil]; exact h) (by rw [List.append_nil]; exact h') id (by simp) rfl rfl
    | some s =>
     rw [hf] at h h'
     simp only at h h'
     by_cases hmb : s.member = true ∧ s.name ∉ ns
     ·rw [if_pos hmb] at h
      by_cases hmb' : s.member = true ∧ s.name ∉ ns'
      ·rw [if_pos hmb'] at h'
       by_cases hin : (headN x).text ∈ met
       ·rw [if_pos hin] at h
        obtain ⟨u, hu⟩ := hg r _ _ _ _ _ hr0 h
        rw [hu] at hn
        exact absurd hin (new_of hn)
       ·by_cases hin' : (headN x).text ∈ met'
        ·rw [if_pos hin'] at h'
         obtain ⟨u, hu⟩ := hg' r _ _ _ _ _ hr0 h'
         rw [hu] at hn'
         exact absurd hin' (new_of hn')
        ·rw [if_neg hin] at h
         rw [if_neg hin'] at h'
         cases h1 : val (met ++ [(headN x).text]) s.value s.name with
         | none => rw [h1] at h; cases h
         | some p =>
          obtain ⟨m1, y⟩ := p
          rw [h1] at h
          simp only at h
          cases h1' : val' (met' ++ [(headN x).text]) s.value s.name with
          | none => rw [h1'] at h'; cases h'
          | some p' =>
           obtain ⟨m1', y'⟩ := p'
           rw [h1'] at h'
           simp only at h'
           obtain ⟨u, hu⟩ := hg r _ _ _ _ _ hr0 h
           obtain ⟨u', hu'⟩ := hg' r _ _ _ _ _ hr0 h'
           obtain ⟨r1, r1', rfl, rfl, c1, c2, c3⟩ := hv _ _ _ _ m1 m1' y y' (hL s (findS_some hf).1) h1 h1' (pre_nodup hu hn) (pre_nodup hu' hn')
           exact skip h h' c1 c2 (flat_snoc_len ..) (flat_snoc_len ..)
      ·rw [if_neg hmb'] at h'
       cases h'
     ·rw [if_neg hmb] at h
      cases h
  ·rw [if_neg hc] at h
   cases h
end Sg
/- With one disclosure fewer less is revealed: the whole way; plain. -/
namespace Sg
theorem items_grow {L : List Said} {val : RevV} (hv : GrowV val) (hL : ∀ s ∈ L, Vl s.value) : ∀ (r : List (List Nd)) (met : List Dg) (ys : List (List Nd)) (m : List Dg) (zs : List (List Nd)), (∀ y ∈ r, Vl y) → itemsA val L met ys r = some (m, zs) → ∃ q, m = met ++ q
 | [], met, ys, m, zs, _, h => by
  rw [itemsA] at h
  cases h
  exact ⟨[], by simp⟩
 | x :: r, met, ys, m, zs, hr, h => by
  have hr' : ∀ y ∈ r, Vl y := fun y h => hr y (List.mem_cons_of_mem _ h)
  have go : ∀ {e} (ys' : List (List Nd)), itemsA val L (met ++ e) ys' r = some (m, zs) → ∃ q, m = met ++ q := fun {e} ys' h' => by
   obtain ⟨u, rfl⟩ := items_grow hv hL r _ _ _ _ hr' h'
   exact ⟨e ++ u, by rw [List.append_assoc]⟩
  rw [itemsA] at h
  split at h
  ·split at h
   ·cases h
   ·rename_i m1 y h1
    obtain ⟨e, rfl⟩ := hv _ _ _ _ _ (hr x (List.mem_cons_self ..)) h1
    exact go _ h
  ·split at h
   ·split at h
    ·exact go _ h
    ·rename_i s hs
     split at h
     ·cases h
     ·split at h
      ·exact go _ h
      ·split at h
       ·cases h
       ·rename_i m1 y h1
        obtain ⟨e, rfl⟩ := hv _ _ _ _ _ (hL s (findS_some hs).1) h1
        rw [List.append_assoc] at h
        exact go _ h
   ·cases h
theorem members_grow {val : RevV} (hv : GrowV val) {top : Bool} : ∀ (r : List (List Nd)) (met : List Dg) (ys : List (List Nd)) (m : List Dg) (zs : List (List Nd)), (∀ y ∈ r, Vl y) → membersA val top met ys r = some (m, zs) → ∃ q, m = met ++ q
 | [], met, ys, m, zs, _, h => by
  rw [membersA] at h
  cases h
  exact ⟨[], by simp⟩
 | x :: r, met, ys, m, zs, hr, h => by
  have hr' : ∀ y ∈ r, Vl y := fun y h => hr y (List.mem_cons_of_mem _ h)
  rw [membersA] at h
  split at h
  ·exact members_grow hv r _ _ _ _ hr' h
  ·split at h
   ·exact members_grow hv r _ _ _ _ hr' h
   ·split at h
    ·cases h
    ·rename_i m1 y h1
     obtain ⟨e, rfl⟩ := hv _ _ _ _ _ (hr x (List.mem_cons_self ..)) h1
     obtain ⟨u, rfl⟩ := members_grow hv r _ _ _ _ hr' h
     exact ⟨e ++ u, by rw [List.append_assoc]⟩
theorem discl_grow {L : List Said} {val : RevV} (hv : GrowV val) (hL : ∀ s ∈ L, Vl s.value) : ∀ (r : List (List Nd)) (met : List Dg) (ns : List (List UInt8)) (ys : List (List Nd)) (m : List Dg) (zs : List (List Nd)), (∀ y ∈ r, Vl y) → disclA val L met ns ys r = some (m, zs) → ∃ q, m = met ++ q
 | [], met, ns, ys, m, zs, _, h => by
  rw [disclA] at h
  cases h
  exact ⟨[], by simp⟩
 | x :: r, met, ns, ys, m, zs, hr, h => by
  have hr' : ∀ y ∈ r, Vl y := fun y h => hr y (List.mem_cons_of_mem _ h)
  have go : ∀ {e ns'} (ys' : List (List Nd)), disclA val L (met ++ e) ns' ys' r = some (m, zs) → ∃ q, m = met ++ q := fun {e ns'} ys' h' => by
   obtain ⟨u, rfl⟩ := discl_grow hv hL r _ _ _ _ _ hr' h'
   exact ⟨e ++ u, by rw [List.append_assoc]⟩
  rw [disclA] at h
  split at h
  ·split at h
   ·exact go _ h
   ·rename_i s hs
    split at h
    ·split at h
     ·exact go _ h
     ·split at h
      ·cases h
      ·rename_i m1 y h1
       obtain ⟨e, rfl⟩ := hv _ _ _ _ _ (hL s (findS_some hs).1) h1
       rw [List.append_assoc] at h
       exact go _ h
    ·cases h
  ·cases h
theorem rev_grow {L : List Said} (hL : ∀ s ∈ L, Vl s.value) : ∀ (f : Nat) (top : Bool), GrowV (revV f L top)
 | 0, top => fun met x key m y _ h => by cases h
 | f + 1, top => fun met x key m y hx h => by
  have ih := rev_grow hL f false
  have hk := hx.kids
  rw [revV] at h
  simp only at h
  split at h
  ·split at h
   ·cases h
   ·split at h
    ·cases h
    ·rename_i m1 ys h1
     obtain ⟨e, rfl⟩ := members_grow ih _ _ _ _ _ hk h1
     split at h
     ·cases h
      exact ⟨e, rfl⟩
     ·rename_i hh hd
      split at h
      ·split at h
       ·cases h
       ·rename_i m2 zs h5
        obtain ⟨u, rfl⟩ := discl_grow ih hL _ _ _ _ _ _ (hidden_size hk hd).1.kids h5
        cases h
        exact ⟨e ++ u, by rw [List.append_assoc]⟩
      ·cases h
  ·split at h
   ·split at h
    ·cases h
    ·rename_i m1 ys h1
     obtain ⟨e, rfl⟩ := items_grow ih hL _ _ _ _ _ hk h1
     cases h
     exact ⟨e, rfl⟩
   ·cases h
    exact ⟨[], by simp⟩
theorem rev_one {L : List Said} (f : Nat) (top : Bool) (met : List Dg) (x : List Nd) (key : List UInt8) (m : List Dg) (y : List Nd) (h : revV f L top met x key = some (m, y)) : 1 ≤ y.length := by
 cases f with
 | zero => cases h
 | succ f =>
  rw [revV] at h
  simp only at h
  repeat' (split at h)
  all_goals (cases h; try simp [rowN])
theorem few_end {d0 : Dg} {q' : List Dg} {kind : Int} {key : List UInt8} {zs zs' : List (List Nd)} (h : zs'.flatten.length + q'.count d0 + ([] : List (List Nd)).flatten.length ≤ zs.flatten.length + ([] : List (List Nd)).flatten.length) : (rowN kind key zs').length + q'.count d0 ≤ (rowN kind key zs).length ∧ 1 ≤ (rowN kind key zs).length := by
 simp only [List.flatten_nil, List.length_nil] at h
 simp only [rowN, List.length_cons]
 omega
theorem rev_few {L L' : List Said} {s0 : Said} (hl : Less L L' s0) (hL : ∀ s ∈ L, Vl s.value) (hL' : ∀ s ∈ L', Vl s.value) : ∀ (f f' : Nat) (top : Bool), FewV s0.dig (revV f L top) (revV f' L' top)
 | 0, _, _ => fun met met' x key m m' y y' _ h _ _ _ => by cases h
 | _ + 1, 0, _ => fun met met' x key m m' y y' _ _ h' _ _ => by cases h'
 | f + 1, f' + 1, top => fun met met' x key m m' y y' hx h h' hn hn' => by
  have ih := rev_few hl hL hL' f f' false
  have hk := hx.kids
  have gv := rev_grow hL f false
  have gv' := rev_grow hL' f' false
  have one : ∀ met x key m y, Vl x → revV f L false met x key = some (m, y) → 1 ≤ y.length := fun met x key m y _ h => rev_one f false met x key m y h
  rw [revV] at h h'
  simp only at h h'
  by_cases k7 : (headN x).kind = 7
  ·rw [if_pos k7] at h h'
   cases hd : memV x dotsN with
   | some _ => rw [hd] at h; cases h
   | none =>
    rw [hd] at h h'
    simp only at h h'
    cases h1 : membersA (revV f L false) top met [] (kidsOf x 0) with
    | none => rw [h1] at h; cases h
    | some p =>
     obtain ⟨m1, ys⟩ := p
     rw [h1] at h
     simp only at h
     cases h1' : membersA (revV f' L' false) top met' [] (kidsOf x 0) with
     | none => rw [h1'] at h'; cases h'
     | some p' =>
      obtain ⟨m1', ys'⟩ := p'
      rw [h1'] at h'
      simp only at h'
      cases hh : hiddenX (kidsOf x 0) with
      | none =>
       rw [hh] at h h'
       cases h
       cases h'
       obtain ⟨q, q', rfl, rfl, d1, d2⟩ := members_few ih (members_grow gv) (members_grow gv') _ _ _ _ _ _ _ _ _ hk h1 h1' hn hn'
       exact ⟨q, q', rfl, rfl, d1, few_end d2⟩
      | some hv =>
       rw [hh] at h h'
       simp only at h h'
       have hvl := (hidden_size hk hh).1
       by_cases h6 : (headN hv).kind = 6
       ·rw [if_pos h6] at h h'
        cases h2 : disclA (revV f L false) L m1 (namesX (kidsOf x 0)) ys (kidsOf hv 0) with
        | none => rw [h2] at h; cases h
        | some p2 =>
         obtain ⟨m2, zs⟩ := p2
         rw [h2] at h
         cases h2' : disclA (revV f' L' false) L' m1' (namesX (kidsOf x 0)) ys' (kidsOf hv 0) with
         | none => rw [h2'] at h'; cases h'
         | some p2' =>
          obtain ⟨m2', zs'⟩ := p2'
          rw [h2'] at h'
          cases h
          cases h'
          obtain ⟨u, hu⟩ := discl_grow gv hL _ _ _ _ _ _ hvl.kids h2
          obtain ⟨u', hu'⟩ := discl_grow gv' hL' _ _ _ _ _ _ hvl.kids h2'
          obtain ⟨q, q', rfl, rfl, d1, d2⟩ := members_few ih (members_grow gv) (members_grow gv') _ _ _ _ _ _ _ _ _ hk h1 h1' (pre_nodup hu hn) (pre_nodup hu' hn')
          obtain ⟨r, r', rfl, rfl, e1, e2⟩ := discl_few rfl hl ih (discl_grow gv hL) (discl_grow gv' hL') gv hL one _ _ _ _ _ _ _ _ _ _ _ hvl.kids h2 h2' hn hn'
          refine ⟨q ++ r, q' ++ r', by rw [List.append_assoc], by rw [List.append_assoc], fun hq => ?_, few_end ?_⟩
          ·rcases List.mem_append.1 hq with hq | hq
           ·exact List.mem_append_left _ (d1 hq)
           ·exact List.mem_append_right _ (e1 hq)
          ·rw [List.count_append]
           omega
       ·rw [if_neg h6] at h
        cases h
  ·rw [if_neg k7] at h h'
   by_cases k6 : (headN x).kind = 6
   ·rw [if_pos k6] at h h'
    cases h1 : itemsA (revV f L false) L met [] (kidsOf x 0) with
    | none => rw [h1] at h; cases h
    | some p =>
     obtain ⟨m1, ys⟩ := p
     rw [h1] at h
     cases h1' : itemsA (revV f' L' false) L' met' [] (kidsOf x 0) with
     | none => rw [h1'] at h'; cases h'
     | some p' =>
      obtain ⟨m1', ys'⟩ := p'
      rw [h1'] at h'
      cases h
      cases h'
      obtain ⟨q, q', rfl, rfl, d1, d2⟩ := items_few rfl hl ih (items_grow gv hL) (items_grow gv' hL') gv hL one _ _ _ _ _ _ _ _ _ hk h1 h1' hn hn'
      exact ⟨q, q', rfl, rfl, d1, few_end d2⟩
   ·rw [if_neg k6] at h h'
    cases h
    cases h'
    exact ⟨[], [], by simp, by simp, id, by simp, by simp⟩
end Sg
/- What is revealed: where each digest stands, nothing of the format is left, one disclosure fewer tells less; plain. -/
namespace Sg
open Go.Lib
theorem allO_get {α β : Type} {f : α → Option β} : ∀ {l : List α} {ys : List β}, allO f l = some ys → ys.length = l.length ∧ ∀ (i : Nat) (x : α), l[i]? = some x → ∃ y, f x = some y ∧ ys[i]? = some y
 | [], ys, h => by
  cases h
  exact ⟨rfl, fun i x hx => by cases hx⟩
 | a :: r, ys, h => by
  unfold allO at h
  cases ha : f a with
  | none => rw [ha] at h; cases h
  | some b =>
   rw [ha] at h
   cases hr : allO f r with
   | none => rw [hr] at h; cases h
   | some bs =>
    rw [hr] at h
    cases h
    obtain ⟨h1, h2⟩ := allO_get hr
    refine ⟨by simp [h1], fun i x hx => ?_⟩
    cases i with
    | zero =>
     cases hx
     exact ⟨b, ha, rfl⟩
    | succ i => exact h2 i x hx
theorem allO_erase {α β : Type} {f : α → Option β} : ∀ {l : List α} {ys : List β} (i : Nat), allO f l = some ys → allO f (l.take i ++ l.drop (i + 1)) = some (ys.take i ++ ys.drop (i + 1))
 | [], ys, i, h => by
  cases h
  simp [allO]
 | a :: r, ys, i, h => by
  unfold allO at h
  cases ha : f a with
  | none => rw [ha] at h; cases h
  | some b =>
   rw [ha] at h
   cases hr : allO f r with
   | none => rw [hr] at h; cases h
   | some bs =>
    rw [hr] at h
    cases h
    cases i with
    | zero => simpa using hr
    | succ i =>
     have := allO_erase i hr
     rw [List.take_succ_cons, List.drop_succ_cons, List.take_succ_cons, List.drop_succ_cons, List.cons_append, List.cons_append]
     unfold allO
     rw [ha, this]
theorem less_of {L : List Said} {i : Nat} {s0 : Said} (hn : (L.map (·.dig)).Nodup) (hi : L[i]? = some s0) : Less L (L.take i ++ L.drop (i + 1)) s0 := by
 obtain ⟨A, B, rfl, rfl⟩ : ∃ A B, L = A ++ s0 :: B ∧ i = A.length := by
  obtain ⟨hlt, he⟩ := List.getElem?_eq_some_iff.1 hi
  refine ⟨L.take i, L.drop (i + 1), ?_, by rw [List.length_take]; omega⟩
  rw [← he, List.getElem_cons_drop, List.take_append_drop]
 rw [List.take_left, show (A ++ s0 :: B).drop (A.length + 1) = B by simp]
 rw [List.map_append, List.map_cons, List.nodup_append] at hn
 obtain ⟨-, h2, h3⟩ := hn
 rw [List.nodup_cons] at h2
 have hA : ∀ s ∈ A, s.dig ≠ s0.dig := fun s hs => h3 _ (List.mem_map_of_mem hs) _ (List.mem_cons_self ..)
 have hB : ∀ s ∈ B, s.dig ≠ s0.dig := fun s hs e => h2.1 (by rw [← e]; exact List.mem_map_of_mem hs)
 refine ⟨?_, ?_, fun d hd => ?_⟩
 ·show List.find? _ _ = _
  rw [List.find?_append, List.find?_eq_none.2 (fun s hs => by simpa using hA s hs)]
  simp
 ·show List.find? _ _ = _
  rw [List.find?_eq_none]
  intro s hs
  rcases List.mem_append.1 hs with hs | hs
  ·simpa using hA s hs
  ·simpa using hB s hs
 ·show List.find? _ _ = List.find? _ _
  rw [List.find?_append, List.find?_append, List.find?_cons_of_neg (by simpa using fun e : s0.dig = d => hd e.symm)]
theorem dupL_false {m : List Dg} : dupL m = false ↔ m.Nodup := by simp [dupL]
theorem asked_law {ok : List UInt8 → Bool} {rd : List UInt8 → Option Said} {v : List Nd} {ts : List (List UInt8)} {y : List Nd} (hV : Vl v) (hrd : ∀ t s, rd t = some s → Vl s.value ∧ Own s.name) (h : revealX ok rd v ts = (0, y)) :
  shapedX ok y = true ∧ (headN y).kind = 7 ∧ Bare y ∧ ∃ L, allO rd ts = some L ∧
  (∀ (i : Nat) (s : Said), L[i]? = some s → StandsX v s.dig ∨ ∃ (j : Nat) (s' : Said), j ≠ i ∧ L[j]? = some s' ∧ StandsX s'.value s.dig) ∧
  ∀ (i : Nat), i < ts.length → ∀ y', revealX ok rd v (ts.take i ++ ts.drop (i + 1)) = (0, y') → y'.length < y.length := by
 unfold revealX at h
 by_cases h1 : shapedX ok v = false ∨ (headN v).kind ≠ 7
 ·rw [if_pos h1] at h
  cases h
 ·rw [if_neg h1] at h
  by_cases h2 : algBad v
  ·rw [if_pos h2] at h
   cases h
  ·rw [if_neg h2] at h
   cases hL : allO rd ts with
   | none => rw [hL] at h; cases h
   | some L =>
    rw [hL] at h
    simp only at h
    by_cases h3 : dupL (L.map (·.dig)) = true
    ·rw [if_pos h3] at h
     cases h
    ·rw [if_neg h3] at h
     cases hr : revV (v.length + pend L [] + 1) L true [] v [] with
     | none => rw [hr] at h; cases h
     | some my =>
      obtain ⟨m, y1⟩ := my
      rw [hr] at h
      simp only at h
      by_cases h4 : dupL m = true ∨ ∃ s ∈ L, s.dig ∉ m
      ·rw [if_pos h4] at h
       cases h
      ·rw [if_neg h4] at h
       by_cases h5 : shapedX ok y1 = false
       ·rw [if_pos h5] at h
        cases h
       ·rw [if_neg h5] at h
        cases h
        have hn : (L.map (·.dig)).Nodup := dupL_false.1 (by simpa using h3)
        have hm : m.Nodup := dupL_false.1 (by simpa using fun e => h4 (.inl e))
        have hall : ∀ s ∈ L, s.dig ∈ m := fun s hs => Decidable.byContradiction fun e => h4 (.inr ⟨s, hs, e⟩)
        obtain ⟨g1, g2⟩ := allO_get hL
        have hLo : ∀ s ∈ L, Vl s.value ∧ Own s.name := fun s hs => by
         obtain ⟨i, hi, rfl⟩ := List.mem_iff_getElem.1 hs
         obtain ⟨s', e1, e2⟩ := g2 i _ (List.getElem?_eq_getElem (by omega))
         rw [List.getElem?_eq_getElem hi] at e2
         cases e2
         exact hrd _ _ e1
        have hLv : ∀ s ∈ L, Vl s.value := fun s hs => (hLo s hs).1
        have h7 : (headN v).kind = 7 := Decidable.byContradiction fun e => h1 (.inr e)
        refine ⟨by simpa using h5, ?_, rev_bare hLo _ true _ _ _ _ _ hV own_nil hr, L, rfl, fun i s hi => ?_, fun i hi y' hy' => ?_⟩
        ·rw [revV] at hr
         simp only [if_pos h7] at hr
         repeat' (split at hr)
         all_goals (cases hr; try rfl)
        ·have hs := List.mem_of_getElem? hi
         obtain ⟨hp, -⟩ := rev_places (v := v) hLv _ true [] v [] m y hV (fun d hd => .inl hd) (fun m1 d m2 e => by cases m1 <;> cases e) hr
         obtain ⟨m1, m2, hm12⟩ := List.append_of_mem (hall s hs)
         rcases hp m1 s.dig m2 hm12 with h6 | ⟨s', h6, h7, h8⟩
         ·exact .inl h6
         ·obtain ⟨j, hj, rfl⟩ := List.mem_iff_getElem.1 h6
          refine .inr ⟨j, L[j], fun e => ?_, List.getElem?_eq_getElem hj, h8⟩
          subst e
          rw [List.getElem?_eq_getElem hj] at hi
          cases hi
          rw [hm12, List.nodup_append] at hm
          exact hm.2.2 _ h7 _ (List.mem_cons_self ..) rfl
        ·have hiL : i < L.length := by omega
         have hl := less_of hn (List.getElem?_eq_getElem hiL)
         have hL' : ∀ s ∈ L.take i ++ L.drop (i + 1), Vl s.value := fun s hs => by
          rcases List.mem_append.1 hs with hs | hs
          ·exact hLv s (List.mem_of_mem_take hs)
          ·exact hLv s (List.mem_of_mem_drop hs)
         unfold revealX at hy'
         rw [if_neg h1, if_neg h2, allO_erase i hL] at hy'
         simp only at hy'
         generalize L.take i ++ L.drop (i + 1) = L' at *
         split at hy'
         ·cases hy'
         ·cases hr' : revV (v.length + pend L' [] + 1) L' true [] v [] with
          | none => rw [hr'] at hy'; cases hy'
          | some my' =>
           obtain ⟨m', y1'⟩ := my'
           rw [hr'] at hy'
           simp only at hy'
           split at hy'
           ·cases hy'
           ·rename_i h6
            split at hy'
            ·cases hy'
            ·cases hy'
             have hm' : m'.Nodup := dupL_false.1 (by simpa using fun e => h6 (.inl e))
             obtain ⟨q, q', e1, e2, d1, d2, -⟩ := rev_few hl hLv hL' _ _ true [] [] v [] m m' _ _ hV hr hr' hm hm'
             rw [List.nil_append] at e1
             have h9 : L[i].dig ∈ q := by rw [← e1]; exact hall _ (List.getElem_mem hiL)
             have := List.count_pos_iff.2 (d1 h9)
             omega
end Sg
/- The law of SdAsked: walked. -/
namespace Sg
open Go.Lib
def standsB (v : List Nd) (d : Dg) : Bool := v.any fun n => decide (n.kind = 5) && decide (n.text = d)
theorem standsB_iff {v : List Nd} {d : Dg} : standsB v d = true ↔ StandsX v d := by
 simp [standsB, StandsX]
theorem said_own {dg : Dg} {v : List Nd} {s : Said} (hv : Vl v) (h : saidX dg v = some s) : Own s.name ∧ ∀ n ∈ s.value, n ∈ v := by
 have hs := fun y => kid_sub (y := y) (kids_size hv.1).2.2.1
 unfold saidX at h
 split at h
 ·match hks : kidsOf v 0 with
  | [] => rw [hks] at h; cases h
  | [_] => rw [hks] at h; cases h
  | [a, x] =>
   rw [hks] at h hs
   simp only at h
   split at h
   ·cases h
    exact ⟨own_nil, hs x (by simp)⟩
   ·cases h
  | [a, n, x] =>
   rw [hks] at h hs
   simp only at h
   split at h
   ·rename_i hc
    cases h
    exact ⟨hc.2.2, hs x (by simp)⟩
   ·cases h
  | _ :: _ :: _ :: _ :: _ => rw [hks] at h; cases h
 ·cases h
end Sg
namespace Go.Proofs.YtjajcmedipjfhaaGreatDoor
open Sg Go Go.RowKit Go.IntWalk
set_option maxRecDepth 100000
set_option maxHeartbeats 4000000
theorem readT_parts {t : List UInt8} {s : Said} (h : readT t = some s) : ∃ a w, decO t = some (decX t).1 ∧ (decX t).2.1 = 0 ∧ parseX wholeX (decX t).1 = .ok a w ∧ (∀ n ∈ s.value, n ∈ w) ∧ Vl s.value ∧ Own s.name ∧ s.dig = digestOf t := by
 obtain ⟨h1, -, h3, -⟩ := readT_ok h
 unfold readT readX at h
 unfold decO at h ⊢
 by_cases h0 : (decX t).2.1 = 0
 ·rw [if_pos h0] at h ⊢
  simp only at h
  cases hp : parseX wholeX (decX t).1 with
  | bad c a => rw [hp] at h; cases h
  | ok a w =>
   rw [hp] at h
   obtain ⟨h4, h5⟩ := said_own ⟨parse_fo hp, parse_flat hp⟩ h
   exact ⟨a, w, rfl, h0, rfl, h5, h3, h4, h1⟩
 ·rw [if_neg h0] at h
  cases h
def partOf (t : List UInt8) : List Nd := match parseX wholeX (decX t).1 with
 | .ok _ w => w
 | .bad _ _ => []
theorem revealX_code {ok : List UInt8 → Bool} {rd : List UInt8 → Option Said} {v : List Nd} {ts : List (List UInt8)} : (revealX ok rd v ts).1 = 0 ∨ ((revealX ok rd v ts).2 = [] ∧ ((revealX ok rd v ts).1 = 200 ∨ (revealX ok rd v ts).1 = 201 ∨ (revealX ok rd v ts).1 = 11)) := by
 unfold revealX
 split
 ·exact .inr ⟨rfl, .inl rfl⟩
 ·split
  ·exact .inr ⟨rfl, .inl rfl⟩
  ·split
   ·exact .inr ⟨rfl, .inl rfl⟩
   ·split
    ·exact .inr ⟨rfl, .inr (.inl rfl)⟩
    ·split
     ·exact .inr ⟨rfl, .inl rfl⟩
     ·split
      ·exact .inr ⟨rfl, .inr (.inl rfl)⟩
      ·split
       ·exact .inr ⟨rfl, .inr (.inr rfl)⟩
       ·exact .inl rfl
theorem revealX_b {v : List Nd} {ts : List (List UInt8)} {y : List Nd} (hb : AllB v) (hsz : v.length + (ts.map List.length).sum ≤ 1100000) (h : revealX Lib.validD readT v ts = (0, y)) : Vl v ∧ AllB y ∧ y.length ≤ 1100000 := by
 unfold revealX at h
 by_cases h1 : shapedX Lib.validD v = false ∨ (headN v).kind ≠ 7
 ·rw [if_pos h1] at h
  cases h
 ·rw [if_neg h1] at h
  have hs : shapedX Lib.validD v = true := by
   cases hh : shapedX Lib.validD v with
   | true => rfl
   | false => exact absurd (.inl hh) h1
  obtain ⟨hf, hg⟩ := shaped_ngood hs hb (by omega)
  by_cases h2 : algBad v
  ·rw [if_pos h2] at h
   cases h
  ·rw [if_neg h2] at h
   cases hL : allO readT ts with
   | none => rw [hL] at h; cases h
   | some L =>
    rw [hL] at h
    simp only at h
    obtain ⟨l1, l2⟩ := allO_sz hL
    have hLk : LOk L := fun s hs => by
     obtain ⟨g1, g2⟩ := allO_get hL
     obtain ⟨i, hi, rfl⟩ := List.mem_iff_getElem.1 hs
     obtain ⟨s', e1, e2⟩ := g2 i _ (List.getElem?_eq_getElem (by omega))
     rw [List.getElem?_eq_getElem hi] at e2
     cases e2
     obtain ⟨-, -, k3, k4, k5⟩ := readT_ok e1
     exact ⟨k3, k4, k5⟩
    split at h
    ·cases h
    ·cases hr : revV (v.length + pend L [] + 1) L true [] v [] with
     | none => rw [hr] at h; cases h
     | some my =>
      obtain ⟨m, y1⟩ := my
      rw [hr] at h
      simp only at h
      have hkp := (rev_keeps l1 (v.length + pend L [] + 1) true [] v [] m y1 ⟨hf, hg.flat⟩ (by omega) hr).1.size
      rw [List.length_nil] at hkp
      split at h
      ·cases h
      ·split at h
       ·cases h
       ·cases h
        exact ⟨⟨hf, hg.flat⟩, rev_b hLk _ true _ _ _ _ _ ⟨hf, hg.flat⟩ hb (by simp) hr, by omega⟩
section
variable {F : World} {M : List Nat} {H : List Res}
theorem stands_spec {v : List Nd} {d : List UInt8} {va : Option Addr} {vc : Nat} (hR : Rd F M H va (v.flatMap ndV)) (hl : v.length ≤ 1000000000000) :
  Meets Tryz.prog 19 [.slice va v.length vc, sV d] F M H (fun e H' => e = .returned (.bool (standsB v d)) ∧ H' = H) := by
 refine Meets.enter Tryz.func19 rfl rfl ?_
 generalize hQ : standsB v d = Q
 repeat' (first | (apply T.asn; apply rfl; apply rfl) | (with_reducible first | refine Sr.nil ?_ | refine S.seq ?_ | refine S.block ?_ | refine S.reg ?_) | fail)
 refine S.loopE 0 [0, 1] (fun R b' μ H' e => ∃ i : Nat, H' = R ∧ e = (5, .int .i64 i) :: b' ∧ (i ≤ v.length ∧ ∀ j, j < i → ¬ ((v.getD j default).kind = 5 ∧ (v.getD j default).text = d)) ∧ μ = v.length - i) rfl rfl ?_ _ _ ⟨0, rfl, rfl, ⟨Nat.zero_le _, fun j hj => by omega⟩, rfl⟩ (by repeat' first | exact trivial | refine And.intro rfl ?_)
 rintro _ _ _ ⟨i, rfl, rfl, ⟨h1, h2⟩, rfl⟩ ih
 by_cases h3 : i < v.length
 ·have hm : v.getD i default ∈ v := by
   rw [List.getD_eq_getElem?_getD, List.getElem?_eq_getElem h3]
   exact List.getElem_mem h3
  by_cases k1 : (v.getD i default).kind = 5
  ·by_cases k2 : (v.getD i default).text = d
   ·obtain rfl : Q = true := by
     rw [← hQ, standsB_iff]
     exact ⟨_, hm, k1, k2⟩
    repeat' (first | (apply T.seql; (iterate 3 apply rfl)) | ((first | apply T.mv | apply T.asn | apply T.len); apply rfl; apply rfl) | (apply T.lss; (iterate 3 apply rfl)) | (apply T.eql; (iterate 3 apply rfl)) | (apply T.ixF; apply rfl; apply rfl; infer_instance; exact (fun _ => rfl); apply rfl; omega; omega; apply rfl) | (apply T.fieldAddrF; apply rfl; infer_instance; exact (fun _ => rfl); apply rfl; omega; apply rfl) | (apply T.loadF; apply rfl; apply rfl; infer_instance; exact (fun _ => rfl); apply rfl; exact getD_some (by omega); apply rfl; apply rfl) | (apply T.pickT; (iterate 3 apply rfl)) | (with_reducible first | refine Sr.nil ?_ | refine S.seq ?_ | refine S.block ?_ | refine S.reg ?_ | refine S.skip ?_) | (apply T.ungV; apply rfl; (first | with_reducible rfl | decide)) | (apply S.condQ; apply rfl; all_goals (intro _; try (exfalso; first | omega | with_reducible contradiction))) | (apply T.gcase; apply rfl; apply rfl; all_goals (intro _; try (exfalso; first | omega | with_reducible contradiction))) | (apply T.retW; apply rfl) | fail)
    exact ⟨_, PSub.refl _, rfl, rfl⟩
   ·repeat' (first | (apply T.seql; (iterate 3 apply rfl)) | ((first | apply T.mv | apply T.asn | apply T.len); apply rfl; apply rfl) | (apply T.lss; (iterate 3 apply rfl)) | (apply T.eql; (iterate 3 apply rfl)) | (apply T.addI; apply rfl; apply rfl; omega; apply rfl) | (apply T.ixF; apply rfl; apply rfl; infer_instance; exact (fun _ => rfl); apply rfl; omega; omega; apply rfl) | (apply T.fieldAddrF; apply rfl; infer_instance; exact (fun _ => rfl); apply rfl; omega; apply rfl) | (apply T.loadF; apply rfl; apply rfl; infer_instance; exact (fun _ => rfl); apply rfl; exact getD_some (by omega); apply rfl; apply rfl) | (apply T.pickT; (iterate 3 apply rfl)) | (with_reducible first | refine Sr.nil ?_ | refine S.seq ?_ | refine S.block ?_ | refine S.reg ?_ | refine S.skip ?_ | refine S.inBlock ?_) | (apply T.ungV; apply rfl; (first | with_reducible rfl | decide)) | (apply S.condQ; apply rfl; all_goals (intro _; try (exfalso; first | omega | with_reducible contradiction))) | (apply T.gcase; apply rfl; apply rfl; all_goals (intro _; try (exfalso; first | omega | with_reducible contradiction))) | fail)
    exact ih _ _ _ _ ⟨i + 1, rfl, rfl, ⟨by omega, fun j hj => by
     rcases Nat.lt_succ_iff_lt_or_eq.1 hj with hj | rfl
     ·exact h2 j hj
     ·exact fun h => k2 h.2⟩, rfl⟩ (by omega) (by repeat' first | exact trivial | refine And.intro rfl ?_)
  ·repeat' (first | ((first | apply T.mv | apply T.asn | apply T.len); apply rfl; apply rfl) | ((first | apply T.lss | apply T.eql); (iterate 3 apply rfl)) | (apply T.addI; apply rfl; apply rfl; omega; apply rfl) | (apply T.ixF; apply rfl; apply rfl; infer_instance; exact (fun _ => rfl); apply rfl; omega; omega; apply rfl) | (apply T.fieldAddrF; apply rfl; infer_instance; exact (fun _ => rfl); apply rfl; omega; apply rfl) | (apply T.loadF; apply rfl; apply rfl; infer_instance; exact (fun _ => rfl); apply rfl; exact getD_some (by omega); apply rfl; apply rfl) | (apply T.pickF; (iterate 3 apply rfl)) | (with_reducible first | refine Sr.nil ?_ | refine S.seq ?_ | refine S.block ?_ | refine S.reg ?_ | refine S.skip ?_ | refine S.inBlock ?_) | (apply T.skip; apply rfl; (first | with_reducible rfl | decide); apply rfl) | (apply S.condFV; apply rfl; (first | with_reducible rfl | decide)) | (apply S.condQ; apply rfl; all_goals (intro _; try (exfalso; first | omega | with_reducible contradiction))) | (apply T.gcase; apply rfl; apply rfl; all_goals (intro _; try (exfalso; first | omega | with_reducible contradiction))) | fail)
   exact ih _ _ _ _ ⟨i + 1, rfl, rfl, ⟨by omega, fun j hj => by
    rcases Nat.lt_succ_iff_lt_or_eq.1 hj with hj | rfl
    ·exact h2 j hj
    ·exact fun h => k1 h.1⟩, rfl⟩ (by omega) (by repeat' first | exact trivial | refine And.intro rfl ?_)
 ·obtain rfl : i = v.length := by omega
  obtain rfl : Q = false := by
   rw [← hQ, ← Bool.not_eq_true, standsB_iff]
   rintro ⟨n, hn, k1, k2⟩
   obtain ⟨j, hj, rfl⟩ := List.mem_iff_getElem.1 hn
   refine h2 j hj ?_
   rw [List.getD_eq_getElem?_getD, List.getElem?_eq_getElem hj]
   exact ⟨k1, k2⟩
  repeat' (first | ((first | apply T.mv | apply T.asn | apply T.len); apply rfl; apply rfl) | (apply T.lss; (iterate 3 apply rfl)) | (with_reducible first | refine Sr.nil ?_ | refine S.seq ?_ | refine S.reg ?_) | (apply S.exit; apply rfl) | (apply S.condQ; apply rfl; all_goals (intro _; try (exfalso; first | omega | with_reducible contradiction))) | (apply T.retW; apply rfl) | fail)
  exact ⟨_, PSub.refl _, rfl, rfl⟩
end
end Go.Proofs.YtjajcmedipjfhaaGreatDoor
/- The law of SdPlain: walked, the whole of it. -/
namespace Go.Proofs.YtjajcmedipjfhaaGreatDoor
open Sg Go Go.RowKit Go.IntWalk
set_option maxRecDepth 100000
set_option maxHeartbeats 4000000
section
variable {F : World} {M : List Nat} {H : List Res}
theorem parse_bounds {t : List UInt8} {a : Nat} {v : List Nd} (h : parseX wholeX t = .ok a v) : v.length ≤ 262144 ∧ AllB v ∧ (∀ n ∈ v, n.kids ≤ 9223372036854775807) := by
 obtain ⟨h1, h2, h3⟩ := parse_sz h
 refine ⟨by omega, fun n hn => ⟨Nat.le_trans (h2 n hn).text (by omega), Nat.le_trans (h2 n hn).key (by omega)⟩, fun n hn => ?_⟩
 have := (parse_fo h).kids_le n hn
 omega
end
end Go.Proofs.YtjajcmedipjfhaaGreatDoor
/- The law of SdAsked: walked, the whole of it. -/
namespace Go.Proofs.YtjajcmedipjfhaaGreatDoor
open Sg Go Go.RowKit Go.IntWalk
set_option maxRecDepth 100000
set_option maxHeartbeats 4000000
section
variable {F : World} {H : List Res}
theorem sum_mem {a : List UInt8} : ∀ {ts : List (List UInt8)}, a ∈ ts → a.length ≤ (ts.map List.length).sum
 | x :: r, h => by
  rw [List.map_cons, List.sum_cons]
  rcases List.mem_cons.1 h with rfl | h
  ·omega
  ·have := sum_mem h
   omega
theorem sum_app (a b : List (List UInt8)) : ((a ++ b).map List.length).sum = (a.map List.length).sum + (b.map List.length).sum := by
 rw [List.map_append, List.sum_append]
theorem asked_walk {v : List Nd} {ts : List (List UInt8)} {va ta : Option Addr} {vc tc : Nat} (hT : Tabs F []) (hS : ShP F []) (hRv : ∀ X, Rd F [] X va (v.flatMap ndV)) (hRt : ∀ X, Rd F [] X ta (ts.map sV)) (htc : ts.length ≤ tc) (hb : AllB v) (hk : ∀ n ∈ v, -9223372036854775808 ≤ n.kids ∧ n.kids ≤ 9223372036854775807) (hsz : v.length + (ts.map List.length).sum ≤ 1048576) (htl : ts.length ≤ 1048576) :
  Meets Tryz.prog 4 [.slice va v.length vc, .slice ta ts.length tc] F [] H (fun e _ => e = .returned (.bool true)) := by
 refine Meets.enter Tryz.func4 rfl rfl ?_
 have iv : ∀ {X : List Res}, Rd F [] X va (v.flatMap ndV) := fun {X} => hRv X
 have it : ∀ {X : List Res}, Rd F [] X ta (ts.map sV) := fun {X} => hRt X
 repeat' (first | ((first | apply T.mv | apply T.asn); apply rfl; apply rfl) | (with_reducible first | refine Sr.nil ?_ | refine S.seq ?_ | refine S.reg ?_) | fail)
 refine T.call rfl rfl (beyond_spec (v := v) (hRv _) hk (by omega)) ?_
 rintro _ _ ⟨bb, rfl, rfl⟩
 cases bb with
 | true =>
  repeat' (first | (apply T.asn; apply rfl; apply rfl) | (with_reducible first | refine Sr.nil ?_ | refine S.seq ?_ | refine S.reg ?_) | (apply S.condTV; apply rfl; (first | with_reducible rfl | decide)) | (apply T.retW; apply rfl) | (with_reducible apply T.ofRet) | fail)
  exact ⟨_, PSub.refl _, rfl⟩
 | false =>
  repeat' (first | (with_reducible first | refine Sr.nil ?_ | refine S.seq ?_ | refine S.reg ?_ | refine S.skip ?_) | (apply S.condFV; apply rfl; (first | with_reducible rfl | decide)) | (with_reducible apply T.ofRet) | fail)
  refine T.call rfl rfl (alive_spec hT hS) ?_
  rintro _ _ ⟨rfl, rfl⟩
  repeat' (first | (apply T.mv; apply rfl; apply rfl) | (apply T.notB; apply rfl; apply rfl) | (with_reducible first | refine Sr.nil ?_ | refine S.seq ?_ | refine S.reg ?_ | refine S.skip ?_) | (apply S.condFV; apply rfl; (first | with_reducible rfl | decide)) | (with_reducible apply T.ofRet) | fail)
  have hk2 : ∀ n ∈ v, n.kids ≤ 9223372036854775807 := fun n hn => (hk n hn).2
  refine T.call rfl rfl (reveal_spec (v := v) (ts := ts) hT hS iv it hb hk2 (by omega) (by omega)) ?_
  have hcode := revealX_code (ok := Lib.validD) (rd := readT) (v := v) (ts := ts)
  generalize hX : revealX Lib.validD readT v ts = z at *
  obtain ⟨c, out⟩ := z
  rintro _ _ ⟨oa, oc, rfl, rfl⟩
  dsimp only at hcode ⊢
  by_cases c0 : c = 0
  ·subst c0
   clear hcode
   obtain ⟨hV, hyb, hyl⟩ := revealX_b hb (by omega) hX
   obtain ⟨l1, l2, l3, L, l4, l5, l6⟩ := asked_law hV (fun t s h => by
    obtain ⟨a, w, -, -, -, -, p5, p6, -⟩ := readT_parts h
    exact ⟨p5, p6⟩) hX
   have hpl : plainB out = true := plainB_iff.2 ⟨l3, l2⟩
   obtain ⟨of1, -⟩ := shaped_fo l1
   have okd : ∀ n ∈ out, n.kids ≤ 9223372036854775807 := fun n hn => by
    have := of1.kids_le n hn
    omega
   repeat' (first | ((first | apply T.mv | apply T.asn); apply rfl; apply rfl) | ((first | apply T.neq | apply T.extract); (iterate 3 apply rfl)) | (with_reducible first | refine Sr.nil ?_ | refine S.seq ?_ | refine S.reg ?_ | refine S.skip ?_) | (apply S.condFV; apply rfl; (first | with_reducible rfl | decide)) | (with_reducible apply T.ofRet) | fail)
   refine T.call rfl rfl (plainL_spec (v := out) Rd.row (by omega)) ?_
   rintro _ _ ⟨rfl, rfl⟩
   rw [hpl]
   repeat' (first | (apply T.mv; apply rfl; apply rfl) | (apply T.notB; apply rfl; apply rfl) | (apply T.ungV; apply rfl; (first | with_reducible rfl | decide)) | (with_reducible apply T.ofRet) | fail)
   refine T.call rfl rfl (shaped_spec (v := out) hT rfl hyl fun x hx => ⟨fun _ => (hyb x hx).1, Nat.le_trans (hyb x hx).1 (by omega), (hyb x hx).2, okd x hx⟩) ?_
   rintro _ _ ⟨rfl, rfl⟩
   rw [l1]
   have part : ∀ i, i < ts.length → ∃ s a, L[i]? = some s ∧ (decX (ts.getD i [])).2.1 = 0 ∧ parseX wholeX (decX (ts.getD i [])).1 = .ok a (partOf (ts.getD i [])) ∧ (∀ n ∈ s.value, n ∈ partOf (ts.getD i [])) ∧ s.dig = digestOf (ts.getD i []) := fun i hi => by
    obtain ⟨g1, g2⟩ := allO_get l4
    obtain ⟨s, e1, e2⟩ := g2 i (ts.getD i []) (by rw [List.getD_eq_getElem?_getD, List.getElem?_eq_getElem hi]; rfl)
    obtain ⟨a, w, -, p2, p3, p4, -, -, p7⟩ := readT_parts e1
    have hw : partOf (ts.getD i []) = w := by unfold partOf; rw [p3]
    rw [hw]
    exact ⟨s, a, e2, p2, p3, p4, p7⟩
   have lenB : ∀ i, i < ts.length → (ts.getD i []).length ≤ 1048576 := fun i hi => by
    have := sum_mem (a := ts.getD i []) (ts := ts) (by rw [List.getD_eq_getElem?_getD, List.getElem?_eq_getElem hi]; exact List.getElem_mem hi)
    omega
   repeat' (first | (apply T.asn; apply rfl; apply rfl) | (apply T.notB; apply rfl; apply rfl) | (apply T.pickF; (iterate 3 apply rfl)) | (with_reducible first | refine Sr.nil ?_ | refine S.seq ?_ | refine S.block ?_ | refine S.reg ?_ | refine S.skip ?_) | (apply T.ungV; apply rfl; (first | with_reducible rfl | decide)) | (apply S.condFV; apply rfl; (first | with_reducible rfl | decide)) | (with_reducible apply T.ofRet) | fail)
   refine S.loopE 0 [0, 1, 5] (fun R b' μ H' e => ∃ i : Nat, H' = R ∧ e = (7, .int .i64 i) :: b' ∧ i ≤ ts.length ∧ μ = ts.length - i) rfl rfl ?_ _ _ ⟨0, rfl, rfl, Nat.zero_le _, rfl⟩ (by repeat' first | exact trivial | refine And.intro rfl ?_)
   rintro _ _ _ ⟨i, hR1, rfl, hi, rfl⟩ ih
   have hR2 := hR1.symm
   subst hR2
   by_cases h3 : i < ts.length
   ·obtain ⟨s, a, p1, p2, p3, p4, p5⟩ := part i h3
    repeat' (first | (apply T.loadS; apply rfl; infer_instance; (first | omega | (simp only [List.length_map]; omega)); apply rfl) | ((first | apply T.mv | apply T.len); apply rfl; apply rfl) | (apply T.lss; (iterate 3 apply rfl)) | (apply T.ixN; apply rfl; apply rfl; infer_instance; omega; (first | omega | (simp only [List.length_map]; omega) | (simp; omega)); apply rfl) | (with_reducible first | refine Sr.nil ?_ | refine S.seq ?_ | refine S.block ?_ | refine S.reg ?_ | refine S.skip ?_) | (apply S.condQ; apply rfl; all_goals (intro _; try (exfalso; first | omega | with_reducible contradiction))) | fail)
    refine T.call rfl rfl (digest_spec hS (by have := lenB i h3; omega)) ?_
    rintro _ _ ⟨rfl, hH⟩
    have hH2 := hH.symm
    subst hH2
    repeat' (first | ((first | apply T.mv | apply T.asn); apply rfl; apply rfl) | (with_reducible first | refine Sr.nil ?_ | refine S.seq ?_ | refine S.reg ?_) | (with_reducible apply T.ofRet) | fail)
    refine T.call rfl rfl (stands_spec (v := v) (hRv _) (by omega)) ?_
    rintro _ _ ⟨rfl, hH⟩
    have hH2 := hH.symm
    subst hH2
    repeat' (first | (apply T.asn; apply rfl; apply rfl) | (with_reducible first | refine Sr.nil ?_ | refine S.seq ?_ | refine S.block ?_ | refine S.reg ?_) | (with_reducible apply T.ofRet) | fail)
    refine S.loopE 0 [0, 1, 5, 7, 8] (fun R b' μ H' e => ∃ (j : Nat) (b : Bool), H' = R ∧ e = (9, .bool b) :: (10, .int .i64 j) :: b' ∧ (j ≤ ts.length ∧ (standsB v (digestOf (ts.getD i [])) = true ∨ (∃ k, k < j ∧ k ≠ i ∧ standsB (partOf (ts.getD k [])) (digestOf (ts.getD i [])) = true) → b = true)) ∧ μ = ts.length - j) rfl rfl ?_ _ _ ⟨0, _, rfl, rfl, ⟨Nat.zero_le _, fun h => h.elim id fun ⟨k, hk, _⟩ => by omega⟩, rfl⟩ (by repeat' first | exact trivial | refine And.intro rfl ?_)
    rintro _ _ _ ⟨j, b, hR1, rfl, ⟨hj, hjb⟩, rfl⟩ ih2
    have hR2 := hR1.symm
    subst hR2
    by_cases h4 : j < ts.length
    ·obtain ⟨s', a', q1, q2, q3, q4, q5⟩ := part j h4
     have hlj := lenB j h4
     repeat' (first | (apply T.loadS; apply rfl; infer_instance; (first | omega | (simp only [List.length_map]; omega)); apply rfl) | ((first | apply T.mv | apply T.len); apply rfl; apply rfl) | (apply T.lss; (iterate 3 apply rfl)) | (apply T.ixN; apply rfl; apply rfl; infer_instance; omega; (first | omega | (simp only [List.length_map]; omega) | (simp; omega)); apply rfl) | (with_reducible first | refine Sr.nil ?_ | refine S.seq ?_ | refine S.block ?_ | refine S.reg ?_ | refine S.skip ?_) | (apply S.condQ; apply rfl; all_goals (intro _; try (exfalso; first | omega | with_reducible contradiction))) | fail)
     refine T.call rfl rfl (b64decode_spec (s := ts.getD j []) (by omega)) ?_
     rintro _ _ ⟨ad, cp, rfl, rfl⟩
     have hdl : (decX (ts.getD j [])).1.length ≤ (ts.getD j []).length := decO_len (by unfold decO; rw [if_pos q2])
     rw [q2]
     generalize (decX (ts.getD j [])).1 = bs at *
     repeat' (first | (apply T.convS; apply rfl; infer_instance; (first | rfl | assumption | exact beN_len _ _ | (simp; done) | (simp; omega)); apply rfl) | ((first | apply T.mv | apply T.asn); apply rfl; apply rfl) | (apply T.extract; (iterate 3 apply rfl)) | (with_reducible first | refine Sr.nil ?_ | refine S.seq ?_ | refine S.reg ?_) | (with_reducible apply T.ofRet) | fail)
     refine T.call rfl rfl (parse_spec hT (by simp only [maxLen]; omega)) ?_
     rw [q3]
     rintro _ _ ⟨wa, wc, rfl, rfl⟩
     obtain ⟨wl, -, -⟩ := parse_bounds q3
     cases b with
     | true =>
      repeat' (first | ((first | apply T.mv | apply T.asn); apply rfl; apply rfl) | ((first | apply T.neq | apply T.extract); (iterate 3 apply rfl)) | (apply T.addI; apply rfl; apply rfl; omega; apply rfl) | (apply T.pickT; (iterate 3 apply rfl)) | (apply T.pickF; (iterate 3 apply rfl)) | (with_reducible first | refine Sr.nil ?_ | refine S.seq ?_ | refine S.reg ?_ | refine S.skip ?_ | refine S.inBlock ?_) | (apply T.ungV; apply rfl; (first | with_reducible rfl | decide)) | (apply T.skip; apply rfl; (first | with_reducible rfl | decide); apply rfl) | (apply T.skipU; apply rfl; apply rfl) | (apply S.condFV; apply rfl; (first | with_reducible rfl | decide)) | (with_reducible apply T.ofRet) | fail)
      refine S.sublist ?_ (PSub.drop (PSub.drop (PSub.refl _)))
      exact ih2 _ _ _ _ ⟨j + 1, true, rfl, rfl, ⟨by omega, fun _ => rfl⟩, rfl⟩ (by omega) (by repeat' first | exact trivial | refine And.intro rfl ?_)
     | false =>
      by_cases hji : j = i
      ·subst hji
       repeat' (first | ((first | apply T.mv | apply T.asn); apply rfl; apply rfl) | ((first | apply T.neq | apply T.extract); (iterate 3 apply rfl)) | (apply T.addI; apply rfl; apply rfl; omega; apply rfl) | (apply T.pickF; (iterate 3 apply rfl)) | (with_reducible first | refine Sr.nil ?_ | refine S.seq ?_ | refine S.reg ?_ | refine S.skip ?_ | refine S.inBlock ?_) | (apply T.ungV; apply rfl; (first | with_reducible rfl | decide)) | (apply T.skip; apply rfl; (first | with_reducible rfl | decide); apply rfl) | (apply S.condFV; apply rfl; (first | with_reducible rfl | decide)) | (apply T.gcase; apply rfl; apply rfl; all_goals (intro _; try (exfalso; first | omega | with_reducible contradiction))) | (with_reducible apply T.ofRet) | fail)
       refine S.sublist ?_ (PSub.drop (PSub.drop (PSub.refl _)))
       exact ih2 _ _ _ _ ⟨j + 1, false, rfl, rfl, ⟨by omega, fun h => hjb (h.elim .inl fun ⟨k, hk1, hk2, hk3⟩ => .inr ⟨k, by omega, hk2, hk3⟩)⟩, rfl⟩ (by omega) (by repeat' first | exact trivial | refine And.intro rfl ?_)
      ·repeat' (first | ((first | apply T.mv | apply T.asn); apply rfl; apply rfl) | ((first | apply T.neq | apply T.extract); (iterate 3 apply rfl)) | (apply T.pickF; (iterate 3 apply rfl)) | (with_reducible first | refine Sr.nil ?_ | refine S.seq ?_ | refine S.reg ?_ | refine S.skip ?_) | (apply T.ungV; apply rfl; (first | with_reducible rfl | decide)) | (apply S.condFV; apply rfl; (first | with_reducible rfl | decide)) | (apply T.gcase; apply rfl; apply rfl; all_goals (intro _; try (exfalso; first | omega | with_reducible contradiction))) | (with_reducible apply T.ofRet) | fail)
       refine T.call rfl rfl (stands_spec (v := partOf (ts.getD j [])) Rd.row (by omega)) ?_
       rintro _ _ ⟨rfl, hH⟩
       have hH2 := hH.symm
       subst hH2
       repeat' (first | ((first | apply T.mv | apply T.asn); apply rfl; apply rfl) | (apply T.addI; apply rfl; apply rfl; omega; apply rfl) | (apply T.pickT; (iterate 3 apply rfl)) | (apply T.pickF; (iterate 3 apply rfl)) | (with_reducible first | refine Sr.nil ?_ | refine S.reg ?_ | refine S.inBlock ?_) | (apply T.ungV; apply rfl; (first | with_reducible rfl | decide)) | (with_reducible apply T.ofRet) | fail)
       refine S.sublist ?_ (PSub.drop (PSub.drop (PSub.refl _)))
       exact ih2 _ _ _ _ ⟨j + 1, _, rfl, rfl, ⟨by omega, fun h => by
        rcases h with h | ⟨k, hk1, hk2, hk3⟩
        ·exact absurd (hjb (.inl h)) (by simp)
        ·by_cases hkj : k = j
         ·subst hkj
          exact hk3
         ·exact absurd (hjb (.inr ⟨k, by omega, hk2, hk3⟩)) (by simp)⟩, rfl⟩ (by omega) (by repeat' first | exact trivial | refine And.intro rfl ?_)
    ·obtain rfl : j = ts.length := by omega
     have hbt : b = true := by
      refine hjb ?_
      rcases l5 i s p1 with h5 | ⟨k, s', h5, h6, h7⟩
      ·rw [← p5]
       exact .inl (standsB_iff.2 h5)
      ·have hkl : k < ts.length := by
        have h8 := (allO_get l4).1
        have h9 := (List.getElem?_eq_some_iff.1 h6).1
        omega
       obtain ⟨s2, a2, r1, -, -, r4, -⟩ := part k hkl
       rw [h6] at r1
       cases r1
       refine .inr ⟨k, hkl, h5, ?_⟩
       rw [← p5]
       obtain ⟨n, n1, n2⟩ := h7
       exact standsB_iff.2 ⟨n, r4 n n1, n2⟩
     clear ih2 hjb
     subst hbt
     repeat' (first | ((first | apply T.mv | apply T.len); apply rfl; apply rfl) | (apply T.lss; (iterate 3 apply rfl)) | (with_reducible first | refine Sr.nil ?_ | refine S.seq ?_ | refine S.reg ?_) | fail)
     refine S.nilrow 9 1 ?_
     have htl1 : (ts.take i).length = i := by rw [List.length_take]; omega
     have hdl1 : (ts.drop (i + 1)).length = ts.length - (i + 1) := List.length_drop ..
     repeat' (first | (apply Sr.same; refine T.appendAll (g := sV) (xs := []) (us := ts.take i) rfl rfl inferInstance (Rd.take1 it i) htl1 (fun _ => rfl) rfl (by constructor <;> omega) rfl ?_; intro oa2 oc2) | (apply Sr.same; refine T.appendAll (g := sV) (xs := [] ++ ts.take i) (us := ts.drop (i + 1)) rfl rfl inferInstance (Rd.sub1 it htc) hdl1 (fun _ => rfl) rfl (by constructor <;> omega) rfl ?_; intro oa3 oc3) | ((first | apply T.mv | apply T.asn); apply rfl; apply rfl) | (apply T.addI; apply rfl; apply rfl; omega; apply rfl) | (apply T.notB; apply rfl; apply rfl) | (apply T.sliceHK; apply rfl; apply rfl; omega; apply rfl) | (apply T.sliceL; apply rfl; apply rfl; omega; apply rfl) | (with_reducible first | refine Sr.nil ?_ | refine S.seq ?_ | refine S.reg ?_ | refine S.skip ?_) | (apply S.exit; apply rfl) | (apply S.condFV; apply rfl; (first | with_reducible rfl | decide)) | (apply S.condQ; apply rfl; all_goals (intro _; try (exfalso; first | omega | with_reducible contradiction))) | fail)
     have hfl : 0 + i + (ts.length - ((i : Int) + 1).toNat) = (ts.take i ++ ts.drop (i + 1)).length := by
      rw [List.length_append, htl1, hdl1]
      omega
     have hfs : ((ts.take i ++ ts.drop (i + 1)).map List.length).sum ≤ (ts.map List.length).sum := by
      have h8 := sum_app (ts.take i) (ts.drop i)
      have h9 := sum_app [ts.getD i []] (ts.drop (i + 1))
      rw [List.take_append_drop] at h8
      rw [show [ts.getD i []] ++ ts.drop (i + 1) = ts.drop i by rw [List.getD_eq_getElem?_getD, List.getElem?_eq_getElem h3]; exact List.getElem_cons_drop ..] at h9
      rw [sum_app]
      omega
     have hfn : (ts.take i ++ ts.drop (i + 1)).length ≤ ts.length := by
      rw [List.length_append, htl1, hdl1]
      omega
     have hless := l6 i h3
     rw [hfl, List.nil_append]
     clear hfl htl1 hdl1
     generalize ts.take i ++ ts.drop (i + 1) = few at *
     skip
     refine T.call rfl rfl (reveal_spec (v := v) (ts := few) hT hS iv Rd.row hb hk2 (by omega) (by omega)) ?_
     generalize revealX Lib.validD readT v few = z2 at *
     obtain ⟨c2, y2⟩ := z2
     rintro _ _ ⟨pa, pc, rfl, rfl⟩
     dsimp only at hless ⊢
     by_cases c0 : c2 = 0
     ·subst c0
      have hlt := hless y2 rfl
      repeat' (first | ((first | apply T.mv | apply T.asn | apply T.len); apply rfl; apply rfl) | ((first | apply T.geq | apply T.eql | apply T.extract); (iterate 3 apply rfl)) | (apply T.addI; apply rfl; apply rfl; omega; apply rfl) | (apply T.pickT; (iterate 3 apply rfl)) | (with_reducible first | refine Sr.nil ?_ | refine S.seq ?_ | refine S.reg ?_ | refine S.skip ?_ | refine S.inBlock ?_) | (apply T.ungV; apply rfl; (first | with_reducible rfl | decide)) | (apply S.condQ; apply rfl; all_goals (intro _; try (exfalso; first | omega | with_reducible contradiction))) | (with_reducible apply T.ofRet) | fail)
      refine S.sublist ?_ (PSub.drop (PSub.drop (PSub.refl _)))
      exact ih _ _ _ _ ⟨i + 1, rfl, rfl, by omega, rfl⟩ (by omega) (by repeat' first | exact trivial | refine And.intro rfl ?_)
     ·repeat' (first | ((first | apply T.mv | apply T.asn); apply rfl; apply rfl) | ((first | apply T.eql | apply T.extract); (iterate 3 apply rfl)) | (apply T.addI; apply rfl; apply rfl; omega; apply rfl) | (apply T.pickF; (iterate 3 apply rfl)) | (with_reducible first | refine Sr.nil ?_ | refine S.seq ?_ | refine S.reg ?_ | refine S.skip ?_ | refine S.inBlock ?_) | (apply T.skip; apply rfl; (first | with_reducible rfl | decide); apply rfl) | (apply S.condFV; apply rfl; (first | with_reducible rfl | decide)) | (apply T.gcase; apply rfl; apply rfl; all_goals (intro _; try (exfalso; first | omega | with_reducible contradiction))) | (with_reducible apply T.ofRet) | fail)
      refine S.sublist ?_ (PSub.drop (PSub.drop (PSub.refl _)))
      exact ih _ _ _ _ ⟨i + 1, rfl, rfl, by omega, rfl⟩ (by omega) (by repeat' first | exact trivial | refine And.intro rfl ?_)
   ·clear ih
    repeat' (first | ((first | apply T.mv | apply T.asn | apply T.len); apply rfl; apply rfl) | (apply T.lss; (iterate 3 apply rfl)) | (with_reducible first | refine Sr.nil ?_ | refine S.seq ?_ | refine S.reg ?_) | (apply S.exit; apply rfl) | (apply S.condQ; apply rfl; all_goals (intro _; try (exfalso; first | omega | with_reducible contradiction))) | (apply T.retW; apply rfl) | fail)
    exact ⟨_, PSub.refl _, rfl⟩
  ·have hc := hcode.resolve_left c0
   clear hcode
   obtain ⟨rfl, hc⟩ := hc
   rcases hc with rfl | rfl | rfl
   ·repeat' (first | ((first | apply T.mv | apply T.asn | apply T.len); apply rfl; apply rfl) | ((first | apply T.eql | apply T.neq | apply T.extract); (iterate 3 apply rfl)) | (apply T.pickT; (iterate 3 apply rfl)) | (with_reducible first | refine Sr.nil ?_ | refine S.seq ?_ | refine S.reg ?_) | (apply T.ungV; apply rfl; (first | with_reducible rfl | decide)) | (apply T.skip; apply rfl; (first | with_reducible rfl | decide); apply rfl) | (apply S.condTV; apply rfl; (first | with_reducible rfl | decide)) | (apply T.retW; apply rfl) | (with_reducible apply T.ofRet) | fail)
    exact ⟨_, PSub.refl _, rfl⟩
   ·repeat' (first | ((first | apply T.mv | apply T.asn | apply T.len); apply rfl; apply rfl) | ((first | apply T.eql | apply T.neq | apply T.extract); (iterate 3 apply rfl)) | (apply T.pickT; (iterate 3 apply rfl)) | (apply T.pickF; (iterate 3 apply rfl)) | (with_reducible first | refine Sr.nil ?_ | refine S.seq ?_ | refine S.reg ?_) | (apply T.ungV; apply rfl; (first | with_reducible rfl | decide)) | (apply T.skip; apply rfl; (first | with_reducible rfl | decide); apply rfl) | (apply S.condTV; apply rfl; (first | with_reducible rfl | decide)) | (apply T.retW; apply rfl) | (with_reducible apply T.ofRet) | fail)
    exact ⟨_, PSub.refl _, rfl⟩
   ·repeat' (first | ((first | apply T.mv | apply T.asn | apply T.len); apply rfl; apply rfl) | ((first | apply T.eql | apply T.neq | apply T.extract); (iterate 3 apply rfl)) | (apply T.pickT; (iterate 3 apply rfl)) | (apply T.pickF; (iterate 3 apply rfl)) | (with_reducible first | refine Sr.nil ?_ | refine S.seq ?_ | refine S.reg ?_) | (apply T.ungV; apply rfl; (first | with_reducible rfl | decide)) | (apply S.condTV; apply rfl; (first | with_reducible rfl | decide)) | (apply T.retW; apply rfl) | (with_reducible apply T.ofRet) | fail)
    exact ⟨_, PSub.refl _, rfl⟩
end
end Go.Proofs.YtjajcmedipjfhaaGreatDoor
/- From a walk of a law to its row, the world's shape handed on. -/
namespace Sg
open Go Go.ChangeShapes Go.WideShapes Go.RowKit
section
variable {H : Type} {enc : TypeId × Value → H}
end
theorem laid_words {P : Program} {W : World} {nm : String} {g T E n : Nat} {ns : List UInt32} {cs : Array Value} {fuel : Nat} {p : List MemPlace} {sp : Nat → Bool} (hg : P.globalNamed nm = some g) (hT : P.underlying T = some (.array n E)) (hE : P.underlying E = some (.int .u32)) (hc : P.cellsOf E = 1)
  (hv : W.var? P nm = some cs) (hd : DataW.trod (fun _ => ()) P W 0 sp false fuel T cs.toList = some (.agg (ns.map fun z => .lit (.int .u32 (z.toNat : Int))), p)) (H : List Res) : Rd W [] H (some ⟨g, 0, none⟩) (ns.map fun z => .int .u32 ((z.toNat : Nat) : Int)) := by
 have hm : (ns.map fun z => (DataW.lit (.int .u32 (z.toNat : Int)) : DataW Unit)) = (ns.map fun z => (z.toNat : Int)).map fun z => .lit (.int .u32 z) := by rw [List.map_map]; rfl
 rw [hm] at hd
 have h1 := laid_ints (k := .u32) (ns := ns.map fun z => (z.toNat : Int)) hg hT hE hc hv hd
 refine .ofF fun j u hu => ⟨_, rfl, ?_⟩
 rw [addr_add, Nat.zero_add]
 rw [List.getElem?_map] at hu
 cases hn : ns[j]? with
 | none => rw [hn] at hu; cases hu
 | some z =>
  rw [hn] at hu
  simp only [Option.map_some, Option.some.injEq] at hu
  subst hu
  exact h1 j _ (by rw [List.getElem?_map, hn]; rfl)
theorem laid_find {P : Program} {W : World} {nm : String} {d : DataW Unit} : ∀ {l : List (String × DataW Unit)} {ps : List MemPlace}, DataW.LaidVars P W l ps → (nm, d) ∈ l →
  ∃ g t cs fuel p, P.globalNamed nm = some g ∧ (P.globals[g]?).map (·.type) = some t ∧ W.var? P nm = some cs ∧ DataW.trod (fun _ => ()) P W 0 (fun _ => true) false fuel t cs.toList = some (d, p)
 | [], _, _, hm => by cases hm
 | (n, e) :: r, ps, h, hm => by
  obtain ⟨g, t, cs, fuel, p, q, h1, h2, h3, h4, h5, -⟩ := h
  rcases List.mem_cons.1 hm with hm | hm
  ·simp only [Prod.mk.injEq] at hm
   obtain ⟨rfl, rfl⟩ := hm
   exact ⟨g, t, cs, fuel, p, h1, h2, h3, h4⟩
  ·exact laid_find h5 hm
theorem laid_rd {P : Program} {W : World} {nm : String} {d : DataW Unit} {l : List (String × DataW Unit)} {g T E n : Nat} {ns : List UInt32} (h : laidMet P l W) (hm : (nm, d) ∈ l) (hg : P.globalNamed nm = some g) (ht : (P.globals[g]?).map (·.type) = some T) (hT : P.underlying T = some (.array n E)) (hE : P.underlying E = some (.int .u32)) (hc : P.cellsOf E = 1)
  (hd : d = .agg (ns.map fun z => .lit (.int .u32 (z.toNat : Int)))) (H : List Res) : Rd W [] H (some ⟨g, 0, none⟩) (ns.map fun z => .int .u32 ((z.toNat : Nat) : Int)) := by
 obtain ⟨ps, hl, -, -⟩ := h
 obtain ⟨g', t', cs, fuel, p, h1, h2, h3, h4⟩ := laid_find hl hm
 obtain rfl := Option.some.inj (hg.symm.trans h1)
 obtain rfl := Option.some.inj (ht.symm.trans h2)
 subst hd
 exact laid_words hg hT hE hc h3 h4 H
end Sg
/- The tables that the laws' worlds hold, from what the cards list. -/
namespace Go.Proofs.YtjajcmedipjfhaaGreatDoor
open Sg Go Go.ChangeShapes Go.WideShapes Go.RowKit Go.Lib
set_option maxRecDepth 100000
theorem own : ownKnob Tryz.prog.godebug = none := by kernel_rfl
theorem laidOut : laidOutB Tryz.prog = true := by kernel_rfl
theorem n_first : Tryz.prog.globalNamed "unicode/utf8.first" = some 0 := by kernel_rfl
theorem n_acc : Tryz.prog.globalNamed "unicode/utf8.acceptRanges" = some 1 := by kernel_rfl
theorem c_u8 : Tryz.prog.cellsOf 5 = 1 := by kernel_rfl
theorem t_first : (Tryz.prog.globals[0]?).map (·.type) = some 120 := by kernel_rfl
theorem t_acc : (Tryz.prog.globals[1]?).map (·.type) = some 123 := by kernel_rfl
theorem first_nums : Rows.laid_unicode_utf8_first = .agg (((List.range 256).map fun c => ((firstT c : Nat) : Int)).map fun z => .lit (.int .u8 z)) := by kernel_rfl
theorem acc_pairs : (Rows.laid_unicode_utf8_acceptRanges : DataW Unit) = .agg ((List.range 16).map fun i => .agg [.lit (.int .u8 (accLo i : Nat)), .lit (.int .u8 (accHi i : Nat))]) := by kernel_rfl
theorem laid_pairs {P : Program} {W : World} {nm : String} {g T E f0 n : Nat} {ps : List (Int × Int)} {cs : Array Value} {fuel : Nat} {p : List MemPlace} {sp : Nat → Bool} {fa fb : Field} (hg : P.globalNamed nm = some g) (hT : P.underlying T = some (.array n E)) (hE : P.underlying E = some (.struct #[fa, fb])) (hc : P.cellsOf E = 2)
  (ha : fa.type = f0 ∧ fa.offset = 0) (hb : fb.type = f0 ∧ fb.offset = 1) (h0 : P.underlying f0 = some (.int .u8)) (hc0 : P.cellsOf f0 = 1)
  (hv : W.var? P nm = some cs) (hd : DataW.trod (fun _ => ()) P W 0 sp false fuel T cs.toList = some (.agg (ps.map fun z => .agg [.lit (.int .u8 z.1), .lit (.int .u8 z.2)]), p)) :
  ∀ j z, ps[j]? = some z → W.cell? ⟨g, 2 * j, none⟩ = some (.int .u8 z.1) ∧ W.cell? ⟨g, 2 * j + 1, none⟩ = some (.int .u8 z.2) := by
 intro j z hz
 obtain ⟨xs, m, rfl, hx, hlen, hn, hel⟩ := DataW.trod_array hT hd
 simp only [Prod.mk.injEq, DataW.agg.injEq] at hx
 have hj : j < ps.length := (List.getElem?_eq_some_iff.1 hz).1
 have hxl : xs.length = ps.length := by
  have := congrArg List.length hx.1
  simpa using this.symm
 have h1 := hel j (by omega)
 rw [hc, List.getElem?_eq_getElem (by omega)] at h1
 obtain ⟨y0, y1, m', e1, e2, e3, e4⟩ := Go.ChangeShapes.trod_struct2 hE h1
 rw [ha.1, ha.2, hc0, List.drop_zero] at e3
 rw [hb.1, hb.2, hc0] at e4
 obtain ⟨z0, k1, k2, -⟩ := DataW.trod_int h0 e3
 obtain ⟨z1, k3, k4, -⟩ := DataW.trod_int h0 e4
 have h2 : (xs.map (·.1))[j]? = (ps.map fun z => (DataW.agg [.lit (.int .u8 z.1), .lit (.int .u8 z.2)] : DataW Unit))[j]? := by rw [hx.1]
 rw [List.getElem?_map, List.getElem?_map, hz, List.getElem?_eq_getElem (by omega), e1] at h2
 simp only [Option.map_some, Option.some.injEq, DataW.agg.injEq, List.cons.injEq, and_true, k2, k4, DataW.lit.injEq, Lit.int.injEq, true_and] at h2
 obtain ⟨rfl, rfl⟩ := h2
 have q0 : cs[2 * j]? = some (.int .u8 z.1) := by
  have h4 : (((cs.toList.drop (j * 2)).take 2).take 1)[0]? = some (.int .u8 z.1) := by rw [k1]; rfl
  rw [List.getElem?_take_of_lt (by omega), List.getElem?_take_of_lt (by omega), List.getElem?_drop] at h4
  simpa [Nat.mul_comm] using h4
 have q1 : cs[2 * j + 1]? = some (.int .u8 z.2) := by
  have h4 : ((((cs.toList.drop (j * 2)).take 2).drop 1).take 1)[0]? = some (.int .u8 z.2) := by rw [k3]; rfl
  rw [List.getElem?_take_of_lt (by omega), List.getElem?_drop, List.getElem?_take_of_lt (by omega), List.getElem?_drop] at h4
  simpa [Nat.mul_comm, Nat.add_comm] using h4
 exact ⟨by rw [World.var?_cell hg hv]; exact q0, by rw [World.var?_cell hg hv]; exact q1⟩
theorem tabs_of {W : World} {ls : List (String × DataW Unit)} (h : laidMet Tryz.prog ls W) (m1 : ("unicode/utf8.first", Rows.laid_unicode_utf8_first) ∈ ls) (m2 : ("unicode/utf8.acceptRanges", Rows.laid_unicode_utf8_acceptRanges) ∈ ls) : Tabs W [] := by
 obtain ⟨ps, hl, -, -⟩ := h
 constructor
 ·intro H
  obtain ⟨g', t', cs, fuel, p, h1, h2, h3, h4⟩ := laid_find hl m1
  obtain rfl := Option.some.inj (n_first.symm.trans h1)
  obtain rfl := Option.some.inj (t_first.symm.trans h2)
  rw [first_nums] at h4
  have h5 := laid_ints (k := .u8) n_first Tryz.underlying120 Tryz.underlying5 c_u8 h3 h4
  refine .ofF fun j u hu => ⟨_, rfl, ?_⟩
  rw [addr_add, Nat.zero_add]
  unfold firstL at hu
  rw [List.getElem?_map] at hu
  cases hn : (List.range 256)[j]? with
  | none => rw [hn] at hu; cases hu
  | some c =>
   rw [hn] at hu
   simp only [Option.map_some, Option.some.injEq] at hu
   subst hu
   exact h5 j _ (by rw [List.getElem?_map, hn]; rfl)
 ·intro H
  obtain ⟨g', t', cs, fuel, p, h1, h2, h3, h4⟩ := laid_find hl m2
  obtain rfl := Option.some.inj (n_acc.symm.trans h1)
  obtain rfl := Option.some.inj (t_acc.symm.trans h2)
  rw [acc_pairs] at h4
  have hmm : ((List.range 16).map fun i => (DataW.agg [.lit (.int .u8 (accLo i : Nat)), .lit (.int .u8 (accHi i : Nat))] : DataW Unit)) = ((List.range 16).map fun i => (((accLo i : Nat) : Int), ((accHi i : Nat) : Int))).map fun z => .agg [.lit (.int .u8 z.1), .lit (.int .u8 z.2)] := by rw [List.map_map]; rfl
  rw [hmm] at h4
  have h5 := laid_pairs n_acc Tryz.underlying123 Tryz.underlying122 (by kernel_rfl) ⟨rfl, rfl⟩ ⟨rfl, rfl⟩ Tryz.underlying5 c_u8 h3 h4
  refine .ofF fun j u hu => ⟨_, rfl, ?_⟩
  rw [addr_add, Nat.zero_add]
  have hj : j < 32 := by
   have := (List.getElem?_eq_some_iff.1 hu).1
   have hlen : accL.length = 32 := by decide
   omega
  have h6 := acc_two ⟨j / 2, by omega⟩
  simp only at h6
  have h7 := h5 (j / 2) (((accLo (j / 2) : Nat) : Int), ((accHi (j / 2) : Nat) : Int)) (by rw [List.getElem?_map, List.getElem?_range (by omega)]; rfl)
  rcases Nat.mod_two_eq_zero_or_one j with hm | hm
  ·have h8 : accL[j]? = some (.int .u8 (accLo (j / 2) : Nat)) := by
    have := congrArg (fun l => l[0]?) h6
    rw [show j = j / 2 * 2 by omega]
    simpa [List.getElem?_take, List.getElem?_drop] using this
   rw [h8] at hu
   cases hu
   have := h7.1
   rwa [show 2 * (j / 2) = j by omega] at this
  ·have h8 : accL[j]? = some (.int .u8 (accHi (j / 2) : Nat)) := by
    have := congrArg (fun l => l[1]?) h6
    rw [show j = j / 2 * 2 + 1 by omega]
    simpa [List.getElem?_take, List.getElem?_drop, show (j / 2 * 2 + 1) / 2 = j / 2 by omega] using this
   rw [h8] at hu
   cases hu
   have := h7.2
   rwa [show 2 * (j / 2) + 1 = j by omega] at this
theorem n_k : Tryz.prog.globalNamed "signet/sha.k256" = some 11 := by kernel_rfl
theorem n_g : Tryz.prog.globalNamed "signet/sha.start256" = some 2 := by kernel_rfl
theorem c52 : Tryz.prog.cellsOf 155 = 1 := by kernel_rfl
theorem t_k : (Tryz.prog.globals[11]?).map (·.type) = some 197 := by kernel_rfl
theorem t_g : (Tryz.prog.globals[2]?).map (·.type) = some 156 := by kernel_rfl
theorem shp_of {W : World} {ls : List (String × DataW Unit)} (h : laidMet Tryz.prog ls W) (m1 : ("signet/sha.k256", Rows.laid_signet_sha_k256) ∈ ls) (m2 : ("signet/sha.start256", Rows.laid_signet_sha_start256) ∈ ls) : ShP W [] :=
 ⟨fun H => laid_rd h (nm := "signet/sha.k256") (d := Rows.laid_signet_sha_k256) m1 n_k t_k Tryz.underlying197 Tryz.underlying155 c52 (by kernel_rfl) H,
  fun H => laid_rd h (nm := "signet/sha.start256") (d := Rows.laid_signet_sha_start256) m2 n_g t_g Tryz.underlying156 Tryz.underlying155 c52 (by kernel_rfl) H⟩
end Go.Proofs.YtjajcmedipjfhaaGreatDoor
